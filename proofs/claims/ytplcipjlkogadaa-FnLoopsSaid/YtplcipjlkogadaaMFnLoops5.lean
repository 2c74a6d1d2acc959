import Derived.Test.YtplcipjlkogadaaMFnLoops1
import Derived.Test.YtplcipjlkogadaaMFnLoops2
import Derived.Test.YtplcipjlkogadaaMFnLoops3
import Derived.Test.YtplcipjlkogadaaMFnLoops4
set_option linter.unusedVariables false
set_option linter.unusedSimpArgs false
set_option linter.unusedSectionVars false
namespace Go.Proofs.Ytplcipjlkogadaa.P
open Go.RowKit Go.Proofs.YtplcipjlkogadaaW.PrintWords Go.Proofs.YtplcipjlkogadaaW.PrintLast Go.Proofs.YtplcipjlkogadaaW.PrintMore
attribute [local go_sem] max2_int min2_int max_two min_two max_three min_three max_four min_four
mutual
def spec_l1Cur_graph.j0 : Nat → Int → List Int → Int → Int → Option ((List (List Int)) × Int × Int)
  | 0, _, _, _, _ => none
  | k + 1, x4, x1000, x1001, x1002 => spec_l1Cur_graph.l0 k x4 0 x1000 x1001 x1002 ([] : List (List Int))
def spec_l1Cur_graph.l0 : Nat → Int → Int → List Int → Int → Int → List (List Int) → Option ((List (List Int)) × Int × Int)
  | 0, _, _, _, _, _, _ => none
  | k + 1, x4, x5, x1000, x1001, x1002, x349000 => if x5 < x4 then (if (wrap64 (x5 + 1)) < x4 then ((spec_l1Cur_one.f x1000 x1001 x1002 4).bind fun bt358 => (spec_l1Cur_graph.j2 k x4 x5 ([] : List Int) (!bt358.1) x1000 bt358.2.1 bt358.2.2 x349000)) else (spec_l1Cur_graph.j2 k x4 x5 ([] : List Int) false x1000 x1001 x1002 x349000)) else ((spec_l1Cur_one.f x1000 x1001 x1002 30).bind fun bt376 => (if bt376.1 = true then (if 0 < (x349000.length : Int) then ((spec_l1Cur_among.f x1000 bt376.2.1 bt376.2.2 (([(-1), 0, x4] : List Int))).bind fun bt383 => (if (rd_L1 x349000 0).length < 17592186044416 then (some ((x349000.set (0 : Int).toNat ((rd_L1 x349000 0) ++ [bt383.1])), bt383.2.1, bt383.2.2)) else (none))) else (none)) else (some (x349000, bt376.2.1, bt376.2.2))))
def spec_l1Cur_graph.j2 : Nat → Int → Int → List Int → Bool → List Int → Int → Int → List (List Int) → Option ((List (List Int)) × Int × Int)
  | 0, _, _, _, _, _, _, _, _ => none
  | k + 1, x4, x5, x6, x30, x1000, x1001, x1002, x349000 => if x30 = true then ((spec_l1Put.f k x6 (wrap64 (x5 + 1))).bind fun t361 => (spec_l1Cur_graph.j3 k x4 x5 t361 x1000 x1001 x1002 x349000)) else (spec_l1Cur_graph.j3 k x4 x5 x6 x1000 x1001 x1002 x349000)
def spec_l1Cur_graph.j3 : Nat → Int → Int → List Int → List Int → Int → Int → List (List Int) → Option ((List (List Int)) × Int × Int)
  | 0, _, _, _, _, _, _, _ => none
  | k + 1, x4, x5, x6, x1000, x1001, x1002, x349000 => (spec_l1Cur_pick.f x1000 x1001 x1002 3).bind fun bt364 => (spec_l1Cur_graph.l1 k x4 x5 x6 bt364.1 x1000 bt364.2.1 bt364.2.2 x349000)
def spec_l1Cur_graph.l1 : Nat → Int → Int → List Int → Int → List Int → Int → Int → List (List Int) → Option ((List (List Int)) × Int × Int)
  | 0, _, _, _, _, _, _, _, _ => none
  | k + 1, x4, x5, x6, x7, x1000, x1001, x1002, x349000 => if x7 > 0 then ((spec_l1Cur_pick.f x1000 x1001 x1002 x4).bind fun bt367 => ((spec_l1Put.f k x6 bt367.1).bind fun t370 => (spec_l1Cur_graph.l1 k x4 x5 t370 (wrap64 (x7 - 1)) x1000 bt367.2.1 bt367.2.2 x349000))) else (if x349000.length < 5864062014805 then (spec_l1Cur_graph.l0 k x4 (wrap64 (x5 + 1)) x1000 x1001 x1002 (x349000 ++ [x6])) else (none))
end
def spec_l1Cur_graph.f (k : Nat) (s0_0 : List Int) (s0_1 : Int) (s0_2 : Int) : Option ((List (List Int)) × Int × Int) := (spec_l1Cur_pick.f s0_0 s0_1 s0_2 7).bind fun bt349 => ((spec_l1Cur_one.f s0_0 bt349.2.1 bt349.2.2 20).bind fun bt352 => (if bt352.1 = true then ((spec_l1Cur_pick.f s0_0 bt352.2.1 bt352.2.2 2).bind fun bt355 => (spec_l1Cur_graph.j0 k (wrap64 (12 + bt355.1)) s0_0 bt355.2.1 bt355.2.2)) else (spec_l1Cur_graph.j0 k (wrap64 (1 + bt349.1)) s0_0 bt352.2.1 bt352.2.2)))
def spec_l1Cur_graph.T17 : Bool × List (List Nat × List Nat) := (true, [([], []), ([0], [0]), ([], []), ([2], [2]), ([3], [3]), ([4], [4]), ([], []), ([], []), ([7], [7]), ([6, 8], [6, 8]), ([9], [9]), ([5, 10, 9], [5, 10]), ([1, 0, 1, 2, 3, 4, 5, 6, 7, 8, 9, 10, 11], [1]), ([12, 11, 11, 0, 1, 2, 3, 4, 5, 6, 7, 8, 9, 10, 11], [11, 12])])
def spec_l1Cur_graph.B17 : List Nat := [0, 1, 0, 4, 12, 28, 0, 0, 128, 448, 960, 2044, 4095, 8191]
theorem spec_l1Cur_graph.tab17 : rtab .any (opsOf Try.f76 17) = spec_l1Cur_graph.T17 := by kernel_rfl
theorem spec_l1Cur_graph.bits17 : waitsOk spec_l1Cur_graph.T17.2 spec_l1Cur_graph.B17 = true := by kernel_rfl
set_option maxHeartbeats 8000000 in
set_option maxRecDepth 100000 in
theorem spec_l1Cur_graph.calls (k : Nat) (g : Nat) (s0_0 : List Int) (s0_1 : Int) (s0_2 : Int) (r1 : List (List Int)) (r2 : Int) (r3 : Int) (w0 w : World) (hI : IsS78 w0 w g s0_0 s0_1 s0_2) (hB : Below w0.heap.size w0 w) (h : spec_l1Cur_graph.f k s0_0 s0_1 s0_2 = some (r1, r2, r3)) :
    Calls Try.prog 76 #[.pointer (some ⟨g, 0, none⟩)] w fun e w' => ∃ v0_ : Value, e = .returned (.agg #[v0_]) ∧ Kd.S (Kd.slice 3 (Kd.int .i64)) 31 w' w.heap.size (fun _ => True) v0_ r1 ∧ IsS78 w0 w' g s0_0 r2 r3 ∧ Below w0.heap.size w0 w' ∧ KeepBut w w' g none := by
  have hu27 := Try.underlying27
  have HI0 := Aside0.mk hI
  have HK := Aside0.mk (KeepBut.refl w g none)
  have HL := Aside0.mk hB.size
  clear hI
  have HW0 := Aside0.mk hB.size
  have HB := Aside0.mk hB
  clear hB
  have H : ((spec_l1Cur_pick.f s0_0 s0_1 s0_2 7).bind fun bt349 => ((spec_l1Cur_one.f s0_0 bt349.2.1 bt349.2.2 20).bind fun bt352 => (if bt352.1 = true then ((spec_l1Cur_pick.f s0_0 bt352.2.1 bt352.2.2 2).bind fun bt355 => (spec_l1Cur_graph.j0 k (wrap64 (12 + bt355.1)) s0_0 bt355.2.1 bt355.2.2)) else (spec_l1Cur_graph.j0 k (wrap64 (1 + bt349.1)) s0_0 bt352.2.1 bt352.2.2)))) = some (r1, r2, r3) := h
  clear h
  replace H := Option.bind_eq_some_iff.mp H
  obtain ⟨⟨t349, t350, t351⟩, A20, H⟩ := H
  replace H : ((spec_l1Cur_one.f s0_0 t350 t351 20).bind fun bt352 => (if bt352.1 = true then ((spec_l1Cur_pick.f s0_0 bt352.2.1 bt352.2.2 2).bind fun bt355 => (spec_l1Cur_graph.j0 k (wrap64 (12 + bt355.1)) s0_0 bt355.2.1 bt355.2.2)) else (spec_l1Cur_graph.j0 k (wrap64 (1 + t349)) s0_0 bt352.2.1 bt352.2.2))) = some (r1, r2, r3) := H
  have A2 := Aside0.mk A20
  clear A20
  replace H := Option.bind_eq_some_iff.mp H
  obtain ⟨⟨t352, t353, t354⟩, A30, H⟩ := H
  replace H : (if t352 = true then ((spec_l1Cur_pick.f s0_0 t353 t354 2).bind fun bt355 => (spec_l1Cur_graph.j0 k (wrap64 (12 + bt355.1)) s0_0 bt355.2.1 bt355.2.2)) else (spec_l1Cur_graph.j0 k (wrap64 (1 + t349)) s0_0 t353 t354)) = some (r1, r2, r3) := H
  have A3 := Aside0.mk A30
  clear A30
  have HC4 := Aside0.mk H
  clear H
  go_enter Try.func76, Try.ntmps76
  go_upto_if 13 with (first | ((with_reducible refine gate_dst (N := 2) rfl ?_); refine box_event ?hg (N := 2) ?hd (cs := #[.slice none 0 0]) (t := 27) ?hr ?_; (case hd => rfl); (case hg => rfl); (case hr => first | (go_simp; done) | (go_simp; rfl)); intro gb347 hg w5 hbox hb; have n0_ := Aside0.mk (IsS78.below (by repeat (first | (with_reducible first | exact HI0.out | apply IsS78.alloc | apply IsS78.drewN | apply IsS78.drew | apply IsS78.set_1 | apply IsS78.set_2) | exact HI0.out)) hb); have n1_ := Aside0.mk (KeepBut.trans (by repeat (first | (with_reducible first | exact HK.out | apply KeepBut.set_ | apply keep_drewN | apply keep_drew | apply keep_alloc) | exact HK.out)) (KeepBut.of_below hb g none) (.inl rfl)); have n2_ := Aside0.mk (below_step (by repeat (first | (with_reducible first | exact HB.out | apply below_alloc | apply pw_below_drewN | apply below_drew1 | refine below_set ?_ (IsS78.ge HI0.out)) | exact HB.out)) hb); have n3_ := Aside0.mk (hbox); have n4_ := Aside0.mk ((by rw [hg]; exact (keep_size (w := w) (g := g) (row := none) (by repeat (first | (with_reducible first | exact HK.out | apply KeepBut.set_ | apply keep_drewN | apply keep_drew | apply keep_alloc) | exact HK.out))) : w.heap.size ≤ gb347)); have n5_ := Aside0.mk ((Nat.le_trans HW0.out (by rw [hg]; exact (keep_size (w := w) (g := g) (row := none) (by repeat (first | (with_reducible first | exact HK.out | apply KeepBut.set_ | apply keep_drewN | apply keep_drew | apply keep_alloc) | exact HK.out))) : w.heap.size ≤ gb347) : w0.heap.size ≤ gb347)); have n6_ := Aside0.mk ((by rw [hg]; exact Nat.ne_of_lt (IsS78.lt (show IsS78 w0 _ g s0_0 s0_1 s0_2 from by repeat (first | (with_reducible first | exact HI0.out | apply IsS78.alloc | apply IsS78.drewN | apply IsS78.drew | apply IsS78.set_1 | apply IsS78.set_2) | exact HI0.out))) : g ≠ gb347)); have n7_ := Aside0.mk ((by rw [hg]; exact Nat.ne_of_gt (IsS78.lt (show IsS78 w0 _ g s0_0 s0_1 s0_2 from by repeat (first | (with_reducible first | exact HI0.out | apply IsS78.alloc | apply IsS78.drewN | apply IsS78.drew | apply IsS78.set_1 | apply IsS78.set_2) | exact HI0.out))) : gb347 ≠ g)); clear HI0; clear HK; clear HB; have HI0 := n0_; have HK := n1_; have HB := n2_; have BK347 := n3_; have GW347 := n4_; have GE347 := n5_; have NB0_347 := n6_; have NB347_0 := n7_; clear n0_ n1_ n2_ n3_ n4_ n5_ n6_ n7_; clear hb hbox hg) | ((with_reducible refine gate_dst (N := 3) rfl ?_); refine box_event ?hg (N := 3) ?hd (cs := #[.slice none 0 0]) (t := 27) ?hr ?_; (case hd => rfl); (case hg => rfl); (case hr => first | (go_simp; done) | (go_simp; rfl)); intro gb348 hg w6 hbox hb; have n0_ := Aside0.mk (IsS78.below (by repeat (first | (with_reducible first | exact HI0.out | apply IsS78.alloc | apply IsS78.drewN | apply IsS78.drew | apply IsS78.set_1 | apply IsS78.set_2 | refine IsS78.far ?_ NB0_347.out _) | exact HI0.out)) hb); have n1_ := Aside0.mk (blk_below (g := gb347) (o := .cells #[.slice none 0 0] 27 (0, 0)) (by (with_reducible repeat (first | refine blk_drewN ?_ _ | refine blk_drew ?_ | refine blk_alloc ?_ _)); exact BK347.out) hb); have n2_ := Aside0.mk (KeepBut.trans (by repeat (first | (with_reducible first | exact HK.out | apply KeepBut.set_ | apply keep_drewN | apply keep_drew | apply keep_alloc | refine keep_far ?_ GW347.out _) | exact HK.out)) (KeepBut.of_below hb g none) (.inl rfl)); have n3_ := Aside0.mk (below_step (by repeat (first | (with_reducible first | exact HB.out | apply below_alloc | apply pw_below_drewN | apply below_drew1 | refine below_set ?_ (IsS78.ge HI0.out) | refine below_set ?_ GE347.out) | exact HB.out)) hb); have n4_ := Aside0.mk (hbox); have n5_ := Aside0.mk ((by rw [hg]; exact (keep_size (w := w) (g := g) (row := none) (by repeat (first | (with_reducible first | exact HK.out | apply KeepBut.set_ | apply keep_drewN | apply keep_drew | apply keep_alloc | refine keep_far ?_ GW347.out _) | exact HK.out))) : w.heap.size ≤ gb348)); have n6_ := Aside0.mk ((Nat.le_trans HW0.out (by rw [hg]; exact (keep_size (w := w) (g := g) (row := none) (by repeat (first | (with_reducible first | exact HK.out | apply KeepBut.set_ | apply keep_drewN | apply keep_drew | apply keep_alloc | refine keep_far ?_ GW347.out _) | exact HK.out))) : w.heap.size ≤ gb348) : w0.heap.size ≤ gb348)); have n7_ := Aside0.mk ((by rw [hg]; exact Nat.ne_of_lt (blk_lt (g := gb347) (o := .cells #[.slice none 0 0] 27 (0, 0)) (by (with_reducible repeat (first | refine blk_drewN ?_ _ | refine blk_drew ?_ | refine blk_alloc ?_ _)); exact BK347.out)) : gb347 ≠ gb348)); have n8_ := Aside0.mk ((by rw [hg]; exact Nat.ne_of_gt (blk_lt (g := gb347) (o := .cells #[.slice none 0 0] 27 (0, 0)) (by (with_reducible repeat (first | refine blk_drewN ?_ _ | refine blk_drew ?_ | refine blk_alloc ?_ _)); exact BK347.out)) : gb348 ≠ gb347)); have n9_ := Aside0.mk ((by rw [hg]; exact Nat.ne_of_lt (IsS78.lt (show IsS78 w0 _ g s0_0 s0_1 s0_2 from by repeat (first | (with_reducible first | exact HI0.out | apply IsS78.alloc | apply IsS78.drewN | apply IsS78.drew | apply IsS78.set_1 | apply IsS78.set_2 | refine IsS78.far ?_ NB0_347.out _) | exact HI0.out))) : g ≠ gb348)); have n10_ := Aside0.mk ((by rw [hg]; exact Nat.ne_of_gt (IsS78.lt (show IsS78 w0 _ g s0_0 s0_1 s0_2 from by repeat (first | (with_reducible first | exact HI0.out | apply IsS78.alloc | apply IsS78.drewN | apply IsS78.drew | apply IsS78.set_1 | apply IsS78.set_2 | refine IsS78.far ?_ NB0_347.out _) | exact HI0.out))) : gb348 ≠ g)); clear HI0; clear BK347; clear HK; clear HB; have HI0 := n0_; have BK347 := n1_; have HK := n2_; have HB := n3_; have BK348 := n4_; have GW348 := n5_; have GE348 := n6_; have NB347_348 := n7_; have NB348_347 := n8_; have NB0_348 := n9_; have NB348_0 := n10_; clear n0_ n1_ n2_ n3_ n4_ n5_ n6_ n7_ n8_ n9_ n10_; clear hb hbox hg; have hnb7 := NB348_347.out; have hnc7 := NB347_348.out; have hnb8 := NB348_0.out; have hnc8 := NB0_348.out; have hcz9_0 : w6.cell? ⟨gb348, 0, none⟩ = some (.slice none 0 0) := (blk_cell BK348.out 0).trans rfl; have hfz9_0 := blk_frozen BK348.out 0) | ((with_reducible refine gate_callee (f := 77) rfl ?_); refine goesL_ (some 10) rfl rfl Try.func77 (by kernel_rfl) rfl #[.pointer (some ⟨g, 0, none⟩), .int .i64 7] rfl (by (try simp only [List.map_toArray, List.map_cons, List.map_nil]); first | done | rfl | (simp only [List.length_drop, List.length_take]; rfl)) ?_; (with_reducible refine (spec_l1Cur_pick.calls g s0_0 s0_1 s0_2 7 t349 t350 t351 w0 _ ?side1 ?side2 A2.out).mono ?_); (case side1 => repeat (first | (with_reducible first | exact HI0.out | apply IsS78.alloc | apply IsS78.drewN | apply IsS78.drew | apply IsS78.set_1 | apply IsS78.set_2 | refine IsS78.far ?_ NB0_347.out _ | refine IsS78.far ?_ NB0_348.out _) | exact HI0.out)); (case side2 => repeat (first | (with_reducible first | exact HB.out | apply below_alloc | apply pw_below_drewN | apply below_drew1 | refine below_set ?_ (IsS78.ge HI0.out) | refine below_set ?_ GE347.out | refine below_set ?_ GE348.out) | exact HB.out)); rintro e w10 ⟨rfl, hi, hb, hk⟩; refine ⟨_, rfl, ?_⟩; have n0_ := Aside0.mk (KeepBut.blk hk (g' := gb347) (o := .cells #[.slice none 0 0] 27 (0, 0)) (by (with_reducible repeat (first | refine blk_drewN ?_ _ | refine blk_drew ?_ | refine blk_alloc ?_ _)); refine blk_far ?_ NB347_348.out _; (with_reducible repeat (first | refine blk_drewN ?_ _ | refine blk_drew ?_ | refine blk_alloc ?_ _)); exact BK347.out) NB347_0.out (by simp)); have n1_ := Aside0.mk (KeepBut.blk hk (g' := gb348) (o := .cells #[.slice none 0 0] 27 (0, 0)) (by (with_reducible repeat (first | refine blk_drewN ?_ _ | refine blk_drew ?_ | refine blk_alloc ?_ _)); refine blk_put (cs := #[.slice none 0 0]) ?_ 0 _ rfl; (with_reducible repeat (first | refine blk_drewN ?_ _ | refine blk_drew ?_ | refine blk_alloc ?_ _)); exact BK348.out) NB348_0.out (by simp)); have n2_ := Aside0.mk (KeepBut.trans (by repeat (first | (with_reducible first | exact HK.out | apply KeepBut.set_ | apply keep_drewN | apply keep_drew | apply keep_alloc | refine keep_far ?_ GW347.out _ | refine keep_far ?_ GW348.out _) | exact HK.out)) hk (.inl rfl)); have n3_ := Aside0.mk (hb); have n4_ := Aside0.mk (hi); clear BK347; clear BK348; clear HK; clear HB; clear HI0; have BK347 := n0_; have BK348 := n1_; have HK := n2_; have HB := n3_; have HI0 := n4_; clear n0_ n1_ n2_ n3_ n4_; (try clear hb); (try clear hb2); (try clear hk); (try clear hi)) | ((with_reducible refine gate_callee (f := 80) rfl ?_); refine goesL_ (some 13) rfl rfl Try.func80 (by kernel_rfl) rfl #[.pointer (some ⟨g, 0, none⟩), .int .i64 20] rfl (by (try simp only [List.map_toArray, List.map_cons, List.map_nil]); first | done | rfl | (simp only [List.length_drop, List.length_take]; rfl)) ?_; (with_reducible refine (spec_l1Cur_one.calls g s0_0 t350 t351 20 t352 t353 t354 w0 _ ?side1 ?side2 A3.out).mono ?_); (case side1 => repeat (first | (with_reducible first | exact HI0.out | apply IsS78.alloc | apply IsS78.drewN | apply IsS78.drew | apply IsS78.set_1 | apply IsS78.set_2 | refine IsS78.far ?_ NB0_347.out _ | refine IsS78.far ?_ NB0_348.out _) | exact HI0.out)); (case side2 => repeat (first | (with_reducible first | exact HB.out | apply below_alloc | apply pw_below_drewN | apply below_drew1 | refine below_set ?_ (IsS78.ge HI0.out) | refine below_set ?_ GE347.out | refine below_set ?_ GE348.out) | exact HB.out)); rintro e w11 ⟨rfl, hi, hb, hk⟩; refine ⟨_, rfl, ?_⟩; have n0_ := Aside0.mk (KeepBut.blk hk (g' := gb347) (o := .cells #[.slice none 0 0] 27 (0, 0)) (by (with_reducible repeat (first | refine blk_drewN ?_ _ | refine blk_drew ?_ | refine blk_alloc ?_ _)); exact BK347.out) NB347_0.out (by simp)); have n1_ := Aside0.mk (KeepBut.blk hk (g' := gb348) (o := .cells #[.slice none 0 0] 27 (0, 0)) (by (with_reducible repeat (first | refine blk_drewN ?_ _ | refine blk_drew ?_ | refine blk_alloc ?_ _)); exact BK348.out) NB348_0.out (by simp)); have n2_ := Aside0.mk (KeepBut.trans (by repeat (first | (with_reducible first | exact HK.out | apply KeepBut.set_ | apply keep_drewN | apply keep_drew | apply keep_alloc | refine keep_far ?_ GW347.out _ | refine keep_far ?_ GW348.out _) | exact HK.out)) hk (.inl rfl)); have n3_ := Aside0.mk (hb); have n4_ := Aside0.mk (hi); clear BK347; clear BK348; clear HK; clear HB; clear HI0; have BK347 := n0_; have BK348 := n1_; have HK := n2_; have HB := n3_; have HI0 := n4_; clear n0_ n1_ n2_ n3_ n4_; (try clear hb); (try clear hb2); (try clear hk); (try clear hi)))
  (try simp only [Act.put, List.setIfInBounds_toArray, List.set_cons_zero, List.set_cons_succ])
  go_cut [4] (fun v4 wc => ∃ (kq : Nat) (x4_3 : Int) (x1001_3 : Int) (x1002_3 : Int), v4 = .int .i64 x4_3 ∧ Aside0 (spec_l1Cur_graph.j0 kq x4_3 s0_0 x1001_3 x1002_3 = some (r1, r2, r3)) ∧ Aside0 (kq ≤ k) ∧ Aside0 (wc.heap[gb347]? = some (.cells #[(.slice none 0 0)] 27 (0, 0))) ∧ Aside0 (wc.heap[gb348]? = some (.cells #[(.slice none 0 0)] 27 (0, 0))) ∧ Aside0 (IsS78 w0 wc g s0_0 x1001_3 x1002_3) ∧ Aside0 (KeepBut w wc g none) ∧ Aside0 (Below w0.heap.size w0 wc))
  case first =>
    have H := HC4.out
    clear HC4
    by_cases c12 : t352 = true
    · subst c12
      have H1 : ((spec_l1Cur_pick.f s0_0 t353 t354 2).bind fun bt355 => (spec_l1Cur_graph.j0 k (wrap64 (12 + bt355.1)) s0_0 bt355.2.1 bt355.2.2)) = some (r1, r2, r3) := by rw [if_pos rfl] at H; exact H
      clear H
      have H := H1
      clear H1
      replace H := Option.bind_eq_some_iff.mp H
      obtain ⟨⟨t355, t356, t357⟩, A130, H⟩ := H
      replace H : (spec_l1Cur_graph.j0 k (wrap64 (12 + t355)) s0_0 t356 t357) = some (r1, r2, r3) := H
      have A13 := Aside0.mk A130
      clear A130
      as_aux_lemma =>
        have H' := Aside0.mk H
        clear H
        go_wp2_with (first | ((with_reducible refine gate_callee (f := 77) rfl ?_); refine goesL_ (some 15) rfl rfl Try.func77 (by kernel_rfl) rfl #[.pointer (some ⟨g, 0, none⟩), .int .i64 2] rfl (by (try simp only [List.map_toArray, List.map_cons, List.map_nil]); first | done | rfl | (simp only [List.length_drop, List.length_take]; rfl)) ?_; (with_reducible refine (spec_l1Cur_pick.calls g s0_0 t353 t354 2 t355 t356 t357 w0 _ ?side1 ?side2 A13.out).mono ?_); (case side1 => repeat (first | (with_reducible first | exact HI0.out | apply IsS78.alloc | apply IsS78.drewN | apply IsS78.drew | apply IsS78.set_1 | apply IsS78.set_2 | refine IsS78.far ?_ NB0_347.out _ | refine IsS78.far ?_ NB0_348.out _) | exact HI0.out)); (case side2 => repeat (first | (with_reducible first | exact HB.out | apply below_alloc | apply pw_below_drewN | apply below_drew1 | refine below_set ?_ (IsS78.ge HI0.out) | refine below_set ?_ GE347.out | refine below_set ?_ GE348.out) | exact HB.out)); rintro e w14 ⟨rfl, hi, hb, hk⟩; refine ⟨_, rfl, ?_⟩; have n0_ := Aside0.mk (KeepBut.blk hk (g' := gb347) (o := .cells #[.slice none 0 0] 27 (0, 0)) (by (with_reducible repeat (first | refine blk_drewN ?_ _ | refine blk_drew ?_ | refine blk_alloc ?_ _)); exact BK347.out) NB347_0.out (by simp)); have n1_ := Aside0.mk (KeepBut.blk hk (g' := gb348) (o := .cells #[.slice none 0 0] 27 (0, 0)) (by (with_reducible repeat (first | refine blk_drewN ?_ _ | refine blk_drew ?_ | refine blk_alloc ?_ _)); exact BK348.out) NB348_0.out (by simp)); have n2_ := Aside0.mk (KeepBut.trans (by repeat (first | (with_reducible first | exact HK.out | apply KeepBut.set_ | apply keep_drewN | apply keep_drew | apply keep_alloc | refine keep_far ?_ GW347.out _ | refine keep_far ?_ GW348.out _) | exact HK.out)) hk (.inl rfl)); have n3_ := Aside0.mk (hb); have n4_ := Aside0.mk (hi); clear BK347; clear BK348; clear HK; clear HB; clear HI0; have BK347 := n0_; have BK348 := n1_; have HK := n2_; have HB := n3_; have HI0 := n4_; clear n0_ n1_ n2_ n3_ n4_; (try clear hb); (try clear hb2); (try clear hk); (try clear hi)))
        go_meet
        case rel => exact ⟨_, (wrap64 (12 + t355)), (t356), (t357), (by first | rfl | (simp; done) | (simp [*]; done)), H', ⟨by first | omega | exact Nat.le_refl _⟩, ⟨by (with_reducible repeat (first | refine blk_drewN ?_ _ | refine blk_drew ?_ | refine blk_alloc ?_ _)); exact BK347.out⟩, ⟨by (with_reducible repeat (first | refine blk_drewN ?_ _ | refine blk_drew ?_ | refine blk_alloc ?_ _)); exact BK348.out⟩, ⟨by repeat (first | (with_reducible first | exact HI0.out | apply IsS78.alloc | apply IsS78.drewN | apply IsS78.drew | apply IsS78.set_1 | apply IsS78.set_2 | refine IsS78.far ?_ NB0_347.out _ | refine IsS78.far ?_ NB0_348.out _) | exact HI0.out)⟩, ⟨by repeat (first | (with_reducible first | exact HK.out | apply KeepBut.set_ | apply keep_drewN | apply keep_drew | apply keep_alloc | refine keep_far ?_ GW347.out _ | refine keep_far ?_ GW348.out _) | exact HK.out)⟩, ⟨by repeat (first | (with_reducible first | exact HB.out | apply below_alloc | apply pw_below_drewN | apply below_drew1 | refine below_set ?_ (IsS78.ge HI0.out) | refine below_set ?_ GE347.out | refine below_set ?_ GE348.out) | exact HB.out)⟩⟩
    · replace c12 := Bool.eq_false_iff.mpr c12
      subst c12
      have H1 : (spec_l1Cur_graph.j0 k (wrap64 (1 + t349)) s0_0 t353 t354) = some (r1, r2, r3) := by rw [if_neg (show ¬ (false = true) by decide)] at H; exact H
      clear H
      have H := H1
      clear H1
      as_aux_lemma =>
        have H' := Aside0.mk H
        clear H
        go_wp2
        go_meet
        case rel => exact ⟨_, (wrap64 (1 + t349)), (t353), (t354), (by first | rfl | (simp; done) | (simp [*]; done)), H', ⟨by first | omega | exact Nat.le_refl _⟩, ⟨by (with_reducible repeat (first | refine blk_drewN ?_ _ | refine blk_drew ?_ | refine blk_alloc ?_ _)); exact BK347.out⟩, ⟨by (with_reducible repeat (first | refine blk_drewN ?_ _ | refine blk_drew ?_ | refine blk_alloc ?_ _)); exact BK348.out⟩, ⟨by repeat (first | (with_reducible first | exact HI0.out | apply IsS78.alloc | apply IsS78.drewN | apply IsS78.drew | apply IsS78.set_1 | apply IsS78.set_2 | refine IsS78.far ?_ NB0_347.out _ | refine IsS78.far ?_ NB0_348.out _) | exact HI0.out)⟩, ⟨by repeat (first | (with_reducible first | exact HK.out | apply KeepBut.set_ | apply keep_drewN | apply keep_drew | apply keep_alloc | refine keep_far ?_ GW347.out _ | refine keep_far ?_ GW348.out _) | exact HK.out)⟩, ⟨by repeat (first | (with_reducible first | exact HB.out | apply below_alloc | apply pw_below_drewN | apply below_drew1 | refine below_set ?_ (IsS78.ge HI0.out) | refine below_set ?_ GE347.out | refine below_set ?_ GE348.out) | exact HB.out)⟩⟩
  case rest =>
    clear HC4
    try clear c1
    try clear p2
    try clear p6
    try clear c7
    try clear c8
    try clear c12
    try clear hcz9_0
    try clear hfz9_0
    obtain ⟨kq, x4_3, x1001_3, x1002_3, rfl, HA, HJ3, BK347, BK348, HI0, HK, HB⟩ := hcut
    cases kq with
    | zero => exact absurd HA.out (by simp [spec_l1Cur_graph.j0])
    | succ kj3 =>
      have H := HA.out
      clear HA
      simp only [spec_l1Cur_graph.j0] at H
      have H' := Aside0.mk H
      clear H
      go_wp2
      go_loopg [5] kj3 (fun kq v5 w' => ∃ (x5_2 : Int) (x1001_2 : Int) (x1002_2 : Int) (x349000_2 : List (List Int)) (u349000 : Value), v5 = .int .i64 x5_2 ∧ Aside0 (spec_l1Cur_graph.l0 kq x4_3 x5_2 s0_0 x1001_2 x1002_2 x349000_2 = some (r1, r2, r3)) ∧ Aside0 (kq ≤ kj3) ∧ Aside0 (Kd.S (Kd.slice 3 (Kd.int .i64)) 31 w' w.heap.size (fun _ => True) u349000 x349000_2) ∧ Aside0 (w'.heap[gb347]? = some (.cells #[(.slice none 0 0)] 27 (0, 0))) ∧ Aside0 (w'.heap[gb348]? = some (.cells #[u349000] 27 (0, 0))) ∧ Aside0 (IsS78 w0 w' g s0_0 x1001_2 x1002_2) ∧ Aside0 (KeepBut w w' g none) ∧ Aside0 (Below w0.heap.size w0 w'))
      case atStart => exact ⟨(0), (x1001_3), (x1002_3), (([] : List (List Int))), (.slice none 0 0), (by first | rfl | (simp; done) | (simp [*]; done)), H', ⟨Nat.le_refl _⟩, ⟨by first | exact Kd.S_nil _ _ _ _ _ | exact Kd.N_nil _ _ _ _ _ | exact Kd.V_nil _ _ _ _ _ | exact Kd.Q_nil _ _ _ _ _ | exact Kd.R_nil _ _ _ _ _⟩, ⟨by (with_reducible repeat (first | refine blk_drewN ?_ _ | refine blk_drew ?_ | refine blk_alloc ?_ _)); exact BK347.out⟩, ⟨by (with_reducible repeat (first | refine blk_drewN ?_ _ | refine blk_drew ?_ | refine blk_alloc ?_ _)); exact BK348.out⟩, ⟨by repeat (first | (with_reducible first | exact HI0.out | apply IsS78.alloc | apply IsS78.drewN | apply IsS78.drew | apply IsS78.set_1 | apply IsS78.set_2 | refine IsS78.far ?_ NB0_347.out _ | refine IsS78.far ?_ NB0_348.out _) | exact HI0.out)⟩, ⟨by repeat (first | (with_reducible first | exact HK.out | apply KeepBut.set_ | apply keep_drewN | apply keep_drew | apply keep_alloc | refine keep_far ?_ GW347.out _ | refine keep_far ?_ GW348.out _) | exact HK.out)⟩, ⟨by repeat (first | (with_reducible first | exact HB.out | apply below_alloc | apply pw_below_drewN | apply below_drew1 | refine below_set ?_ (IsS78.ge HI0.out) | refine below_set ?_ GE347.out | refine below_set ?_ GE348.out) | exact HB.out)⟩⟩
      case round =>
        clear H'
        try clear c1
        try clear p2
        try clear p6
        try clear c7
        try clear c8
        try clear c12
        try clear hcz9_0
        try clear hfz9_0
        try clear p2
        try clear p6
        obtain ⟨x5_2, x1001_2, x1002_2, x349000_2, u349000, rfl, HA, HK2, HO_349000, BK347, BK348, HI0, HK, HB⟩ := hrel
        cases gk with
        | zero => exact absurd HA.out (by simp [spec_l1Cur_graph.l0])
        | succ k2 =>
          have H := HA.out
          clear HA
          simp only [spec_l1Cur_graph.l0] at H
          by_cases c15 : x5_2 < x4_3
          · rw [if_pos c15] at H
            have c15b0 : decide (x5_2 < x4_3) = true := decide_eq_true c15
            clear c15
            have HC16 := Aside0.mk H
            clear H
            go_upto_region 9 with (fail)
            go_cut [30] (fun v30 wc => ∃ (kq : Nat) (x30_15 : Bool) (x1001_15 : Int) (x1002_15 : Int), v30 = .bool x30_15 ∧ Aside0 (spec_l1Cur_graph.j2 kq x4_3 x5_2 ([] : List Int) x30_15 s0_0 x1001_15 x1002_15 x349000_2 = some (r1, r2, r3)) ∧ Aside0 (kq ≤ k2) ∧ Aside0 (Kd.R (Kd.int .i64) 3 wc w.heap.size (fun _ => True) (.slice none 0 0) ([] : List Int)) ∧ Aside0 (Kd.S (Kd.slice 3 (Kd.int .i64)) 31 wc w.heap.size (fun k_ => some k_ ≠ ((.slice none 0 0) : Value).ownBlock) u349000 x349000_2) ∧ Aside0 (wc.heap[gb347]? = some (.cells #[(.slice none 0 0)] 27 (0, 0))) ∧ Aside0 (wc.heap[gb348]? = some (.cells #[u349000] 27 (0, 0))) ∧ Aside0 (IsS78 w0 wc g s0_0 x1001_15 x1002_15) ∧ Aside0 (KeepBut w wc g none) ∧ Aside0 (Below w0.heap.size w0 wc))
            case first =>
              have H := HC16.out
              clear HC16
              by_cases c17 : (wrap64 (x5_2 + 1)) < x4_3
              · rw [if_pos c17] at H
                have c17b0 : decide ((wrap64 (x5_2 + 1)) < x4_3) = true := decide_eq_true c17
                clear c17
                (first | rw [c17b0] | (simp only [i64_w, i32_w]; rw [c17b0]) | skip)
                replace H := Option.bind_eq_some_iff.mp H
                obtain ⟨⟨t358, t359, t360⟩, A180, H⟩ := H
                replace H : (spec_l1Cur_graph.j2 k2 x4_3 x5_2 ([] : List Int) (!t358) s0_0 t359 t360 x349000_2) = some (r1, r2, r3) := H
                have A18 := Aside0.mk A180
                clear A180
                as_aux_lemma =>
                  have H' := Aside0.mk H
                  clear H
                  go_wp2_with (first | (go_at_call 80; (with_reducible refine (spec_l1Cur_one.calls g s0_0 x1001_2 x1002_2 4 t358 t359 t360 w0 _ ?side1 ?side2 A18.out).mono ?_); (case side1 => repeat (first | (with_reducible first | exact HI0.out | apply IsS78.alloc | apply IsS78.drewN | apply IsS78.drew | apply IsS78.set_1 | apply IsS78.set_2 | refine IsS78.far ?_ NB0_347.out _ | refine IsS78.far ?_ NB0_348.out _) | exact HI0.out)); (case side2 => repeat (first | (with_reducible first | exact HB.out | apply below_alloc | apply pw_below_drewN | apply below_drew1 | refine below_set ?_ (IsS78.ge HI0.out) | refine below_set ?_ GE347.out | refine below_set ?_ GE348.out) | exact HB.out)); rintro e w19 ⟨rfl, hi, hb, hk⟩; have n0_ := Aside0.mk (Kd.S_mono (Kd.S_keep (IsS78.apartS (show IsS78 w0 _ g s0_0 x1001_2 x1002_2 from by repeat (first | (with_reducible first | exact HI0.out | apply IsS78.alloc | apply IsS78.drewN | apply IsS78.drew | apply IsS78.set_1 | apply IsS78.set_2 | refine IsS78.far ?_ NB0_347.out _ | refine IsS78.far ?_ NB0_348.out _) | exact HI0.out)) (by (with_reducible repeat (first | apply Kd.S_alloc | apply Kd.S_drewN | apply Kd.S_drew)); exact HO_349000.out) (by decide)) hk (fun _ h => h.2)) (fun _ h => h.1)); have n1_ := Aside0.mk (KeepBut.blk hk (g' := gb347) (o := .cells #[.slice none 0 0] 27 (0, 0)) (by (with_reducible repeat (first | refine blk_drewN ?_ _ | refine blk_drew ?_ | refine blk_alloc ?_ _)); exact BK347.out) NB347_0.out (by simp)); have n2_ := Aside0.mk (KeepBut.blk hk (g' := gb348) (o := .cells #[u349000] 27 (0, 0)) (by (with_reducible repeat (first | refine blk_drewN ?_ _ | refine blk_drew ?_ | refine blk_alloc ?_ _)); exact BK348.out) NB348_0.out (by simp)); have n3_ := Aside0.mk (KeepBut.trans (by repeat (first | (with_reducible first | exact HK.out | apply KeepBut.set_ | apply keep_drewN | apply keep_drew | apply keep_alloc | refine keep_far ?_ GW347.out _ | refine keep_far ?_ GW348.out _) | exact HK.out)) hk (.inl rfl)); have n4_ := Aside0.mk (hb); have n5_ := Aside0.mk (hi); clear HO_349000; clear BK347; clear BK348; clear HK; clear HB; clear HI0; have HO_349000 := n0_; have BK347 := n1_; have BK348 := n2_; have HK := n3_; have HB := n4_; have HI0 := n5_; clear n0_ n1_ n2_ n3_ n4_ n5_; (try clear hb); (try clear hb2); (try clear hk); (try clear hi)))
                  go_meet
                  case rel => exact ⟨_, (!t358), (t359), (t360), (by first | rfl | (simp; done) | (simp [*]; done)), H', ⟨by have := HJ3.out; have := HK2.out; first | omega | exact Nat.le_refl _⟩, ⟨by first | exact Kd.R_nil _ _ _ _ _ | exact Kd.N_nil _ _ _ _ _ | exact Kd.V_nil _ _ _ _ _ | exact Kd.Q_nil _ _ _ _ _ | exact Kd.S_nil _ _ _ _ _⟩, ⟨by (with_reducible repeat (first | apply Kd.S_alloc | apply Kd.S_drewN | apply Kd.S_drew)); exact Kd.S_mono HO_349000.out (fun _ hk => (by simp [Value.ownBlock]))⟩, ⟨by (with_reducible repeat (first | refine blk_drewN ?_ _ | refine blk_drew ?_ | refine blk_alloc ?_ _)); exact BK347.out⟩, ⟨by (with_reducible repeat (first | refine blk_drewN ?_ _ | refine blk_drew ?_ | refine blk_alloc ?_ _)); exact BK348.out⟩, ⟨by repeat (first | (with_reducible first | exact HI0.out | apply IsS78.alloc | apply IsS78.drewN | apply IsS78.drew | apply IsS78.set_1 | apply IsS78.set_2 | refine IsS78.far ?_ NB0_347.out _ | refine IsS78.far ?_ NB0_348.out _) | exact HI0.out)⟩, ⟨by repeat (first | (with_reducible first | exact HK.out | apply KeepBut.set_ | apply keep_drewN | apply keep_drew | apply keep_alloc | refine keep_far ?_ GW347.out _ | refine keep_far ?_ GW348.out _) | exact HK.out)⟩, ⟨by repeat (first | (with_reducible first | exact HB.out | apply below_alloc | apply pw_below_drewN | apply below_drew1 | refine below_set ?_ (IsS78.ge HI0.out) | refine below_set ?_ GE347.out | refine below_set ?_ GE348.out) | exact HB.out)⟩⟩
              · rw [if_neg c17] at H
                have c17b0 : decide ((wrap64 (x5_2 + 1)) < x4_3) = false := decide_eq_false c17
                clear c17
                (first | rw [c17b0] | (simp only [i64_w, i32_w]; rw [c17b0]) | skip)
                as_aux_lemma =>
                  have H' := Aside0.mk H
                  clear H
                  go_wp2
                  go_meet
                  case rel => exact ⟨_, (false), (x1001_2), (x1002_2), (by first | rfl | (simp; done) | (simp [*]; done)), H', ⟨by have := HJ3.out; have := HK2.out; first | omega | exact Nat.le_refl _⟩, ⟨by first | exact Kd.R_nil _ _ _ _ _ | exact Kd.N_nil _ _ _ _ _ | exact Kd.V_nil _ _ _ _ _ | exact Kd.Q_nil _ _ _ _ _ | exact Kd.S_nil _ _ _ _ _⟩, ⟨by (with_reducible repeat (first | apply Kd.S_alloc | apply Kd.S_drewN | apply Kd.S_drew)); exact Kd.S_mono HO_349000.out (fun _ hk => (by simp [Value.ownBlock]))⟩, ⟨by (with_reducible repeat (first | refine blk_drewN ?_ _ | refine blk_drew ?_ | refine blk_alloc ?_ _)); exact BK347.out⟩, ⟨by (with_reducible repeat (first | refine blk_drewN ?_ _ | refine blk_drew ?_ | refine blk_alloc ?_ _)); exact BK348.out⟩, ⟨by repeat (first | (with_reducible first | exact HI0.out | apply IsS78.alloc | apply IsS78.drewN | apply IsS78.drew | apply IsS78.set_1 | apply IsS78.set_2 | refine IsS78.far ?_ NB0_347.out _ | refine IsS78.far ?_ NB0_348.out _) | exact HI0.out)⟩, ⟨by repeat (first | (with_reducible first | exact HK.out | apply KeepBut.set_ | apply keep_drewN | apply keep_drew | apply keep_alloc | refine keep_far ?_ GW347.out _ | refine keep_far ?_ GW348.out _) | exact HK.out)⟩, ⟨by repeat (first | (with_reducible first | exact HB.out | apply below_alloc | apply pw_below_drewN | apply below_drew1 | refine below_set ?_ (IsS78.ge HI0.out) | refine below_set ?_ GE347.out | refine below_set ?_ GE348.out) | exact HB.out)⟩⟩
            case rest =>
              clear HC16
              try clear c1
              try clear p2
              try clear p6
              try clear c7
              try clear c8
              try clear c12
              try clear c15
              try clear c15b0
              try clear c17
              try clear c17b0
              try clear hcz9_0
              try clear hfz9_0
              try clear p2
              try clear p6
              obtain ⟨kq, x30_15, x1001_15, x1002_15, rfl, HA, HJ15, HO_6, HO_349000, BK347, BK348, HI0, HK, HB⟩ := hcut
              cases kq with
              | zero => exact absurd HA.out (by simp [spec_l1Cur_graph.j2])
              | succ kj15 =>
                have H := HA.out
                clear HA
                simp only [spec_l1Cur_graph.j2] at H
                have HC20 := Aside0.mk H
                clear H
                go_upto_if 30 with (fail)
                go_cut [6] (fun v6 wc => ∃ (kq : Nat) (x6_19 : List Int), Aside0 (spec_l1Cur_graph.j3 kq x4_3 x5_2 x6_19 s0_0 x1001_15 x1002_15 x349000_2 = some (r1, r2, r3)) ∧ Aside0 (kq ≤ kj15) ∧ Aside0 (Kd.R (Kd.int .i64) 3 wc w.heap.size (fun _ => True) v6 x6_19) ∧ Aside0 (Kd.S (Kd.slice 3 (Kd.int .i64)) 31 wc w.heap.size (fun k_ => some k_ ≠ (v6 : Value).ownBlock) u349000 x349000_2) ∧ Aside0 (wc.heap[gb347]? = some (.cells #[(.slice none 0 0)] 27 (0, 0))) ∧ Aside0 (wc.heap[gb348]? = some (.cells #[u349000] 27 (0, 0))) ∧ Aside0 (IsS78 w0 wc g s0_0 x1001_15 x1002_15) ∧ Aside0 (KeepBut w wc g none) ∧ Aside0 (Below w0.heap.size w0 wc))
                case first =>
                  have H := HC20.out
                  clear HC20
                  by_cases c21 : x30_15 = true
                  · subst c21
                    have H1 : ((spec_l1Put.f kj15 ([] : List Int) (wrap64 (x5_2 + 1))).bind fun t361 => (spec_l1Cur_graph.j3 kj15 x4_3 x5_2 t361 s0_0 x1001_15 x1002_15 x349000_2)) = some (r1, r2, r3) := by rw [if_pos rfl] at H; exact H
                    clear H
                    have H := H1
                    clear H1
                    replace H := Option.bind_eq_some_iff.mp H
                    obtain ⟨t361, A220, H⟩ := H
                    replace H : (spec_l1Cur_graph.j3 kj15 x4_3 x5_2 t361 s0_0 x1001_15 x1002_15 x349000_2) = some (r1, r2, r3) := H
                    have A22 := Aside0.mk A220
                    clear A220
                    as_aux_lemma =>
                      have H' := Aside0.mk H
                      clear H
                      go_wp2_with (first | ((with_reducible refine gate_callee (f := 73) rfl ?_); refine goesL_ (some 34) rfl rfl Try.func73 (by kernel_rfl) rfl #[.slice none 0 0, .int .i64 (wrap64 (x5_2 + 1))] rfl (by (try simp only [List.map_toArray, List.map_cons, List.map_nil]); first | done | rfl | (simp only [List.length_drop, List.length_take]; rfl)) ?_; (with_reducible refine (spec_l1Put.calls kj15 (fun k_ => some k_ = (.slice none 0 0 : Value).ownBlock) (.slice none 0 0) ([] : List Int) (wrap64 (x5_2 + 1)) t361 w0 _ ?side1 ?side2 A22.out).mono ?_); (case side1 => repeat (first | (with_reducible first | exact HB.out | apply below_alloc | apply pw_below_drewN | apply below_drew1 | refine below_set ?_ (IsS78.ge HI0.out) | refine below_set ?_ GE347.out | refine below_set ?_ GE348.out) | exact HB.out)); (case side2 => exact Kd.R_lower (Kd.R_tight rfl HO_6.out) HL.out); rintro e w23 ⟨v362, rfl, ho0, hb, hkp⟩; refine ⟨_, rfl, ?_⟩; have n0_ := Aside0.mk (Kd.S_mono (ok' := fun k_ => some k_ ≠ (v362 : Value).ownBlock) (Kd.S_keptB (HO_349000.out) hkp (fun k_ hk_ hs_ => (hk_) hs_)) (fun k_ hk_ => fun e_ => Or.elim (ho0.1 k_ e_.symm) (fun hs_ => hk_.2.1 hs_) (fun hn_ => Nat.not_le.2 hk_.2.2 hn_))); have n1_ := Aside0.mk (blk_kept (by (with_reducible repeat (first | refine blk_drewN ?_ _ | refine blk_drew ?_ | refine blk_alloc ?_ _)); exact BK347.out) hkp (fun hs_ => (fun e_ => (Kd.R_ne HO_6.out BK347.out (by decide)) e_) hs_)); have n2_ := Aside0.mk (blk_kept (by (with_reducible repeat (first | refine blk_drewN ?_ _ | refine blk_drew ?_ | refine blk_alloc ?_ _)); exact BK348.out) hkp (fun hs_ => (fun e_ => (Kd.R_ne HO_6.out BK348.out (by decide)) e_) hs_)); have n3_ := Aside0.mk (IsS78.kept (by repeat (first | (with_reducible first | exact HI0.out | apply IsS78.alloc | apply IsS78.drewN | apply IsS78.drew | apply IsS78.set_1 | apply IsS78.set_2 | refine IsS78.far ?_ NB0_347.out _ | refine IsS78.far ?_ NB0_348.out _) | exact HI0.out)) hkp (fun hs_ => (fun e_ => (IsS78.own_ne HI0.out HO_6.out (by decide)) e_) hs_)); have n4_ := Aside0.mk (Kd.R_mono (ok' := fun k_ => True) (Kd.R_raise (d := (Kd.int .i64)) (b := w0.heap.size) (b' := w.heap.size) (fun _ _ _ _ h_ => h_) ho0 (fun k_ e_ => Or.elim (ho0.1 k_ e_) (fun hs_ => (fun e_ => Kd.R_base HO_6.out k_ e_.symm) hs_) (fun hn_ => Nat.le_trans (keep_size (w := w) (g := g) (row := none) (by repeat (first | (with_reducible first | exact HK.out | apply KeepBut.set_ | apply keep_drewN | apply keep_drew | apply keep_alloc | refine keep_far ?_ GW347.out _ | refine keep_far ?_ GW348.out _) | exact HK.out))) hn_))) (fun k_ hk_ => trivial)); have n5_ := Aside0.mk (Kept.keepG (by repeat (first | (with_reducible first | exact HK.out | apply KeepBut.set_ | apply keep_drewN | apply keep_drew | apply keep_alloc | refine keep_far ?_ GW347.out _ | refine keep_far ?_ GW348.out _) | exact HK.out)) hkp (fun k_ hs_ => (fun e_ => .inr (Kd.R_base HO_6.out k_ e_.symm)) hs_)); have n6_ := Aside0.mk (hb); clear HO_349000; clear BK347; clear BK348; clear HI0; clear HK; clear HB; clear HO_6; have HO_349000 := n0_; have BK347 := n1_; have BK348 := n2_; have HI0 := n3_; have HO363 := n4_; have HK := n5_; have HB := n6_; clear n0_ n1_ n2_ n3_ n4_ n5_ n6_; (try clear hb); (try clear hkp); (try clear ho0)))
                      go_meet
                      case rel => exact ⟨_, (t361), H', ⟨by have := HJ3.out; have := HK2.out; have := HJ15.out; first | omega | exact Nat.le_refl _⟩, ⟨by (with_reducible repeat (first | apply Kd.R_alloc | apply Kd.R_drewN | apply Kd.R_drew)); exact HO363.out⟩, ⟨by (with_reducible repeat (first | apply Kd.S_alloc | apply Kd.S_drewN | apply Kd.S_drew)); exact HO_349000.out⟩, ⟨by (with_reducible repeat (first | refine blk_drewN ?_ _ | refine blk_drew ?_ | refine blk_alloc ?_ _)); exact BK347.out⟩, ⟨by (with_reducible repeat (first | refine blk_drewN ?_ _ | refine blk_drew ?_ | refine blk_alloc ?_ _)); exact BK348.out⟩, ⟨by repeat (first | (with_reducible first | exact HI0.out | apply IsS78.alloc | apply IsS78.drewN | apply IsS78.drew | apply IsS78.set_1 | apply IsS78.set_2 | refine IsS78.far ?_ NB0_347.out _ | refine IsS78.far ?_ NB0_348.out _) | exact HI0.out)⟩, ⟨by repeat (first | (with_reducible first | exact HK.out | apply KeepBut.set_ | apply keep_drewN | apply keep_drew | apply keep_alloc | refine keep_far ?_ GW347.out _ | refine keep_far ?_ GW348.out _) | exact HK.out)⟩, ⟨by repeat (first | (with_reducible first | exact HB.out | apply below_alloc | apply pw_below_drewN | apply below_drew1 | refine below_set ?_ (IsS78.ge HI0.out) | refine below_set ?_ GE347.out | refine below_set ?_ GE348.out) | exact HB.out)⟩⟩
                  · replace c21 := Bool.eq_false_iff.mpr c21
                    subst c21
                    have H1 : (spec_l1Cur_graph.j3 kj15 x4_3 x5_2 ([] : List Int) s0_0 x1001_15 x1002_15 x349000_2) = some (r1, r2, r3) := by rw [if_neg (show ¬ (false = true) by decide)] at H; exact H
                    clear H
                    have H := H1
                    clear H1
                    as_aux_lemma =>
                      have H' := Aside0.mk H
                      clear H
                      go_wp2
                      go_meet
                      case rel => exact ⟨_, (([] : List Int)), H', ⟨by have := HJ3.out; have := HK2.out; have := HJ15.out; first | omega | exact Nat.le_refl _⟩, ⟨by (with_reducible repeat (first | apply Kd.R_alloc | apply Kd.R_drewN | apply Kd.R_drew)); exact HO_6.out⟩, ⟨by (with_reducible repeat (first | apply Kd.S_alloc | apply Kd.S_drewN | apply Kd.S_drew)); exact HO_349000.out⟩, ⟨by (with_reducible repeat (first | refine blk_drewN ?_ _ | refine blk_drew ?_ | refine blk_alloc ?_ _)); exact BK347.out⟩, ⟨by (with_reducible repeat (first | refine blk_drewN ?_ _ | refine blk_drew ?_ | refine blk_alloc ?_ _)); exact BK348.out⟩, ⟨by repeat (first | (with_reducible first | exact HI0.out | apply IsS78.alloc | apply IsS78.drewN | apply IsS78.drew | apply IsS78.set_1 | apply IsS78.set_2 | refine IsS78.far ?_ NB0_347.out _ | refine IsS78.far ?_ NB0_348.out _) | exact HI0.out)⟩, ⟨by repeat (first | (with_reducible first | exact HK.out | apply KeepBut.set_ | apply keep_drewN | apply keep_drew | apply keep_alloc | refine keep_far ?_ GW347.out _ | refine keep_far ?_ GW348.out _) | exact HK.out)⟩, ⟨by repeat (first | (with_reducible first | exact HB.out | apply below_alloc | apply pw_below_drewN | apply below_drew1 | refine below_set ?_ (IsS78.ge HI0.out) | refine below_set ?_ GE347.out | refine below_set ?_ GE348.out) | exact HB.out)⟩⟩
                case rest =>
                  clear HC20
                  try clear c1
                  try clear c2
                  try clear p2
                  try clear p6
                  try clear c7
                  try clear c8
                  try clear c12
                  try clear c15
                  try clear c15b0
                  try clear c17
                  try clear c17b0
                  try clear c21
                  try clear hcz9_0
                  try clear hfz9_0
                  try clear p2
                  try clear p6
                  obtain ⟨kq, x6_19, HA, HJ19, HO_6, HO_349000, BK347, BK348, HI0, HK, HB⟩ := hcut
                  cases kq with
                  | zero => exact absurd HA.out (by simp [spec_l1Cur_graph.j3])
                  | succ kj19 =>
                    have H := HA.out
                    clear HA
                    simp only [spec_l1Cur_graph.j3] at H
                    replace H := Option.bind_eq_some_iff.mp H
                    obtain ⟨⟨t364, t365, t366⟩, A240, H⟩ := H
                    replace H : (spec_l1Cur_graph.l1 kj19 x4_3 x5_2 x6_19 t364 s0_0 t365 t366 x349000_2) = some (r1, r2, r3) := H
                    have A24 := Aside0.mk A240
                    clear A240
                    have H' := Aside0.mk H
                    clear H
                    go_wp2_with (first | ((with_reducible refine gate_callee (f := 77) rfl ?_); refine goesL_ (some 36) rfl rfl Try.func77 (by kernel_rfl) rfl #[.pointer (some ⟨g, 0, none⟩), .int .i64 3] rfl (by (try simp only [List.map_toArray, List.map_cons, List.map_nil]); first | done | rfl | (simp only [List.length_drop, List.length_take]; rfl)) ?_; (with_reducible refine (spec_l1Cur_pick.calls g s0_0 x1001_15 x1002_15 3 t364 t365 t366 w0 _ ?side1 ?side2 A24.out).mono ?_); (case side1 => repeat (first | (with_reducible first | exact HI0.out | apply IsS78.alloc | apply IsS78.drewN | apply IsS78.drew | apply IsS78.set_1 | apply IsS78.set_2 | refine IsS78.far ?_ NB0_347.out _ | refine IsS78.far ?_ NB0_348.out _) | exact HI0.out)); (case side2 => repeat (first | (with_reducible first | exact HB.out | apply below_alloc | apply pw_below_drewN | apply below_drew1 | refine below_set ?_ (IsS78.ge HI0.out) | refine below_set ?_ GE347.out | refine below_set ?_ GE348.out) | exact HB.out)); rintro e w25 ⟨rfl, hi, hb, hk⟩; refine ⟨_, rfl, ?_⟩; have n0_ := Aside0.mk (Kd.R_mono (Kd.R_keep (IsS78.apart (show IsS78 w0 _ g s0_0 x1001_15 x1002_15 from by repeat (first | (with_reducible first | exact HI0.out | apply IsS78.alloc | apply IsS78.drewN | apply IsS78.drew | apply IsS78.set_1 | apply IsS78.set_2 | refine IsS78.far ?_ NB0_347.out _ | refine IsS78.far ?_ NB0_348.out _) | exact HI0.out)) (by (with_reducible repeat (first | apply Kd.R_alloc | apply Kd.R_drewN | apply Kd.R_drew)); exact HO_6.out) (by decide)) hk (fun _ h => h.2)) (fun _ h => h.1)); have n1_ := Aside0.mk (Kd.S_mono (Kd.S_keep (IsS78.apartS (show IsS78 w0 _ g s0_0 x1001_15 x1002_15 from by repeat (first | (with_reducible first | exact HI0.out | apply IsS78.alloc | apply IsS78.drewN | apply IsS78.drew | apply IsS78.set_1 | apply IsS78.set_2 | refine IsS78.far ?_ NB0_347.out _ | refine IsS78.far ?_ NB0_348.out _) | exact HI0.out)) (by (with_reducible repeat (first | apply Kd.S_alloc | apply Kd.S_drewN | apply Kd.S_drew)); exact HO_349000.out) (by decide)) hk (fun _ h => h.2)) (fun _ h => h.1)); have n2_ := Aside0.mk (KeepBut.blk hk (g' := gb347) (o := .cells #[.slice none 0 0] 27 (0, 0)) (by (with_reducible repeat (first | refine blk_drewN ?_ _ | refine blk_drew ?_ | refine blk_alloc ?_ _)); exact BK347.out) NB347_0.out (by simp)); have n3_ := Aside0.mk (KeepBut.blk hk (g' := gb348) (o := .cells #[u349000] 27 (0, 0)) (by (with_reducible repeat (first | refine blk_drewN ?_ _ | refine blk_drew ?_ | refine blk_alloc ?_ _)); exact BK348.out) NB348_0.out (by simp)); have n4_ := Aside0.mk (KeepBut.trans (by repeat (first | (with_reducible first | exact HK.out | apply KeepBut.set_ | apply keep_drewN | apply keep_drew | apply keep_alloc | refine keep_far ?_ GW347.out _ | refine keep_far ?_ GW348.out _) | exact HK.out)) hk (.inl rfl)); have n5_ := Aside0.mk (hb); have n6_ := Aside0.mk (hi); clear HO_6; clear HO_349000; clear BK347; clear BK348; clear HK; clear HB; clear HI0; have HO_6 := n0_; have HO_349000 := n1_; have BK347 := n2_; have BK348 := n3_; have HK := n4_; have HB := n5_; have HI0 := n6_; clear n0_ n1_ n2_ n3_ n4_ n5_ n6_; (try clear hb); (try clear hb2); (try clear hk); (try clear hi)))
                    go_loopg [6, 7] kj19 (fun kq v6 v7 w' => ∃ (x6_5 : List Int) (x7_5 : Int) (x1001_5 : Int) (x1002_5 : Int), v7 = .int .i64 x7_5 ∧ Aside0 (spec_l1Cur_graph.l1 kq x4_3 x5_2 x6_5 x7_5 s0_0 x1001_5 x1002_5 x349000_2 = some (r1, r2, r3)) ∧ Aside0 (kq ≤ kj19) ∧ Aside0 (Kd.R (Kd.int .i64) 3 w' w.heap.size (fun _ => True) v6 x6_5) ∧ Aside0 (Kd.S (Kd.slice 3 (Kd.int .i64)) 31 w' w.heap.size (fun k_ => some k_ ≠ (v6 : Value).ownBlock) u349000 x349000_2) ∧ Aside0 (w'.heap[gb347]? = some (.cells #[(.slice none 0 0)] 27 (0, 0))) ∧ Aside0 (w'.heap[gb348]? = some (.cells #[u349000] 27 (0, 0))) ∧ Aside0 (IsS78 w0 w' g s0_0 x1001_5 x1002_5) ∧ Aside0 (KeepBut w w' g none) ∧ Aside0 (Below w0.heap.size w0 w'))
                    case atStart => exact ⟨(x6_19), (t364), (t365), (t366), (by first | rfl | (simp; done) | (simp [*]; done)), H', ⟨Nat.le_refl _⟩, ⟨by (with_reducible repeat (first | apply Kd.R_alloc | apply Kd.R_drewN | apply Kd.R_drew)); exact HO_6.out⟩, ⟨by (with_reducible repeat (first | apply Kd.S_alloc | apply Kd.S_drewN | apply Kd.S_drew)); exact HO_349000.out⟩, ⟨by (with_reducible repeat (first | refine blk_drewN ?_ _ | refine blk_drew ?_ | refine blk_alloc ?_ _)); exact BK347.out⟩, ⟨by (with_reducible repeat (first | refine blk_drewN ?_ _ | refine blk_drew ?_ | refine blk_alloc ?_ _)); exact BK348.out⟩, ⟨by repeat (first | (with_reducible first | exact HI0.out | apply IsS78.alloc | apply IsS78.drewN | apply IsS78.drew | apply IsS78.set_1 | apply IsS78.set_2 | refine IsS78.far ?_ NB0_347.out _ | refine IsS78.far ?_ NB0_348.out _) | exact HI0.out)⟩, ⟨by repeat (first | (with_reducible first | exact HK.out | apply KeepBut.set_ | apply keep_drewN | apply keep_drew | apply keep_alloc | refine keep_far ?_ GW347.out _ | refine keep_far ?_ GW348.out _) | exact HK.out)⟩, ⟨by repeat (first | (with_reducible first | exact HB.out | apply below_alloc | apply pw_below_drewN | apply below_drew1 | refine below_set ?_ (IsS78.ge HI0.out) | refine below_set ?_ GE347.out | refine below_set ?_ GE348.out) | exact HB.out)⟩⟩
                    case round =>
                      clear H'
                      try clear c1
                      try clear c2
                      try clear p2
                      try clear p6
                      try clear c7
                      try clear c8
                      try clear c12
                      try clear c15
                      try clear c15b0
                      try clear c17
                      try clear c17b0
                      try clear c21
                      try clear hcz9_0
                      try clear hfz9_0
                      try clear p2
                      try clear p6
                      obtain ⟨x6_5, x7_5, x1001_5, x1002_5, rfl, HA, HK5, HO_6, HO_349000, BK347, BK348, HI0, HK, HB⟩ := hrel
                      cases gk with
                      | zero => exact absurd HA.out (by simp [spec_l1Cur_graph.l1])
                      | succ k5 =>
                        have H := HA.out
                        clear HA
                        simp only [spec_l1Cur_graph.l1] at H
                        by_cases c26 : x7_5 > 0
                        · rw [if_pos c26] at H
                          have c26b0 : decide (0 < x7_5) = true := decide_eq_true c26
                          clear c26
                          replace H := Option.bind_eq_some_iff.mp H
                          obtain ⟨⟨t367, t368, t369⟩, A270, H⟩ := H
                          replace H : ((spec_l1Put.f k5 x6_5 t367).bind fun t370 => (spec_l1Cur_graph.l1 k5 x4_3 x5_2 t370 (wrap64 (x7_5 - 1)) s0_0 t368 t369 x349000_2)) = some (r1, r2, r3) := H
                          have A27 := Aside0.mk A270
                          clear A270
                          replace H := Option.bind_eq_some_iff.mp H
                          obtain ⟨t370, A280, H⟩ := H
                          replace H : (spec_l1Cur_graph.l1 k5 x4_3 x5_2 t370 (wrap64 (x7_5 - 1)) s0_0 t368 t369 x349000_2) = some (r1, r2, r3) := H
                          have A28 := Aside0.mk A280
                          clear A280
                          as_aux_lemma =>
                            have H' := Aside0.mk H
                            clear H
                            go_wp2_with (first | ((with_reducible refine gate_callee (f := 77) rfl ?_); refine goesL_ (some 44) rfl rfl Try.func77 (by kernel_rfl) rfl #[.pointer (some ⟨g, 0, none⟩), .int .i64 x4_3] rfl (by (try simp only [List.map_toArray, List.map_cons, List.map_nil]); first | done | rfl | (simp only [List.length_drop, List.length_take]; rfl)) ?_; (with_reducible refine (spec_l1Cur_pick.calls g s0_0 x1001_5 x1002_5 x4_3 t367 t368 t369 w0 _ ?side1 ?side2 A27.out).mono ?_); (case side1 => repeat (first | (with_reducible first | exact HI0.out | apply IsS78.alloc | apply IsS78.drewN | apply IsS78.drew | apply IsS78.set_1 | apply IsS78.set_2 | refine IsS78.far ?_ NB0_347.out _ | refine IsS78.far ?_ NB0_348.out _) | exact HI0.out)); (case side2 => repeat (first | (with_reducible first | exact HB.out | apply below_alloc | apply pw_below_drewN | apply below_drew1 | refine below_set ?_ (IsS78.ge HI0.out) | refine below_set ?_ GE347.out | refine below_set ?_ GE348.out) | exact HB.out)); rintro e w29 ⟨rfl, hi, hb, hk⟩; refine ⟨_, rfl, ?_⟩; have n0_ := Aside0.mk (Kd.R_mono (Kd.R_keep (IsS78.apart (show IsS78 w0 _ g s0_0 x1001_5 x1002_5 from by repeat (first | (with_reducible first | exact HI0.out | apply IsS78.alloc | apply IsS78.drewN | apply IsS78.drew | apply IsS78.set_1 | apply IsS78.set_2 | refine IsS78.far ?_ NB0_347.out _ | refine IsS78.far ?_ NB0_348.out _) | exact HI0.out)) (by (with_reducible repeat (first | apply Kd.R_alloc | apply Kd.R_drewN | apply Kd.R_drew)); exact HO_6.out) (by decide)) hk (fun _ h => h.2)) (fun _ h => h.1)); have n1_ := Aside0.mk (Kd.S_mono (Kd.S_keep (IsS78.apartS (show IsS78 w0 _ g s0_0 x1001_5 x1002_5 from by repeat (first | (with_reducible first | exact HI0.out | apply IsS78.alloc | apply IsS78.drewN | apply IsS78.drew | apply IsS78.set_1 | apply IsS78.set_2 | refine IsS78.far ?_ NB0_347.out _ | refine IsS78.far ?_ NB0_348.out _) | exact HI0.out)) (by (with_reducible repeat (first | apply Kd.S_alloc | apply Kd.S_drewN | apply Kd.S_drew)); exact HO_349000.out) (by decide)) hk (fun _ h => h.2)) (fun _ h => h.1)); have n2_ := Aside0.mk (KeepBut.blk hk (g' := gb347) (o := .cells #[.slice none 0 0] 27 (0, 0)) (by (with_reducible repeat (first | refine blk_drewN ?_ _ | refine blk_drew ?_ | refine blk_alloc ?_ _)); exact BK347.out) NB347_0.out (by simp)); have n3_ := Aside0.mk (KeepBut.blk hk (g' := gb348) (o := .cells #[u349000] 27 (0, 0)) (by (with_reducible repeat (first | refine blk_drewN ?_ _ | refine blk_drew ?_ | refine blk_alloc ?_ _)); exact BK348.out) NB348_0.out (by simp)); have n4_ := Aside0.mk (KeepBut.trans (by repeat (first | (with_reducible first | exact HK.out | apply KeepBut.set_ | apply keep_drewN | apply keep_drew | apply keep_alloc | refine keep_far ?_ GW347.out _ | refine keep_far ?_ GW348.out _) | exact HK.out)) hk (.inl rfl)); have n5_ := Aside0.mk (hb); have n6_ := Aside0.mk (hi); clear HO_6; clear HO_349000; clear BK347; clear BK348; clear HK; clear HB; clear HI0; have HO_6 := n0_; have HO_349000 := n1_; have BK347 := n2_; have BK348 := n3_; have HK := n4_; have HB := n5_; have HI0 := n6_; clear n0_ n1_ n2_ n3_ n4_ n5_ n6_; (try clear hb); (try clear hb2); (try clear hk); (try clear hi); obtain ⟨Ao30, co30, eo30⟩ := Kd.R_slice HO_6.out; subst eo30) | ((with_reducible refine gate_callee (f := 73) rfl ?_); refine goesL_ (some 45) rfl rfl Try.func73 (by kernel_rfl) rfl #[.slice Ao30 x6_5.length co30, .int .i64 t367] rfl (by (try simp only [List.map_toArray, List.map_cons, List.map_nil]); first | done | rfl | (simp only [List.length_drop, List.length_take]; rfl)) ?_; (with_reducible refine (spec_l1Put.calls k5 (fun k_ => some k_ = (.slice Ao30 x6_5.length co30 : Value).ownBlock) (.slice Ao30 x6_5.length co30) x6_5 t367 t370 w0 _ ?side1 ?side2 A28.out).mono ?_); (case side1 => repeat (first | (with_reducible first | exact HB.out | apply below_alloc | apply pw_below_drewN | apply below_drew1 | refine below_set ?_ (IsS78.ge HI0.out) | refine below_set ?_ GE347.out | refine below_set ?_ GE348.out) | exact HB.out)); (case side2 => exact Kd.R_lower (Kd.R_tight rfl HO_6.out) HL.out); rintro e w31 ⟨v371, rfl, ho0, hb, hkp⟩; refine ⟨_, rfl, ?_⟩; have n0_ := Aside0.mk (Kd.S_mono (ok' := fun k_ => some k_ ≠ (v371 : Value).ownBlock) (Kd.S_keptB (HO_349000.out) hkp (fun k_ hk_ hs_ => (hk_) hs_)) (fun k_ hk_ => fun e_ => Or.elim (ho0.1 k_ e_.symm) (fun hs_ => hk_.2.1 hs_) (fun hn_ => Nat.not_le.2 hk_.2.2 hn_))); have n1_ := Aside0.mk (blk_kept (by (with_reducible repeat (first | refine blk_drewN ?_ _ | refine blk_drew ?_ | refine blk_alloc ?_ _)); exact BK347.out) hkp (fun hs_ => (fun e_ => (Kd.R_ne HO_6.out BK347.out (by decide)) e_) hs_)); have n2_ := Aside0.mk (blk_kept (by (with_reducible repeat (first | refine blk_drewN ?_ _ | refine blk_drew ?_ | refine blk_alloc ?_ _)); exact BK348.out) hkp (fun hs_ => (fun e_ => (Kd.R_ne HO_6.out BK348.out (by decide)) e_) hs_)); have n3_ := Aside0.mk (IsS78.kept (by repeat (first | (with_reducible first | exact HI0.out | apply IsS78.alloc | apply IsS78.drewN | apply IsS78.drew | apply IsS78.set_1 | apply IsS78.set_2 | refine IsS78.far ?_ NB0_347.out _ | refine IsS78.far ?_ NB0_348.out _) | exact HI0.out)) hkp (fun hs_ => (fun e_ => (IsS78.own_ne HI0.out HO_6.out (by decide)) e_) hs_)); have n4_ := Aside0.mk (Kd.R_mono (ok' := fun k_ => True) (Kd.R_raise (d := (Kd.int .i64)) (b := w0.heap.size) (b' := w.heap.size) (fun _ _ _ _ h_ => h_) ho0 (fun k_ e_ => Or.elim (ho0.1 k_ e_) (fun hs_ => (fun e_ => Kd.R_base HO_6.out k_ e_.symm) hs_) (fun hn_ => Nat.le_trans (keep_size (w := w) (g := g) (row := none) (by repeat (first | (with_reducible first | exact HK.out | apply KeepBut.set_ | apply keep_drewN | apply keep_drew | apply keep_alloc | refine keep_far ?_ GW347.out _ | refine keep_far ?_ GW348.out _) | exact HK.out))) hn_))) (fun k_ hk_ => trivial)); have n5_ := Aside0.mk (Kept.keepG (by repeat (first | (with_reducible first | exact HK.out | apply KeepBut.set_ | apply keep_drewN | apply keep_drew | apply keep_alloc | refine keep_far ?_ GW347.out _ | refine keep_far ?_ GW348.out _) | exact HK.out)) hkp (fun k_ hs_ => (fun e_ => .inr (Kd.R_base HO_6.out k_ e_.symm)) hs_)); have n6_ := Aside0.mk (hb); clear HO_349000; clear BK347; clear BK348; clear HI0; clear HK; clear HB; clear HO_6; have HO_349000 := n0_; have BK347 := n1_; have BK348 := n2_; have HI0 := n3_; have HO372 := n4_; have HK := n5_; have HB := n6_; clear n0_ n1_ n2_ n3_ n4_ n5_ n6_; (try clear hb); (try clear hkp); (try clear ho0)))
                            go_roundg k5
                            case measure => have := HJ3.out; have := HK2.out; have := HJ15.out; have := HJ19.out; have := HK5.out; omega
                            case rel => exact ⟨(t370), (wrap64 (x7_5 - 1)), (t368), (t369), (by first | rfl | (simp; done) | (simp [*]; done)), H', ⟨by have := HJ3.out; have := HK2.out; have := HJ15.out; have := HJ19.out; have := HK5.out; omega⟩, ⟨by (with_reducible repeat (first | apply Kd.R_alloc | apply Kd.R_drewN | apply Kd.R_drew)); exact HO372.out⟩, ⟨by (with_reducible repeat (first | apply Kd.S_alloc | apply Kd.S_drewN | apply Kd.S_drew)); exact HO_349000.out⟩, ⟨by (with_reducible repeat (first | refine blk_drewN ?_ _ | refine blk_drew ?_ | refine blk_alloc ?_ _)); exact BK347.out⟩, ⟨by (with_reducible repeat (first | refine blk_drewN ?_ _ | refine blk_drew ?_ | refine blk_alloc ?_ _)); exact BK348.out⟩, ⟨by repeat (first | (with_reducible first | exact HI0.out | apply IsS78.alloc | apply IsS78.drewN | apply IsS78.drew | apply IsS78.set_1 | apply IsS78.set_2 | refine IsS78.far ?_ NB0_347.out _ | refine IsS78.far ?_ NB0_348.out _) | exact HI0.out)⟩, ⟨by repeat (first | (with_reducible first | exact HK.out | apply KeepBut.set_ | apply keep_drewN | apply keep_drew | apply keep_alloc | refine keep_far ?_ GW347.out _ | refine keep_far ?_ GW348.out _) | exact HK.out)⟩, ⟨by repeat (first | (with_reducible first | exact HB.out | apply below_alloc | apply pw_below_drewN | apply below_drew1 | refine below_set ?_ (IsS78.ge HI0.out) | refine below_set ?_ GE347.out | refine below_set ?_ GE348.out) | exact HB.out)⟩⟩
                        · rw [if_neg c26] at H
                          have c26b0 : decide (0 < x7_5) = false := decide_eq_false c26
                          clear c26
                          by_cases c32 : x349000_2.length < 5864062014805
                          · rw [if_pos c32] at H
                            have LMc32 := Aside0.mk c32
                            clear c32
                            obtain ⟨y373, hy373⟩ : ∃ y_ : List (List Int), y_ = (x349000_2 ++ [x6_5]) := ⟨_, rfl⟩
                            replace H : (spec_l1Cur_graph.l0 k5 x4_3 (wrap64 (x5_2 + 1)) s0_0 x1001_5 x1002_5 y373) = some (r1, r2, r3) := by first | (rw [hy373]; with_reducible exact H) | (have H2_ := (Option.bind_some _ _).symm.trans H; rw [hy373]; with_reducible exact H2_) | (have H2_ := (Option.bind_some _ _).symm.trans H; with_reducible exact H2_) | with_reducible exact H | (rw [hy373]; exact H) | exact H
                            have Ny373 := Aside0.mk hy373
                            clear hy373
                            as_aux_lemma =>
                              have H' := Aside0.mk H
                              clear H
                              have hnb33 := NB348_347.out
                              have hnc33 := NB347_348.out
                              have hnb34 := NB348_0.out
                              have hnc34 := NB0_348.out
                              have hcz35_0 : wr.cell? ⟨gb348, 0, none⟩ = some (u349000) := (blk_cell BK348.out 0).trans rfl
                              have hfz35_0 := blk_frozen BK348.out 0
                              obtain ⟨Ao37, co37, eo37⟩ := Kd.R_slice HO_6.out
                              subst eo37
                              go_wp2_with (first | ((with_reducible refine gate_builtin (b := .append) (xs := #[.tmp 47, .tmp 49]) rfl ?_); at_builtin; refine Kd.S_append (Kd.slice 3 (Kd.int .i64)) w.heap.size rfl (.tmp 47) (.tmp 49) 22 31 (.slice none 0 0) 24 rfl Try.underlying22 info31 rfl (by decide) (by omega) u349000 x349000_2 x6_5 [.slice Ao37 x6_5.length co37] (fun _ => True) (fun k_ => some k_ = (.slice Ao37 x6_5.length co37 : Value).ownBlock) rfl rfl ?aP (fun k_ hk_ => ((Kd.R_mono (ok' := fun k_ => ((fun _ => True)) k_ ∧ some k_ ≠ (u349000 : Value).ownBlock) (Kd.R_apart' (HO_6.out) (Kd.S_typed HO_349000.out) (by decide)) (fun k_ hk => ⟨trivial, hk.2⟩))).1 k_ hk_.symm) ?aF ?aO (Below.refl _ _) ?aS ?aL ?_; (case aP => exact Kd.M_row (Kd.R_mono (Kd.R_tight rfl (Kd.R_mono (ok' := fun k_ => ((fun _ => True)) k_ ∧ some k_ ≠ (u349000 : Value).ownBlock) (Kd.R_apart' (HO_6.out) (Kd.S_typed HO_349000.out) (by decide)) (fun k_ hk => ⟨trivial, hk.2⟩))) (fun _ h_ => h_))); (case aF => exact (fun _ _ => trivial)); (case aO => exact (by (with_reducible repeat (first | apply Kd.S_alloc | apply Kd.S_drewN | apply Kd.S_drew)); exact Kd.S_mono HO_349000.out (fun k_ hk => ⟨trivial, fun e_ => hk e_⟩))); (case aS => exact (keep_size (w := w) (g := g) (row := none) (by repeat (first | (with_reducible first | exact HK.out | apply KeepBut.set_ | apply keep_drewN | apply keep_drew | apply keep_alloc | refine keep_far ?_ GW347.out _ | refine keep_far ?_ GW348.out _) | exact HK.out)))); (case aL => have := LMc32.out; omega); intro v374 w36 ho hb hg hat; rw [← Ny373.out] at ho; have n0_ := Aside0.mk (blk_grown (g := gb347) (o := .cells #[.slice none 0 0] 27 (0, 0)) (by (with_reducible repeat (first | refine blk_drewN ?_ _ | refine blk_drew ?_ | refine blk_alloc ?_ _)); exact BK347.out) hg (Kd.S_ne HO_349000.out BK347.out (by decide))); have n1_ := Aside0.mk (blk_grown (g := gb348) (o := .cells #[u349000] 27 (0, 0)) (by (with_reducible repeat (first | refine blk_drewN ?_ _ | refine blk_drew ?_ | refine blk_alloc ?_ _)); exact BK348.out) hg (Kd.S_ne HO_349000.out BK348.out (by decide))); have n2_ := Aside0.mk (IsS78.grown (by repeat (first | (with_reducible first | exact HI0.out | apply IsS78.alloc | apply IsS78.drewN | apply IsS78.drew | apply IsS78.set_1 | apply IsS78.set_2 | refine IsS78.far ?_ NB0_347.out _ | refine IsS78.far ?_ NB0_348.out _) | exact HI0.out)) hg (IsS78.own_neS HI0.out HO_349000.out (by decide))); have n3_ := Aside0.mk (below_weaken (by repeat (first | (with_reducible first | exact HB.out | apply below_alloc | apply pw_below_drewN | apply below_drew1 | refine below_set ?_ (IsS78.ge HI0.out) | refine below_set ?_ GE347.out | refine below_set ?_ GE348.out) | exact HB.out)) HL.out hb); have n4_ := Aside0.mk (KeepBut.trans (by repeat (first | (with_reducible first | exact HK.out | apply KeepBut.set_ | apply keep_drewN | apply keep_drew | apply keep_alloc | refine keep_far ?_ GW347.out _ | refine keep_far ?_ GW348.out _) | exact HK.out)) (KeepBut.of_grown hg g) (Kd.S_base2 HO_349000.out)); have n5_ := Aside0.mk (ho); clear BK347; clear BK348; clear HI0; clear HB; clear HK; clear HO_349000; clear HO_6; have BK347 := n0_; have BK348 := n1_; have HI0 := n2_; have HB := n3_; have HK := n4_; have HO375 := n5_; clear n0_ n1_ n2_ n3_ n4_ n5_; clear ho hb hg hat; obtain ⟨Ao38, co38, eo38⟩ := Kd.S_slice HO375.out; subst eo38; have hcz39_0 : w36.cell? ⟨gb348, 0, none⟩ = some (u349000) := (blk_cell BK348.out 0).trans rfl; have hfz39_0 := blk_frozen BK348.out 0))
                              go_roundg k5
                              case measure => have := HJ3.out; have := HK2.out; have := HJ15.out; have := HJ19.out; have := HK5.out; omega
                              case rel => exact ⟨(wrap64 (x5_2 + 1)), (x1001_5), (x1002_5), (y373), (.slice Ao38 y373.length co38), (by first | rfl | (simp; done) | (simp [*]; done)), H', ⟨by have := HJ3.out; have := HK2.out; have := HJ15.out; have := HJ19.out; have := HK5.out; omega⟩, ⟨by (with_reducible repeat (first | apply Kd.S_alloc | apply Kd.S_drewN | apply Kd.S_drew)); exact Kd.S_mono (Kd.S_far (p := ⟨gb348, 0, none⟩) (Kd.S_types HO375.out BK348.out (by decide)) (fun _ hk => hk.2) (.slice Ao38 y373.length co38)) (fun _ hk => trivial)⟩, ⟨by (with_reducible repeat (first | refine blk_drewN ?_ _ | refine blk_drew ?_ | refine blk_alloc ?_ _)); refine blk_far ?_ NB347_348.out _; (with_reducible repeat (first | refine blk_drewN ?_ _ | refine blk_drew ?_ | refine blk_alloc ?_ _)); exact BK347.out⟩, ⟨by (with_reducible repeat (first | refine blk_drewN ?_ _ | refine blk_drew ?_ | refine blk_alloc ?_ _)); refine blk_put (cs := #[u349000]) ?_ 0 _ rfl; (with_reducible repeat (first | refine blk_drewN ?_ _ | refine blk_drew ?_ | refine blk_alloc ?_ _)); exact BK348.out⟩, ⟨by repeat (first | (with_reducible first | exact HI0.out | apply IsS78.alloc | apply IsS78.drewN | apply IsS78.drew | apply IsS78.set_1 | apply IsS78.set_2 | refine IsS78.far ?_ NB0_347.out _ | refine IsS78.far ?_ NB0_348.out _) | exact HI0.out)⟩, ⟨by repeat (first | (with_reducible first | exact HK.out | apply KeepBut.set_ | apply keep_drewN | apply keep_drew | apply keep_alloc | refine keep_far ?_ GW347.out _ | refine keep_far ?_ GW348.out _) | exact HK.out)⟩, ⟨by repeat (first | (with_reducible first | exact HB.out | apply below_alloc | apply pw_below_drewN | apply below_drew1 | refine below_set ?_ (IsS78.ge HI0.out) | refine below_set ?_ GE347.out | refine below_set ?_ GE348.out) | exact HB.out)⟩⟩
                          · rw [if_neg c32] at H
                            exact absurd H (by simp)
          · rw [if_neg c15] at H
            have c15b0 : decide (x5_2 < x4_3) = false := decide_eq_false c15
            clear c15
            replace H := Option.bind_eq_some_iff.mp H
            obtain ⟨⟨t376, t377, t378⟩, A400, H⟩ := H
            replace H : (if t376 = true then (if 0 < (x349000_2.length : Int) then ((spec_l1Cur_among.f s0_0 t377 t378 (([(-1), 0, x4_3] : List Int))).bind fun bt383 => (if (rd_L1 x349000_2 0).length < 17592186044416 then (some ((x349000_2.set (0 : Int).toNat ((rd_L1 x349000_2 0) ++ [bt383.1])), bt383.2.1, bt383.2.2)) else (none))) else (none)) else (some (x349000_2, t377, t378))) = some (r1, r2, r3) := H
            have A40 := Aside0.mk A400
            clear A400
            by_cases c41 : t376 = true
            · subst c41
              have H1 : (if 0 < (x349000_2.length : Int) then ((spec_l1Cur_among.f s0_0 t377 t378 (([(-1), 0, x4_3] : List Int))).bind fun bt383 => (if (rd_L1 x349000_2 0).length < 17592186044416 then (some ((x349000_2.set (0 : Int).toNat ((rd_L1 x349000_2 0) ++ [bt383.1])), bt383.2.1, bt383.2.2)) else (none))) else (none)) = some (r1, r2, r3) := by rw [if_pos rfl] at H; exact H
              clear H
              have H := H1
              clear H1
              by_cases c42 : 0 < (x349000_2.length : Int)
              · rw [if_pos c42] at H
                have c42b0 : decide (0 < (x349000_2.length : Int)) = true := decide_eq_true c42
                have c42b1 : decide (0 < x349000_2.length) = true := decide_eq_true (by omega)
                clear c42
                obtain ⟨y380, hy380⟩ : ∃ y_ : List Int, y_ = (([(-1), 0, x4_3] : List Int)) := ⟨_, rfl⟩
                replace H : ((spec_l1Cur_among.f s0_0 t377 t378 y380).bind fun bt383 => (if (rd_L1 x349000_2 0).length < 17592186044416 then (some ((x349000_2.set (0 : Int).toNat ((rd_L1 x349000_2 0) ++ [bt383.1])), bt383.2.1, bt383.2.2)) else (none))) = some (r1, r2, r3) := by first | (rw [hy380]; with_reducible exact H) | (have H2_ := (Option.bind_some _ _).symm.trans H; rw [hy380]; with_reducible exact H2_) | (have H2_ := (Option.bind_some _ _).symm.trans H; with_reducible exact H2_) | with_reducible exact H | (rw [hy380]; exact H) | exact H
                have Ny380 := Aside0.mk hy380
                clear hy380
                replace H := Option.bind_eq_some_iff.mp H
                obtain ⟨⟨t383, t384, t385⟩, A430, H⟩ := H
                replace H : (if (rd_L1 x349000_2 0).length < 17592186044416 then (some ((x349000_2.set (0 : Int).toNat ((rd_L1 x349000_2 0) ++ [t383])), t384, t385)) else (none)) = some (r1, r2, r3) := H
                have A43 := Aside0.mk A430
                clear A430
                by_cases c44 : (rd_L1 x349000_2 0).length < 17592186044416
                · rw [if_pos c44] at H
                  have LMc44 := Aside0.mk c44
                  clear c44
                  obtain ⟨y386, hy386⟩ : ∃ y_ : List Int, y_ = ((rd_L1 x349000_2 0) ++ [t383]) := ⟨_, rfl⟩
                  replace H : (some ((x349000_2.set (0 : Int).toNat y386), t384, t385)) = some (r1, r2, r3) := by first | (rw [hy386]; with_reducible exact H) | (have H2_ := (Option.bind_some _ _).symm.trans H; rw [hy386]; with_reducible exact H2_) | (have H2_ := (Option.bind_some _ _).symm.trans H; with_reducible exact H2_) | with_reducible exact H | (rw [hy386]; exact H) | exact H
                  have Ny386 := Aside0.mk hy386
                  clear hy386
                  obtain ⟨y389, hy389⟩ : ∃ y_ : List (List Int), y_ = (x349000_2.set (0 : Int).toNat y386) := ⟨_, rfl⟩
                  replace H : (some (y389, t384, t385)) = some (r1, r2, r3) := by first | (rw [hy389]; with_reducible exact H) | (have H2_ := (Option.bind_some _ _).symm.trans H; rw [hy389]; with_reducible exact H2_) | (have H2_ := (Option.bind_some _ _).symm.trans H; with_reducible exact H2_) | with_reducible exact H | (rw [hy389]; exact H) | exact H
                  have Ny389 := Aside0.mk hy389
                  clear hy389
                  as_aux_lemma =>
                    simp only [Option.some.injEq, Prod.mk.injEq] at H
                    obtain ⟨rfl, rfl, rfl⟩ := H
                    try go_wp2_with (first | ((with_reducible refine gate_callee (f := 80) rfl ?_); refine goesL_ (some 53) rfl rfl Try.func80 (by kernel_rfl) rfl #[.pointer (some ⟨g, 0, none⟩), .int .i64 30] rfl (by (try simp only [List.map_toArray, List.map_cons, List.map_nil]); first | done | rfl | (simp only [List.length_drop, List.length_take]; rfl)) ?_; (with_reducible refine (spec_l1Cur_one.calls g s0_0 x1001_2 x1002_2 30 true t377 t378 w0 _ ?side1 ?side2 A40.out).mono ?_); (case side1 => repeat (first | (with_reducible first | exact HI0.out | apply IsS78.alloc | apply IsS78.drewN | apply IsS78.drew | apply IsS78.set_1 | apply IsS78.set_2 | refine IsS78.far ?_ NB0_347.out _ | refine IsS78.far ?_ NB0_348.out _) | exact HI0.out)); (case side2 => repeat (first | (with_reducible first | exact HB.out | apply below_alloc | apply pw_below_drewN | apply below_drew1 | refine below_set ?_ (IsS78.ge HI0.out) | refine below_set ?_ GE347.out | refine below_set ?_ GE348.out) | exact HB.out)); rintro e w46 ⟨rfl, hi, hb, hk⟩; refine ⟨_, rfl, ?_⟩; have n0_ := Aside0.mk (Kd.S_mono (Kd.S_keep (IsS78.apartS (show IsS78 w0 _ g s0_0 x1001_2 x1002_2 from by repeat (first | (with_reducible first | exact HI0.out | apply IsS78.alloc | apply IsS78.drewN | apply IsS78.drew | apply IsS78.set_1 | apply IsS78.set_2 | refine IsS78.far ?_ NB0_347.out _ | refine IsS78.far ?_ NB0_348.out _) | exact HI0.out)) (by (with_reducible repeat (first | apply Kd.S_alloc | apply Kd.S_drewN | apply Kd.S_drew)); exact HO_349000.out) (by decide)) hk (fun _ h => h.2)) (fun _ h => h.1)); have n1_ := Aside0.mk (KeepBut.blk hk (g' := gb347) (o := .cells #[.slice none 0 0] 27 (0, 0)) (by (with_reducible repeat (first | refine blk_drewN ?_ _ | refine blk_drew ?_ | refine blk_alloc ?_ _)); exact BK347.out) NB347_0.out (by simp)); have n2_ := Aside0.mk (KeepBut.blk hk (g' := gb348) (o := .cells #[u349000] 27 (0, 0)) (by (with_reducible repeat (first | refine blk_drewN ?_ _ | refine blk_drew ?_ | refine blk_alloc ?_ _)); exact BK348.out) NB348_0.out (by simp)); have n3_ := Aside0.mk (KeepBut.trans (by repeat (first | (with_reducible first | exact HK.out | apply KeepBut.set_ | apply keep_drewN | apply keep_drew | apply keep_alloc | refine keep_far ?_ GW347.out _ | refine keep_far ?_ GW348.out _) | exact HK.out)) hk (.inl rfl)); have n4_ := Aside0.mk (hb); have n5_ := Aside0.mk (hi); clear HO_349000; clear BK347; clear BK348; clear HK; clear HB; clear HI0; have HO_349000 := n0_; have BK347 := n1_; have BK348 := n2_; have HK := n3_; have HB := n4_; have HI0 := n5_; clear n0_ n1_ n2_ n3_ n4_ n5_; (try clear hb); (try clear hb2); (try clear hk); (try clear hi)))
                    have n0_ := Aside0.mk (Kd.S_drew HO_349000.out)
                    have n1_ := Aside0.mk (blk_drew BK347.out)
                    have n2_ := Aside0.mk (blk_drew BK348.out)
                    have n3_ := Aside0.mk (IsS78.drew HI0.out)
                    have n4_ := Aside0.mk (keep_drew HK.out)
                    have n5_ := Aside0.mk (below_drew1 HB.out)
                    clear HO_349000
                    clear BK347
                    clear BK348
                    clear HI0
                    clear HK
                    clear HB
                    have HO_349000 := n0_
                    have BK347 := n1_
                    have BK348 := n2_
                    have HI0 := n3_
                    have HK := n4_
                    have HB := n5_
                    clear n0_ n1_ n2_ n3_ n4_ n5_
                    obtain ⟨Ao48, co48, eo48⟩ := Kd.S_slice HO_349000.out
                    (first | subst eo48 | (injection eo48 with f1_ f2_ f3_; have f4_ := f1_.symm; have f5_ := f3_.symm; clear f1_ f2_ f3_; subst f4_; subst f5_))
                    have p379 : 0 ≤ (0 : Int) := (by omega)
                    have q379 : 0 < (x349000_2.length : Int) := of_decide_eq_true (by first | (with_reducible assumption) | assumption)
                    obtain ⟨ad379, A379_0, c379_0, e379, hx379_0, hl379_0, hi379_0⟩ := at_L1 (Kd.S_reads' HO_349000.out).2.2 0 p379 q379
                    cases e379
                    obtain ⟨ce379, hce379, hMe379, hcc379⟩ := Kd.S_get HO_349000.out [] 0 p379 (by first | exact q379 | exact of_decide_eq_true (by first | (with_reducible assumption) | assumption) | (have e_ := (Kd.S_reads' HO_349000.out).1; omega))
                    obtain ⟨ve379_0, rfl, ge379_0⟩ := hMe379
                    have hv379_0 := hcc379 0 _ rfl
                    rw [Nat.add_zero, show ((Kd.slice 3 (Kd.int .i64))).sz = 1 from rfl, Nat.mul_one] at hv379_0
                    replace hv379_0 := Option.some.inj (hv379_0.symm.trans hx379_0)
                    rw [hv379_0] at ge379_0
                    have HL379_0 := Aside0.mk (show Kd.R (Kd.int .i64) 3 _ _ _ _ (rd_L1 x349000_2 0) from ge379_0)
                    clear hv379_0 ge379_0
                    have HX379_0 := Aside0.mk hx379_0
                    clear hcc379 hce379
                    have qi379 : (0 < x349000_2.length) = True := eq_true (by omega)
                    (try rw [show ((0 : Int)).toNat = 0 from rfl] at hx379_0)
                    (try rw [Addr.add_zero'] at hx379_0)
                    have HR379_0 := Aside0.mk hi379_0
                    have HC379_0 := Aside0.mk hl379_0
                    clear hi379_0 hl379_0
                    replace p379 := eq_true p379
                    replace q379 := eq_true q379
                    refine start_ (n := 14) (S := fun w' => w'.cell? ⟨gb348, 0, none⟩ = some (.slice (some ad379) x349000_2.length co48) ∧ w'.cell? ad379 = some (.slice A379_0 (rd_L1 x349000_2 0).length c379_0)) (ds := [13]) #[false, false, false, false, false, false, false, false, false, false, false, false, false, false] (by kernel_rfl) rfl rfl ⟨(blk_cell BK348.out 0).trans rfl, hx379_0⟩ (fun hHeld => ?_); refine with_tabW spec_l1Cur_graph.tab17 spec_l1Cur_graph.bits17 (fun HT_ HW_ => ?_)
                    generalize w46.drew = w47 at HO_349000 BK347 BK348 HI0 HK HB HL379_0 HR379_0 HX379_0 hx379_0 hHeld ⊢
                    refine pure_ (i := 0) (N := some 54) (v := ?_) (a' := ?_) #[true, false, false, false, false, false, false, false, false, false, false, false, false, false] rfl rfl (any_of HT_.out (by kernel_rfl)) (fun _ _ _ h => h) (Or.inl ⟨by rfl, ?_⟩) ?_ ?_
                    rotate_left
                    · intro w'
                      go_simp
                      with_reducible rfl
                    rotate_left
                    · simp only [Act.put, List.setIfInBounds_toArray, List.set_cons_zero, List.set_cons_succ, i64_w, i32_w]
                      rfl
                    refine pure_ (i := 2) (N := some 56) (v := ?_) (a' := ?_) #[true, false, true, false, false, false, false, false, false, false, false, false, false, false] rfl rfl (any_of HT_.out (by kernel_rfl)) (fun _ _ _ h => h) (Or.inl ⟨by rfl, ?_⟩) ?_ ?_
                    rotate_left
                    · intro w'
                      go_simp
                      with_reducible rfl
                    rotate_left
                    · simp only [Act.put, List.setIfInBounds_toArray, List.set_cons_zero, List.set_cons_succ, i64_w, i32_w]
                      rfl
                    refine pure_ (i := 6) (N := some 60) (v := ?_) (a' := ?_) #[true, false, true, false, false, false, true, false, false, false, false, false, false, false] rfl rfl (any_of HT_.out (by kernel_rfl)) (fun _ _ _ h => h) (Or.inl ⟨by rfl, ?_⟩) ?_ ?_
                    rotate_left
                    · intro w'
                      go_simp
                      with_reducible rfl
                    rotate_left
                    · simp only [Act.put, List.setIfInBounds_toArray, List.set_cons_zero, List.set_cons_succ, i64_w, i32_w]
                      rfl
                    refine pure_ (i := 7) (N := some 61) (v := ?_) (a' := ?_) #[true, false, true, false, false, false, true, true, false, false, false, false, false, false] rfl rfl (any_of HT_.out (by kernel_rfl)) (fun _ _ _ h => h) (Or.inl ⟨by rfl, ?_⟩) ?_ ?_
                    rotate_left
                    · intro w'
                      go_simp
                      with_reducible rfl
                    rotate_left
                    · simp only [Act.put, List.setIfInBounds_toArray, List.set_cons_zero, List.set_cons_succ, i64_w, i32_w]
                      rfl
                    refine take_ (i := 1) (N := some 55) (v := ?_) (a' := ?_) #[true, true, true, false, false, false, true, true, false, false, false, false, false, false] rfl rfl (take_ofW HT_.out HW_.out (by kernel_rfl)) (fun _ _ _ h => h) (Or.inl ⟨by rfl, ?_⟩) hHeld ?_ ?_
                    rotate_left
                    · rintro w' ⟨s0, s1⟩
                      go_simp
                      with_reducible rfl
                    rotate_left
                    · simp only [Act.put, List.setIfInBounds_toArray, List.set_cons_zero, List.set_cons_succ, i64_w, i32_w]
                      rfl
                    refine take_ (i := 3) (N := some 57) (v := ?_) (a' := ?_) #[true, true, true, true, false, false, true, true, false, false, false, false, false, false] rfl rfl (take_ofW HT_.out HW_.out (by kernel_rfl)) (fun _ _ _ h => h) (Or.inl ⟨by rfl, ?_⟩) hHeld ?_ ?_
                    rotate_left
                    · rintro w' ⟨s0, s1⟩
                      go_simp
                      with_reducible rfl
                    rotate_left
                    · simp only [Act.put, List.setIfInBounds_toArray, List.set_cons_zero, List.set_cons_succ, i64_w, i32_w]
                      rfl
                    refine pure_ (i := 4) (N := some 58) (v := ?_) (a' := ?_) #[true, true, true, true, true, false, true, true, false, false, false, false, false, false] rfl rfl (any_of HT_.out (by kernel_rfl)) (fun _ _ _ h => h) (Or.inl ⟨by rfl, ?_⟩) ?_ ?_
                    rotate_left
                    · intro w'
                      go_simp
                      with_reducible rfl
                    rotate_left
                    · simp only [Act.put, List.setIfInBounds_toArray, List.set_cons_zero, List.set_cons_succ, i64_w, i32_w]
                      rfl
                    refine take_ (i := 5) (N := some 59) (v := ?_) (a' := ?_) #[true, true, true, true, true, true, true, true, false, false, false, false, false, false] rfl rfl (take_ofW HT_.out HW_.out (by kernel_rfl)) (fun _ _ _ h => h) (Or.inl ⟨by rfl, ?_⟩) hHeld ?_ ?_
                    rotate_left
                    · rintro w' ⟨s0, s1⟩
                      go_simp
                      with_reducible rfl
                    rotate_left
                    · simp only [Act.put, List.setIfInBounds_toArray, List.set_cons_zero, List.set_cons_succ, i64_w, i32_w]
                      rfl
                    refine one_ (i := 8) (N := some 62) #[true, true, true, true, true, true, true, true, true, false, false, false, false, false] rfl rfl (one_of HT_.out (by kernel_rfl)) (by decide) (fun K hK => ?_)
                    refine Kd.R_lit_step (Kd.int .i64) _ 3 ?hg (N := 62) ?hd (xs := ([(-1), 0, x4_3] : List Int)) (inner := [.int .i64 (-1), .int .i64 0, .int .i64 x4_3]) (ok := fun _ => True) (okp := fun _ => True) ?hr ?hp (fun _ hk => hk) trivial (Below.refl _ _) (Nat.le_refl _) (by simp) ?_; (case hd => rfl); (case hg => rfl); (case hr => first | (go_simp; done) | (go_simp; rfl)); (case hp => exact (Reps.one (show Kd.M (Kd.int .i64) _ _ _ (-1) [.int .i64 (-1)] from rfl) (Reps.one (show Kd.M (Kd.int .i64) _ _ _ 0 [.int .i64 0] from rfl) (Reps.one (show Kd.M (Kd.int .i64) _ _ _ x4_3 [.int .i64 x4_3] from rfl) (Reps.none _ _)))))
                    intro v381 w49 ho50 hb hg_ hnew_
                    have HS1_ := (hb.cell (World.block_lt_of_cell? _ _ (hHeld.2))).trans (hHeld.2)
                    clear hg_ hnew_
                    (first | rw [← Ny380.out] at ho50 | (simp only [Int.reduceToNat] at ho50; rw [← Ny380.out] at ho50))
                    have n0_ := Aside0.mk (Kd.S_elder' (by (with_reducible repeat (first | apply Kd.S_alloc | apply Kd.S_drewN | apply Kd.S_drew)); exact HO_349000.out) (Kd.R_base ho50) hb)
                    have n1_ := Aside0.mk (Kd.R_elder' (by (with_reducible repeat (first | apply Kd.R_alloc | apply Kd.R_drewN | apply Kd.R_drew)); exact HL379_0.out) (Kd.R_base ho50) hb)
                    have n2_ := Aside0.mk (Kd.R_lower (Kd.R_new' ho50 (Kd.R_lt (by (with_reducible repeat (first | apply Kd.R_alloc | apply Kd.R_drewN | apply Kd.R_drew)); exact HL379_0.out))) (keep_size (w := w) (g := g) (row := none) (by repeat (first | (with_reducible first | exact HK.out | apply KeepBut.set_ | apply keep_drewN | apply keep_drew | apply keep_alloc | refine keep_far ?_ GW347.out _ | refine keep_far ?_ GW348.out _) | exact HK.out))))
                    have n3_ := Aside0.mk (blk_below (g := gb347) (o := .cells #[.slice none 0 0] 27 (0, 0)) (by (with_reducible repeat (first | refine blk_drewN ?_ _ | refine blk_drew ?_ | refine blk_alloc ?_ _)); exact BK347.out) hb)
                    have n4_ := Aside0.mk (blk_below (g := gb348) (o := .cells #[.slice (some ad379) x349000_2.length co48] 27 (0, 0)) (by (with_reducible repeat (first | refine blk_drewN ?_ _ | refine blk_drew ?_ | refine blk_alloc ?_ _)); exact BK348.out) hb)
                    have n5_ := Aside0.mk (IsS78.below (by repeat (first | (with_reducible first | exact HI0.out | apply IsS78.alloc | apply IsS78.drewN | apply IsS78.drew | apply IsS78.set_1 | apply IsS78.set_2 | refine IsS78.far ?_ NB0_347.out _ | refine IsS78.far ?_ NB0_348.out _) | exact HI0.out)) hb)
                    have n6_ := Aside0.mk (Kd.C_below (by repeat (first | (with_reducible exact HR379_0.out) | (with_reducible refine Kd.C_alloc ?_ _) | (with_reducible refine Kd.C_drewN ?_ _) | (with_reducible refine Kd.C_drew ?_) | exact HR379_0.out)) hb)
                    have n7_ := Aside0.mk (pw_cell_below hb HX379_0.out)
                    have n8_ := Aside0.mk (KeepBut.trans (by repeat (first | (with_reducible first | exact HK.out | apply KeepBut.set_ | apply keep_drewN | apply keep_drew | apply keep_alloc | refine keep_far ?_ GW347.out _ | refine keep_far ?_ GW348.out _) | exact HK.out)) (KeepBut.of_below hb g none) (.inl rfl))
                    have n9_ := Aside0.mk (below_step (by repeat (first | (with_reducible first | exact HB.out | apply below_alloc | apply pw_below_drewN | apply below_drew1 | refine below_set ?_ (IsS78.ge HI0.out) | refine below_set ?_ GE347.out | refine below_set ?_ GE348.out) | exact HB.out)) hb)
                    clear HO_349000
                    clear HL379_0
                    clear BK347
                    clear BK348
                    clear HI0
                    clear HR379_0
                    clear HX379_0
                    clear HK
                    clear HB
                    have HO_349000 := n0_
                    have HL379_0 := n1_
                    have HO382 := n2_
                    have BK347 := n3_
                    have BK348 := n4_
                    have HI0 := n5_
                    have HR379_0 := n6_
                    have HX379_0 := n7_
                    have HK := n8_
                    have HB := n9_
                    clear n0_ n1_ n2_ n3_ n4_ n5_ n6_ n7_ n8_ n9_
                    clear hb ho50
                    obtain ⟨Ao51, co51, eo51⟩ := Kd.R_slice HO382.out
                    (first | subst eo51 | (injection eo51 with f1_ f2_ f3_; have f4_ := f1_.symm; have f5_ := f3_.symm; clear f1_ f2_ f3_; subst f4_; subst f5_))
                    refine hK.out _ _ ⟨(blk_cell BK348.out 0).trans rfl, HS1_⟩ (fun hHeld => ?_)
                    clear hK K
                    refine norm_ (a' := ?_) ?_ ?_
                    rotate_left
                    · show Act.put _ (some 62) _ = _
                      simp only [Act.put, List.setIfInBounds_toArray, List.set_cons_zero, List.set_cons_succ, i64_w, i32_w]
                      rfl
                    refine one_ (i := 9) (N := some 63) #[true, true, true, true, true, true, true, true, true, true, false, false, false, false] rfl rfl (one_of HT_.out (by kernel_rfl)) (by decide) (fun K hK => ?_)
                    refine goes_ Try.func83 (by kernel_rfl) rfl #[.pointer (some ⟨g, 0, none⟩), .slice Ao51 y380.length co51] (by rfl) rfl rfl (by (try simp only [List.map_toArray, List.map_cons, List.map_nil]); first | done | rfl | (simp only [List.length_drop, List.length_take]; rfl)) ?_
                    with_reducible refine (spec_l1Cur_among.calls g s0_0 t377 t378 _ _ y380 t383 t384 t385 w0 _ ?side1 ?side2 ?side3 ?side4 ?side5 A43.out).mono ?_
                    (case side1 => repeat (first | (with_reducible first | exact HI0.out | apply IsS78.alloc | apply IsS78.drewN | apply IsS78.drew | apply IsS78.set_1 | apply IsS78.set_2 | refine IsS78.far ?_ NB0_347.out _ | refine IsS78.far ?_ NB0_348.out _) | exact HI0.out))
                    (case side2 => repeat (first | (with_reducible first | exact HB.out | apply below_alloc | apply pw_below_drewN | apply below_drew1 | refine below_set ?_ (IsS78.ge HI0.out) | refine below_set ?_ GE347.out | refine below_set ?_ GE348.out) | exact HB.out))
                    (case side3 => repeat (first | exact (Kd.R_reads' HO382.out).2.2 | (with_reducible refine Kd.C_alloc ?_ _) | (with_reducible refine Kd.C_drewN ?_ _) | (with_reducible refine Kd.C_drew ?_)))
                    (case side4 => exact (Kd.R_reads' HO382.out).2.1)
                    (case side5 => exact far_slice (IsS78.own_ne HI0.out HO382.out (by decide)))
                    rintro e w52 ⟨rfl, hi, hb, hk⟩
                    have HS1_ := keep_cell hk (hHeld.2) (by first | (rw [add_block]; exact Kd.own_blk (IsS78.own_neS HI0.out HO_349000.out (by decide))) | (show (Addr.add _ _).block ≠ _; rw [add_block]; exact Kd.own_blk (IsS78.own_neS HI0.out HO_349000.out (by decide))) | exact Kd.own_blk (IsS78.own_neS HI0.out HO_349000.out (by decide)))
                    refine ⟨_, rfl, ?_⟩
                    have n0_ := Aside0.mk (Kd.S_mono (Kd.S_keep (IsS78.apartS (show IsS78 w0 _ g s0_0 t377 t378 from by repeat (first | (with_reducible first | exact HI0.out | apply IsS78.alloc | apply IsS78.drewN | apply IsS78.drew | apply IsS78.set_1 | apply IsS78.set_2 | refine IsS78.far ?_ NB0_347.out _ | refine IsS78.far ?_ NB0_348.out _) | exact HI0.out)) (by (with_reducible repeat (first | apply Kd.S_alloc | apply Kd.S_drewN | apply Kd.S_drew)); exact HO_349000.out) (by decide)) hk (fun _ h => h.2)) (fun _ h => h.1))
                    have n1_ := Aside0.mk (KeepBut.blk hk (g' := gb347) (o := .cells #[.slice none 0 0] 27 (0, 0)) (by (with_reducible repeat (first | refine blk_drewN ?_ _ | refine blk_drew ?_ | refine blk_alloc ?_ _)); exact BK347.out) NB347_0.out (by simp))
                    have n2_ := Aside0.mk (KeepBut.blk hk (g' := gb348) (o := .cells #[.slice (some ad379) x349000_2.length co48] 27 (0, 0)) (by (with_reducible repeat (first | refine blk_drewN ?_ _ | refine blk_drew ?_ | refine blk_alloc ?_ _)); exact BK348.out) NB348_0.out (by simp))
                    have n3_ := Aside0.mk (Kd.R_mono (Kd.R_keep (IsS78.apart (show IsS78 w0 _ g s0_0 t377 t378 from by repeat (first | (with_reducible first | exact HI0.out | apply IsS78.alloc | apply IsS78.drewN | apply IsS78.drew | apply IsS78.set_1 | apply IsS78.set_2 | refine IsS78.far ?_ NB0_347.out _ | refine IsS78.far ?_ NB0_348.out _) | exact HI0.out)) (by (with_reducible repeat (first | apply Kd.R_alloc | apply Kd.R_drewN | apply Kd.R_drew)); exact HL379_0.out) (by decide)) hk (fun _ h => h.2)) (fun _ h => h.1))
                    have n4_ := Aside0.mk (keep_cell hk HX379_0.out (by first | (rw [add_block]; exact Kd.own_blk (IsS78.own_neS HI0.out HO_349000.out (by decide))) | (show (Addr.add _ _).block ≠ _; rw [add_block]; exact Kd.own_blk (IsS78.own_neS HI0.out HO_349000.out (by decide))) | exact Kd.own_blk (IsS78.own_neS HI0.out HO_349000.out (by decide)) | (dsimp only; exact Kd.own_blk (IsS78.own_neS HI0.out HO_349000.out (by decide)))))
                    have n5_ := Aside0.mk (Kd.R_mono (Kd.R_keep (IsS78.apart (show IsS78 w0 _ g s0_0 t377 t378 from by repeat (first | (with_reducible first | exact HI0.out | apply IsS78.alloc | apply IsS78.drewN | apply IsS78.drew | apply IsS78.set_1 | apply IsS78.set_2 | refine IsS78.far ?_ NB0_347.out _ | refine IsS78.far ?_ NB0_348.out _) | exact HI0.out)) (by (with_reducible repeat (first | apply Kd.R_alloc | apply Kd.R_drewN | apply Kd.R_drew)); exact HO382.out) (by decide)) hk (fun _ h => h.2)) (fun _ h => h.1))
                    have n6_ := Aside0.mk (KeepBut.trans (by repeat (first | (with_reducible first | exact HK.out | apply KeepBut.set_ | apply keep_drewN | apply keep_drew | apply keep_alloc | refine keep_far ?_ GW347.out _ | refine keep_far ?_ GW348.out _) | exact HK.out)) hk (.inl rfl))
                    have n7_ := Aside0.mk (hb)
                    have n8_ := Aside0.mk (hi)
                    clear HO_349000
                    clear BK347
                    clear BK348
                    clear HL379_0
                    clear HX379_0
                    clear HO382
                    clear HK
                    clear HB
                    clear HI0
                    have HO_349000 := n0_
                    have BK347 := n1_
                    have BK348 := n2_
                    have HL379_0 := n3_
                    have HX379_0 := n4_
                    have HO382 := n5_
                    have HK := n6_
                    have HB := n7_
                    have HI0 := n8_
                    clear n0_ n1_ n2_ n3_ n4_ n5_ n6_ n7_ n8_
                    (try clear hb)
                    (try clear hb2)
                    (try clear hk)
                    (try clear hi)
                    have n_ := Aside0.mk (Kd.S_mono (ok' := (fun k_ => some k_ ≠ (.slice Ao51 y380.length co51 : Value).ownBlock)) HO_349000.out (fun k_ hk => hk.2))
                    clear HO_349000
                    have HO_349000 := n_
                    clear n_
                    obtain ⟨go53, co53, eo53, gb53, gl53, cl53, HG53⟩ := Kd.S_form HO_349000.out (by have h_ : (0 : Int) < ((x349000_2.length : Int) : Int) := of_decide_eq_true (by first | (with_reducible assumption) | assumption); have h2_ : 0 ≤ (0 : Int) := (by omega); omega)
                    (first | cases eo53 | (injection eo53 with ea_ en_ ec_; (first | subst ea_ | (injection ea_ with ea_; subst ea_)); subst ec_; clear en_))
                    have GB53 := Aside0.mk gb53
                    have GG53 := Aside0.mk HG53
                    clear gb53 gl53 HG53
                    (first | simp only [add_plain] at hx379_0 | skip)
                    obtain ⟨oki53, ce53, hcl53, hM53, hcc53, _, _, hH53⟩ := Kd.S_elem HO_349000.out [] (0 : Int) (by omega) (by have h_ : (0 : Int) < ((x349000_2.length : Int) : Int) := of_decide_eq_true (by first | (with_reducible assumption) | assumption); first | exact h_ | (have e_ := (Kd.S_reads' HO_349000.out).1; omega) | simpa using h_)
                    obtain ⟨ve53_0, rfl, ge53_0⟩ := hM53
                    have hv53 := hcc53 0 _ rfl
                    have hX53 := HX379_0.out
                    (try simp only [add_plain] at hX53)
                    (try simp only [Nat.add_zero] at hv53)
                    (try rw [show ((Kd.slice 3 (Kd.int .i64))).sz = 1 from rfl, Nat.mul_one] at hv53)
                    replace hv53 := Option.some.inj (hv53.symm.trans hX53)
                    subst hv53
                    clear hX53 hcc53 hcl53
                    have UU53 := Aside0.mk (show Kd.R (Kd.int .i64) 3 _ w.heap.size oki53 (.slice A379_0 (rd_L1 x349000_2 0).length c379_0) (rd_L1 x349000_2 0) from ge53_0)
                    have HH53 := Aside0.mk hH53
                    have HN53 := Aside0.mk (Kd.S_reads' HO_349000.out).1
                    clear hH53 ge53_0
                    refine hK.out _ _ ⟨(blk_cell BK348.out 0).trans rfl, HS1_⟩ (fun hHeld => ?_)
                    clear hK K
                    refine norm_ (a' := ?_) ?_ ?_
                    rotate_left
                    · show Act.put _ (some 63) _ = _
                      simp only [Act.put, List.setIfInBounds_toArray, List.set_cons_zero, List.set_cons_succ, i64_w, i32_w]
                      rfl
                    refine one_ (i := 10) (N := some 64) #[true, true, true, true, true, true, true, true, true, true, true, false, false, false] rfl rfl (one_of HT_.out (by kernel_rfl)) (by decide) (fun K hK => ?_)
                    refine value_ (w1 := ?_) (v := ?_) (by rfl) rfl ?_ ?_
                    rotate_left 2
                    · go_simp
                      constructor
                      · rfl
                      · rfl
                    refine hK.out _ _ ⟨(blk_cell (blk_alloc BK348.out _) 0).trans rfl, (World.cell?_alloc_lt _ _ _ (World.block_lt_of_cell? _ _ (hHeld.2))).trans (hHeld.2)⟩ (fun hHeld => ?_)
                    clear hK K
                    refine norm_ (a' := ?_) ?_ ?_
                    rotate_left
                    · show Act.put _ (some 64) _ = _
                      simp only [Act.put, List.setIfInBounds_toArray, List.set_cons_zero, List.set_cons_succ, i64_w, i32_w]
                      rfl
                    refine one_ (i := 11) (N := some 65) #[true, true, true, true, true, true, true, true, true, true, true, true, false, false] rfl rfl (one_of HT_.out (by kernel_rfl)) (by decide) (fun K hK => ?_)
                    refine Kd.R_append_step (Kd.int .i64) w.heap.size (by rfl) (.tmp 59) (.tmp 64) 31 3 (.int .i64 0) 8 rfl Try.underlying31 info3 rfl (by decide) (by omega) (.slice A379_0 (rd_L1 x349000_2 0).length c379_0) (rd_L1 x349000_2 0) t383 [.int .i64 t383] (fun k_ => oki53 k_ ∨ ((fun k_ => some k_ ≠ (.slice Ao51 y380.length co51 : Value).ownBlock)) k_ ∧ w52.heap.size ≤ k_) (fun _ => False) rfl rfl ?aP (fun _ hk => hk.elim) ?aF ?aO (Below.refl _ _) ?aS ?aL ?_
                    (case aP => exact rfl)
                    (case aF => exact (fun k_ hk => .inr ⟨Kd.fresh' (Kd.R_lt (by (with_reducible repeat (first | apply Kd.R_alloc | apply Kd.R_drewN | apply Kd.R_drew)); exact HO382.out)) k_ hk, hk⟩))
                    (case aO => exact (by (with_reducible repeat (first | apply Kd.R_alloc | apply Kd.R_drewN | apply Kd.R_drew)); exact Kd.R_mono UU53.out (fun _ hk => .inl hk)))
                    (case aS => exact (keep_size (w := w) (g := g) (row := none) (by repeat (first | (with_reducible first | exact HK.out | apply KeepBut.set_ | apply keep_drewN | apply keep_drew | apply keep_alloc | refine keep_far ?_ GW347.out _ | refine keep_far ?_ GW348.out _) | exact HK.out))))
                    (case aL => have := LMc44.out; omega)
                    intro v387 w54 ho hb hg hat
                    (first | have HS1_ := cell_grown hg (hHeld.2) (by first | (rw [add_block]; exact (fun e_ => ((HL379_0.out.1 _ e_.symm).1.2) rfl)) | (show some (Addr.add _ _).block ≠ _; rw [add_block]; exact (fun e_ => ((HL379_0.out.1 _ e_.symm).1.2) rfl)) | exact (fun e_ => ((HL379_0.out.1 _ e_.symm).1.2) rfl)) | have HS1_ := cell_grown hg (cell_unalloc (hHeld.2) (by first | (rw [add_block]; exact Kd.S_lt HO_349000.out _ rfl) | (show (Addr.add _ _).block < _; rw [add_block]; exact Kd.S_lt HO_349000.out _ rfl) | exact Kd.S_lt HO_349000.out _ rfl)) (by first | (rw [add_block]; exact (fun e_ => ((HL379_0.out.1 _ e_.symm).1.2) rfl)) | (show some (Addr.add _ _).block ≠ _; rw [add_block]; exact (fun e_ => ((HL379_0.out.1 _ e_.symm).1.2) rfl)) | exact (fun e_ => ((HL379_0.out.1 _ e_.symm).1.2) rfl)))
                    rw [← Ny386.out] at ho
                    have n0_ := Aside0.mk (blk_grown (g := gb347) (o := .cells #[.slice none 0 0] 27 (0, 0)) (by (with_reducible repeat (first | refine blk_drewN ?_ _ | refine blk_drew ?_ | refine blk_alloc ?_ _)); exact BK347.out) hg (Kd.R_ne HL379_0.out BK347.out (by decide)))
                    have n1_ := Aside0.mk (blk_grown (g := gb348) (o := .cells #[.slice (some ⟨go53, 0, none⟩) x349000_2.length co48] 27 (0, 0)) (by (with_reducible repeat (first | refine blk_drewN ?_ _ | refine blk_drew ?_ | refine blk_alloc ?_ _)); exact BK348.out) hg (Kd.R_ne HL379_0.out BK348.out (by decide)))
                    have n2_ := Aside0.mk (IsS78.grown (by repeat (first | (with_reducible first | exact HI0.out | apply IsS78.alloc | apply IsS78.drewN | apply IsS78.drew | apply IsS78.set_1 | apply IsS78.set_2 | refine IsS78.far ?_ NB0_347.out _ | refine IsS78.far ?_ NB0_348.out _) | exact HI0.out)) hg (IsS78.own_ne HI0.out HL379_0.out (by decide)))
                    have n3_ := Aside0.mk (Kd.R_grown2 (by (with_reducible repeat (first | apply Kd.R_alloc | apply Kd.R_drewN | apply Kd.R_drew)); exact HO382.out) rfl hg (fun k_ e_ => (HL379_0.out.1 k_ e_).2))
                    have n4_ := Aside0.mk (below_weaken (by repeat (first | (with_reducible first | exact HB.out | apply below_alloc | apply pw_below_drewN | apply below_drew1 | refine below_set ?_ (IsS78.ge HI0.out) | refine below_set ?_ GE347.out | refine below_set ?_ GE348.out) | exact HB.out)) HL.out hb)
                    have n5_ := Aside0.mk (KeepBut.trans (by repeat (first | (with_reducible first | exact HK.out | apply KeepBut.set_ | apply keep_drewN | apply keep_drew | apply keep_alloc | refine keep_far ?_ GW347.out _ | refine keep_far ?_ GW348.out _) | exact HK.out)) (KeepBut.of_grown hg g) (Kd.R_base2 HL379_0.out))
                    have n6_ := Aside0.mk (Kd.H_grown (Kd.H_widen (by repeat (first | exact HH53.out | refine Kd.H_alloc ?_ _ | refine Kd.H_drewN ?_ _ | refine Kd.H_drew ?_))) hg (fun k_ e_ => .inl (UU53.out.1 k_ e_)))
                    have n7_ := Aside0.mk (ho)
                    clear BK347
                    clear BK348
                    clear HI0
                    clear HO382
                    clear HB
                    clear HK
                    clear HH53
                    clear HO_349000
                    clear UU53
                    clear HL379_0
                    have BK347 := n0_
                    have BK348 := n1_
                    have HI0 := n2_
                    have HO382 := n3_
                    have HB := n4_
                    have HK := n5_
                    have HH53 := n6_
                    have HO388 := n7_
                    clear n0_ n1_ n2_ n3_ n4_ n5_ n6_ n7_
                    clear ho hb hg hat
                    have p45 : 0 ≤ (0 : Int) := (by omega)
                    have q45 : (0 : Int) < ((x349000_2.length : Int) : Int) := of_decide_eq_true (by first | (with_reducible assumption) | assumption)
                    replace p45 := eq_true p45
                    replace q45 := eq_true q45
                    obtain ⟨Ao57, co57, eo57⟩ := Kd.R_slice HO388.out
                    (first | subst eo57 | (injection eo57 with f1_ f2_ f3_; have f4_ := f1_.symm; have f5_ := f3_.symm; clear f1_ f2_ f3_; subst f4_; subst f5_))
                    obtain ⟨_, _, hraw55, _, _, hcc55, _⟩ := Kd.H_raw HH53.out (by omega) (by have h_ : (0 : Int) < ((x349000_2.length : Int) : Int) := of_decide_eq_true (by first | (with_reducible assumption) | assumption); first | exact h_ | (have e_ := (HN53.out); omega) | simpa using h_)
                    obtain ⟨_, hfr55⟩ := Kd.H_at HH53.out (by omega) (by have h_ : (0 : Int) < ((x349000_2.length : Int) : Int) := of_decide_eq_true (by first | (with_reducible assumption) | assumption); first | exact h_ | (have e_ := (HN53.out); omega) | simpa using h_)
                    have hx55_0 := hcc55 0 _ rfl
                    have hf55_0 := hfr55 0
                    (try simp only [Nat.add_zero] at hx55_0 hf55_0)
                    (try rw [show ((Kd.slice 3 (Kd.int .i64))).sz = 1 from rfl, Nat.mul_one] at hx55_0)
                    (try rw [show ((Kd.slice 3 (Kd.int .i64))).sz = 1 from rfl, Nat.mul_one] at hf55_0)
                    (try rw [show ((0 : Int)).toNat = 0 from rfl] at hx55_0)
                    (try simp only [Nat.reduceMul, Nat.zero_mul, Nat.zero_add, Nat.reduceAdd] at hx55_0)
                    (try rw [show ((0 : Int)).toNat = 0 from rfl] at hf55_0)
                    (try simp only [Nat.reduceMul, Nat.zero_mul, Nat.zero_add, Nat.reduceAdd] at hf55_0)
                    have HP55 := Kd.S_seg0 HH53.out (by omega) (by have h_ : (0 : Int) < ((x349000_2.length : Int) : Int) := of_decide_eq_true (by first | (with_reducible assumption) | assumption); first | exact h_ | (have e_ := (HN53.out); omega) | simpa using h_) (seg := [.slice Ao57 y386.length co57]) (j := 0) (show 1 ≤ 1 from by decide) (x' := y386) (Kd.M_row HO388.out) (fun _ hk => hk)
                    (try simp only [show ((Kd.slice 3 (Kd.int .i64))).sz = 1 from rfl, Nat.mul_one, Nat.add_zero] at HP55)
                    clear hcc55 hfr55
                    have HN0_go53 := Aside0.mk (show g ≠ go53 from by have h_ := IsS78.own_ne HI0.out hraw55 (by decide); intro e_; exact h_ (by rw [e_]; rfl))
                    have HNB347_go53 := Aside0.mk (show gb347 ≠ go53 from by have h_ := Kd.R_ne hraw55 BK347.out (by decide); intro e_; exact h_ (by rw [e_]; rfl))
                    have HNB348_go53 := Aside0.mk (show gb348 ≠ go53 from by have h_ := Kd.R_ne hraw55 BK348.out (by decide); intro e_; exact h_ (by rw [e_]; rfl))
                    have HS55 := HP55.1
                    rw [← Ny389.out] at HS55
                    have HQ55 := Aside0.mk HS55
                    obtain ⟨_, hgg55⟩ := Kd.R_typed hraw55 go53 rfl
                    have GG55_ := Aside0.mk hgg55
                    clear HP55 HS55 hgg55
                    refine hK.out _ _ ⟨(blk_cell BK348.out 0).trans rfl, HS1_⟩ (fun hHeld => ?_)
                    clear hK K
                    refine norm_ (a' := ?_) ?_ ?_
                    rotate_left
                    · show Act.put _ (some 65) _ = _
                      simp only [Act.put, List.setIfInBounds_toArray, List.set_cons_zero, List.set_cons_succ, i64_w, i32_w]
                      rfl
                    refine pure_ (i := 12) (N := some 66) (v := ?_) (a' := ?_) #[true, true, true, true, true, true, true, true, true, true, true, true, true, false] rfl rfl (any_of HT_.out (by kernel_rfl)) (fun _ _ _ h => h) (Or.inl ⟨by rfl, ?_⟩) ?_ ?_
                    rotate_left
                    · intro w'
                      go_simp
                      with_reducible rfl
                    rotate_left
                    · simp only [Act.put, List.setIfInBounds_toArray, List.set_cons_zero, List.set_cons_succ, i64_w, i32_w]
                      rfl
                    refine last_ (i := 13) (N := none) #[true, true, true, true, true, true, true, true, true, true, true, true, true, true] rfl rfl (one_of HT_.out (by kernel_rfl)) (by decide) (fun K hK => ?_)
                    refine skip_ (w1 := ?_) (by rfl) rfl ?_ ?_
                    rotate_left
                    · go_simp
                      rfl
                    refine hK.out _ _ ?_
                    clear hK K
                    refine done_ (done_of HT_.out (by kernel_rfl)) ?_
                    have n0_ : Aside0 (Kd.R (Kd.int .i64) 3 (w54.setCell ⟨go53, 0, none⟩ (.slice Ao57 y386.length co57)) w.heap.size (fun _ => True) (.slice Ao51 y380.length co51) y380) := ⟨by (with_reducible repeat (first | apply Kd.R_alloc | apply Kd.R_drewN | apply Kd.R_drew)); exact Kd.R_mono (Kd.R_far (p := ⟨go53, 0, none⟩) (Kd.R_types HO382.out GG55_.out (by decide)) (fun _ hk => hk.2) (.slice Ao57 y386.length co57)) (fun _ hk => trivial)⟩
                    have n1_ : Aside0 (Kd.S (Kd.slice 3 (Kd.int .i64)) 31 (w54.setCell ⟨go53, 0, none⟩ (.slice Ao57 y386.length co57)) w.heap.size (fun k_ => some k_ ≠ (.slice Ao51 y380.length co51 : Value).ownBlock) (.slice (some ⟨go53, 0, none⟩) x349000_2.length co48) y389) := ⟨by (with_reducible repeat (first | apply Kd.S_alloc | apply Kd.S_drewN | apply Kd.S_drew)); exact HQ55.out⟩
                    have n2_ : Aside0 ((w54.setCell ⟨go53, 0, none⟩ (.slice Ao57 y386.length co57)).heap[gb347]? = some (.cells #[.slice none 0 0] 27 (0, 0))) := ⟨by (with_reducible repeat (first | refine blk_drewN ?_ _ | refine blk_drew ?_ | refine blk_alloc ?_ _)); refine blk_far ?_ HNB347_go53.out _; (with_reducible repeat (first | refine blk_drewN ?_ _ | refine blk_drew ?_ | refine blk_alloc ?_ _)); exact BK347.out⟩
                    have n3_ : Aside0 ((w54.setCell ⟨go53, 0, none⟩ (.slice Ao57 y386.length co57)).heap[gb348]? = some (.cells #[.slice (some ⟨go53, 0, none⟩) x349000_2.length co48] 27 (0, 0))) := ⟨by (with_reducible repeat (first | refine blk_drewN ?_ _ | refine blk_drew ?_ | refine blk_alloc ?_ _)); refine blk_far ?_ HNB348_go53.out _; (with_reducible repeat (first | refine blk_drewN ?_ _ | refine blk_drew ?_ | refine blk_alloc ?_ _)); exact BK348.out⟩
                    have n4_ : Aside0 (IsS78 w0 (w54.setCell ⟨go53, 0, none⟩ (.slice Ao57 y386.length co57)) g s0_0 t384 t385) := ⟨by repeat (first | (with_reducible first | exact HI0.out | apply IsS78.alloc | apply IsS78.drewN | apply IsS78.drew | apply IsS78.set_1 | apply IsS78.set_2 | refine IsS78.far ?_ HN0_go53.out _ | refine IsS78.far ?_ NB0_347.out _ | refine IsS78.far ?_ NB0_348.out _) | exact HI0.out)⟩
                    have n5_ : Aside0 (KeepBut w (w54.setCell ⟨go53, 0, none⟩ (.slice Ao57 y386.length co57)) g none) := ⟨by repeat (first | (with_reducible first | exact HK.out | apply KeepBut.set_ | apply keep_drewN | apply keep_drew | apply keep_alloc | refine keep_far ?_ GB53.out _ | refine keep_far ?_ GW347.out _ | refine keep_far ?_ GW348.out _) | exact HK.out)⟩
                    have n6_ : Aside0 (Below w0.heap.size w0 (w54.setCell ⟨go53, 0, none⟩ (.slice Ao57 y386.length co57))) := ⟨by repeat (first | (with_reducible first | exact HB.out | apply below_alloc | apply pw_below_drewN | apply below_drew1 | refine below_set ?_ (Nat.le_trans HL.out GB53.out) | refine below_set ?_ (IsS78.ge HI0.out) | refine below_set ?_ GE347.out | refine below_set ?_ GE348.out) | exact HB.out)⟩
                    (try clear HO382)
                    (try clear HO_349000)
                    (try clear BK347)
                    (try clear BK348)
                    (try clear HI0)
                    (try clear HK)
                    (try clear HB)
                    generalize (w54.setCell ⟨go53, 0, none⟩ (.slice Ao57 y386.length co57)) = w58 at n0_ n1_ n2_ n3_ n4_ n5_ n6_ ⊢
                    have HO382 := n0_
                    have HO_349000 := n1_
                    have BK347 := n2_
                    have BK348 := n3_
                    have HI0 := n4_
                    have HK := n5_
                    have HB := n6_
                    clear n0_ n1_ n2_ n3_ n4_ n5_ n6_
                    have hnb59 := NB348_347.out
                    have hnc59 := NB347_348.out
                    have hnb60 := NB348_0.out
                    have hnc60 := NB0_348.out
                    have hcz61_0 : w58.cell? ⟨gb348, 0, none⟩ = some (.slice (some ⟨go53, 0, none⟩) x349000_2.length co48) := (blk_cell BK348.out 0).trans rfl
                    have hfz61_0 := blk_frozen BK348.out 0
                    have hnb62 := NB347_0.out
                    have hnc62 := NB0_347.out
                    have hcz63_0 : w58.cell? ⟨gb347, 0, none⟩ = some (.slice none 0 0) := (blk_cell BK347.out 0).trans rfl
                    have hfz63_0 := blk_frozen BK347.out 0
                    try go_wp2
                    refine bodyPost_ret (results_cell_row rfl _ _ gb347 27 #[.slice (some ⟨go53, 0, none⟩) x349000_2.length co48] (0, 0) _ rfl (by (with_reducible repeat (first | refine blk_drewN ?_ _ | refine blk_drew ?_ | refine blk_alloc ?_ _)); refine blk_put (cs := #[.slice none 0 0]) ?_ 0 _ rfl; (with_reducible repeat (first | refine blk_drewN ?_ _ | refine blk_drew ?_ | refine blk_alloc ?_ _)); exact BK347.out) Try.underlying27 rfl (by kernel_rfl)) rfl ?_
                    exact ⟨_, by first | rfl | (simp [errW_none, errW_some] <;> rfl) | (simp [*, errW_none, errW_some] <;> rfl), by (with_reducible repeat (first | apply Kd.S_alloc | apply Kd.S_drewN | apply Kd.S_drew)); exact Kd.S_mono (Kd.S_far (p := ⟨gb347, 0, none⟩) (Kd.S_types HO_349000.out BK347.out (by decide)) (fun _ hk => hk.2) (.slice (some ⟨go53, 0, none⟩) x349000_2.length co48)) (fun _ hk => trivial), by repeat (first | (with_reducible first | exact HI0.out | apply IsS78.alloc | apply IsS78.drewN | apply IsS78.drew | apply IsS78.set_1 | apply IsS78.set_2 | refine IsS78.far ?_ NB0_347.out _ | refine IsS78.far ?_ NB0_348.out _) | exact HI0.out), by repeat (first | (with_reducible first | exact HB.out | apply below_alloc | apply pw_below_drewN | apply below_drew1 | refine below_set ?_ (IsS78.ge HI0.out) | refine below_set ?_ GE347.out | refine below_set ?_ GE348.out) | exact HB.out), by repeat (first | (with_reducible first | exact HK.out | apply KeepBut.set_ | apply keep_drewN | apply keep_drew | apply keep_alloc | refine keep_far ?_ GW347.out _ | refine keep_far ?_ GW348.out _) | exact HK.out)⟩
                · rw [if_neg c44] at H
                  exact absurd H (by simp)
              · rw [if_neg c42] at H
                exact absurd H (by simp)
            · replace c41 := Bool.eq_false_iff.mpr c41
              subst c41
              have H1 : (some (x349000_2, t377, t378)) = some (r1, r2, r3) := by rw [if_neg (show ¬ (false = true) by decide)] at H; exact H
              clear H
              have H := H1
              clear H1
              as_aux_lemma =>
                simp only [Option.some.injEq, Prod.mk.injEq] at H
                obtain ⟨rfl, rfl, rfl⟩ := H
                go_wp2_with (first | ((with_reducible refine gate_callee (f := 80) rfl ?_); refine goesL_ (some 53) rfl rfl Try.func80 (by kernel_rfl) rfl #[.pointer (some ⟨g, 0, none⟩), .int .i64 30] rfl (by (try simp only [List.map_toArray, List.map_cons, List.map_nil]); first | done | rfl | (simp only [List.length_drop, List.length_take]; rfl)) ?_; (with_reducible refine (spec_l1Cur_one.calls g s0_0 x1001_2 x1002_2 30 false t377 t378 w0 _ ?side1 ?side2 A40.out).mono ?_); (case side1 => repeat (first | (with_reducible first | exact HI0.out | apply IsS78.alloc | apply IsS78.drewN | apply IsS78.drew | apply IsS78.set_1 | apply IsS78.set_2 | refine IsS78.far ?_ NB0_347.out _ | refine IsS78.far ?_ NB0_348.out _) | exact HI0.out)); (case side2 => repeat (first | (with_reducible first | exact HB.out | apply below_alloc | apply pw_below_drewN | apply below_drew1 | refine below_set ?_ (IsS78.ge HI0.out) | refine below_set ?_ GE347.out | refine below_set ?_ GE348.out) | exact HB.out)); rintro e w64 ⟨rfl, hi, hb, hk⟩; refine ⟨_, rfl, ?_⟩; have n0_ := Aside0.mk (Kd.S_mono (Kd.S_keep (IsS78.apartS (show IsS78 w0 _ g s0_0 x1001_2 x1002_2 from by repeat (first | (with_reducible first | exact HI0.out | apply IsS78.alloc | apply IsS78.drewN | apply IsS78.drew | apply IsS78.set_1 | apply IsS78.set_2 | refine IsS78.far ?_ NB0_347.out _ | refine IsS78.far ?_ NB0_348.out _) | exact HI0.out)) (by (with_reducible repeat (first | apply Kd.S_alloc | apply Kd.S_drewN | apply Kd.S_drew)); exact HO_349000.out) (by decide)) hk (fun _ h => h.2)) (fun _ h => h.1)); have n1_ := Aside0.mk (KeepBut.blk hk (g' := gb347) (o := .cells #[.slice none 0 0] 27 (0, 0)) (by (with_reducible repeat (first | refine blk_drewN ?_ _ | refine blk_drew ?_ | refine blk_alloc ?_ _)); exact BK347.out) NB347_0.out (by simp)); have n2_ := Aside0.mk (KeepBut.blk hk (g' := gb348) (o := .cells #[u349000] 27 (0, 0)) (by (with_reducible repeat (first | refine blk_drewN ?_ _ | refine blk_drew ?_ | refine blk_alloc ?_ _)); exact BK348.out) NB348_0.out (by simp)); have n3_ := Aside0.mk (KeepBut.trans (by repeat (first | (with_reducible first | exact HK.out | apply KeepBut.set_ | apply keep_drewN | apply keep_drew | apply keep_alloc | refine keep_far ?_ GW347.out _ | refine keep_far ?_ GW348.out _) | exact HK.out)) hk (.inl rfl)); have n4_ := Aside0.mk (hb); have n5_ := Aside0.mk (hi); clear HO_349000; clear BK347; clear BK348; clear HK; clear HB; clear HI0; have HO_349000 := n0_; have BK347 := n1_; have BK348 := n2_; have HK := n3_; have HB := n4_; have HI0 := n5_; clear n0_ n1_ n2_ n3_ n4_ n5_; (try clear hb); (try clear hb2); (try clear hk); (try clear hi); have hnb65 := NB348_347.out; have hnc65 := NB347_348.out; have hnb66 := NB348_0.out; have hnc66 := NB0_348.out; have hcz67_0 : w64.cell? ⟨gb348, 0, none⟩ = some (u349000) := (blk_cell BK348.out 0).trans rfl; have hfz67_0 := blk_frozen BK348.out 0; obtain ⟨Ao68, co68, eo68⟩ := Kd.S_slice HO_349000.out; subst eo68; have hnb69 := NB347_0.out; have hnc69 := NB0_347.out; have hcz70_0 : w64.cell? ⟨gb347, 0, none⟩ = some (.slice none 0 0) := (blk_cell BK347.out 0).trans rfl; have hfz70_0 := blk_frozen BK347.out 0))
                refine bodyPost_ret (results_cell_row rfl _ _ gb347 27 #[.slice Ao68 x349000_2.length co68] (0, 0) _ rfl (by (with_reducible repeat (first | refine blk_drewN ?_ _ | refine blk_drew ?_ | refine blk_alloc ?_ _)); refine blk_put (cs := #[.slice none 0 0]) ?_ 0 _ rfl; (with_reducible repeat (first | refine blk_drewN ?_ _ | refine blk_drew ?_ | refine blk_alloc ?_ _)); exact BK347.out) Try.underlying27 rfl (by kernel_rfl)) rfl ?_
                exact ⟨_, by first | rfl | (simp [errW_none, errW_some] <;> rfl) | (simp [*, errW_none, errW_some] <;> rfl), by (with_reducible repeat (first | apply Kd.S_alloc | apply Kd.S_drewN | apply Kd.S_drew)); exact Kd.S_mono (Kd.S_far (p := ⟨gb347, 0, none⟩) (Kd.S_types HO_349000.out BK347.out (by decide)) (fun _ hk => hk.2) (.slice Ao68 x349000_2.length co68)) (fun _ hk => trivial), by repeat (first | (with_reducible first | exact HI0.out | apply IsS78.alloc | apply IsS78.drewN | apply IsS78.drew | apply IsS78.set_1 | apply IsS78.set_2 | refine IsS78.far ?_ NB0_347.out _ | refine IsS78.far ?_ NB0_348.out _) | exact HI0.out), by repeat (first | (with_reducible first | exact HB.out | apply below_alloc | apply pw_below_drewN | apply below_drew1 | refine below_set ?_ (IsS78.ge HI0.out) | refine below_set ?_ GE347.out | refine below_set ?_ GE348.out) | exact HB.out), by repeat (first | (with_reducible first | exact HK.out | apply KeepBut.set_ | apply keep_drewN | apply keep_drew | apply keep_alloc | refine keep_far ?_ GW347.out _ | refine keep_far ?_ GW348.out _) | exact HK.out)⟩
end Go.Proofs.Ytplcipjlkogadaa.P

namespace Go.Proofs.Ytplcipjlkogadaa.P
open Go.RowKit Go.Proofs.YtplcipjlkogadaaW.PrintWords Go.Proofs.YtplcipjlkogadaaW.PrintLast Go.Proofs.YtplcipjlkogadaaW.PrintMore
attribute [local go_sem] max2_int min2_int max_two min_two max_three min_three max_four min_four
def drawQ (l0 : List Int) (g : List (List Int)) (x y : Int) : Option (List (List Int) × Int × Int) := (spec_l1Cur_pick.f l0 x y (wrap64 ((g.length : Int) + 1))).bind fun b => (spec_l1Cur_pick.f l0 b.2.1 b.2.2 (g.length : Int)).map fun s => (g, b.1, s.1)
def drawE (g E : List (List Int)) (p : Int) : Option (List (List Int) × Int × Int) := if 0 ≤ p then (if p < (E.length : Int) then (if 1 < (((rd_L1 E p).length : Nat) : Int) then some (g, rd (rd_L1 E p) 0, rd (rd_L1 E p) 1) else none) else none) else none
def spec_DrawLoopOf.f (k : Nat) (l0 : List Int) : Option (List (List Int) × Int × Int) := (spec_l1Cur_graph.f k l0 0 0).bind fun g => (spec_BackEdges.f k g.1).bind fun e => if e.2 = true then (if (e.1.length : Int) > 0 then ((spec_l1Cur_one.f l0 g.2.1 g.2.2 4).bind fun o => if o.1 = true then drawQ l0 g.1 o.2.1 o.2.2 else (spec_l1Cur_pick.f l0 o.2.1 o.2.2 (e.1.length : Int)).bind fun p => drawE g.1 e.1 p.1) else drawQ l0 g.1 g.2.1 g.2.2) else drawQ l0 g.1 g.2.1 g.2.2
set_option maxHeartbeats 16000000 in
set_option maxRecDepth 100000 in
theorem spec_DrawLoopOf.calls (k : Nat) (A0 : Option Addr) (c0 : Nat) (l0 : List Int) (q1 : List (List Int)) (q2 q3 : Int) (w : World) (hr0 : Kd.C (Kd.int .u8) w A0 l0.length l0) (hc0 : l0.length ≤ c0) (h : spec_DrawLoopOf.f k l0 = some (q1, q2, q3)) :
    Calls Try.prog 51 #[.slice A0 l0.length c0] w fun e w' => ∃ v0_ : Value, e = .returned (.tuple #[.agg #[v0_], .int .i64 q2, .int .i64 q3]) ∧ Kd.S (Kd.slice 3 (Kd.int .i64)) 31 w' w.heap.size (fun _ => True) v0_ q1 ∧ Below w.heap.size w w' := by
  unfold spec_DrawLoopOf.f at h
  obtain ⟨⟨r1, n2, n3⟩, h1, h⟩ := Option.bind_eq_some_iff.1 h
  obtain ⟨⟨E, ok⟩, h2, h⟩ := Option.bind_eq_some_iff.1 h
  simp only at h h2
  have H1 := Aside0.mk h1
  have H2 := Aside0.mk h2
  clear h1 h2
  have HR0 := Aside0.mk hr0
  have HO := Aside0.mk (H.Own.nil w)
  clear hr0
  go_enter Try.func51, Try.ntmps51
  go_upto_region 4 with (first | ((with_reducible refine gate_dst (N := 2) rfl ?_); refine H.own_box HO.out ?bxg (N := 2) ?bxd (cs := #[Value.slice none 0 0]) (t := 27) ?bxr ?_; (case bxd => rfl); (case bxg => rfl); (case bxr => first | (go_simp; done) | (go_simp; rfl)); intro ga w_ ho_ hb_; replace HO := Aside0.mk ho_; clear ho_ hb_) | ((with_reducible refine gate_dst (N := 12) rfl ?_); refine H.own_box HO.out ?bxg (N := 12) ?bxd (cs := #[Value.slice A0 l0.length c0, Value.int .i64 0, Value.int .u64 0]) (t := 78) ?bxr ?_; (case bxd => rfl); (case bxg => rfl); (case bxr => first | (go_simp; done) | (go_simp; rfl)); intro gc w_ ho_ hb_; replace HO := Aside0.mk ho_; clear ho_ hb_) | (go_at_call 76; refine (spec_l1Cur_graph.calls k gc l0 0 0 r1 n2 n3 w _ ⟨A0, c0, HO.out.get 1 rfl, HO.out.ge 1 rfl, HR0.out⟩ HO.out.below H1.out).mono ?_; rintro e w' ⟨v0, rfl, hv, hi, hb, hk⟩; have HV := Aside0.mk (IsS78.apartS hi (Kd.S_lower hv HO.out.size) (by decide)); have HCI := Aside0.mk hi; replace HO := Aside0.mk ((HO.out.take (L := [(ga, #[Value.slice none 0 0], 27)]) (by simp)).cursor (HO.out.get 1 rfl) (by simp) hk hb); obtain ⟨AV, cV, eV, _, _⟩ := Kd.S_reads HV.out; subst eV; clear hv hi hb hk) | ((with_reducible refine gate_dst (N := 6) rfl ?_); refine H.own_box HO.out ?bxg (N := 6) ?bxd (cs := #[Value.slice none 0 0]) (t := 27) ?bxr ?_; (case bxd => rfl); (case bxg => rfl); (case bxr => first | (go_simp; done) | (go_simp; rfl)); intro gg w_ ho_ hb_; replace HV := Aside0.mk (Kd.S_below HV.out hb_); replace HCI := Aside0.mk (HCI.out.below hb_); replace HO := Aside0.mk ho_; clear ho_ hb_) | ((with_reducible refine gate_store (t := 27) (p := 6) rfl ?_); refine H.own_store HO.out 1 (cs' := #[Value.slice AV r1.length cV]) rfl rfl rfl rfl rfl (u := .agg #[Value.slice AV r1.length cV]) (seg := [Value.slice AV r1.length cV]) rfl rfl (by kernel_rfl) (by simp [Value.oneCell']) (by simp) (by simp) ?_; intro w_ ho_ hg_; replace HV := Aside0.mk (HO.out.keepS 1 rfl HV.out hg_ (by decide)); replace HCI := Aside0.mk (HCI.out.grown hg_ (by have := HCI.out.ne_blk (HO.out.get 1 rfl) (by decide); simpa using this)); replace HO := Aside0.mk ho_; clear ho_ hg_) | ((with_reducible refine gate_dst (N := 16) rfl ?_); refine wpList_load_row rfl 27 (.tmp 6) rfl _ rfl 27 _ (0, 0) _ (HO.out.get 1 rfl) Try.underlying27 rfl (by kernel_rfl) ?_) | (go_at_call 38; refine (spec_BackEdges.calls k AV cV r1 E ok _ (Kd.S_reads' HV.out).2.2 (Kd.S_reads' HV.out).2.1 H2.out).mono ?_; rintro e w' ⟨v0, rfl, hv, hb⟩; replace HCI := Aside0.mk (HCI.out.below hb); have HE := Aside0.mk (IsS78.apartS HCI.out (Kd.S_lower hv HO.out.size) (by decide)); replace HV := Aside0.mk (Kd.S_below HV.out hb); replace HO := Aside0.mk (HO.out.step hb); obtain ⟨AE, cE, eE, _, _⟩ := Kd.S_reads HE.out; subst eE; clear hv hb))
  cases ok with
  | false =>
    rw [if_neg (by simp)] at h
    go_upto_region 7 with fail
    unfold drawQ at h
    obtain ⟨⟨b1, o2, o3⟩, h5, h⟩ := Option.bind_eq_some_iff.1 h
    obtain ⟨⟨b2, m2, m3⟩, h6, h⟩ := Option.map_eq_some_iff.1 h
    simp only [Prod.mk.injEq] at h
    obtain ⟨e1, e2, e3⟩ := h
    subst e1 e2 e3
    have H5 := Aside0.mk h5
    have H6 := Aside0.mk h6
    clear h5 h6
    (try simp only [Exit.inBlock, Exit.then])
    go_wp2
    replace HO := Aside0.mk HO.out.drew
    replace HV := Aside0.mk (Kd.S_drew HV.out)
    replace HCI := Aside0.mk HCI.out.drew
    refine start_ (n := 15) (S := fun w' => w'.rangeAt gg 0 [Value.slice AV r1.length cV] ∧ w'.cell? ⟨gg, 0, none⟩ = some (Value.slice AV r1.length cV)) (ds := []) #[false, false, false, false, false, false, false, false, false, false, false, false, false, false, false] (by kernel_rfl) rfl rfl ⟨(HO.out.range 1 rfl), (HO.out.cell 1 rfl 0)⟩ (fun hHeld => ?_)
    refine pure_ (i := 1) (N := some 46) (v := ?_) (a' := ?_) #[false, true, false, false, false, false, false, false, false, false, false, false, false, false, false] rfl rfl (by kernel_rfl) (fun _ _ _ h => h) (Or.inl ⟨by rfl, ?_⟩) ?_ ?_
    rotate_left
    · intro w'
      go_simp
      with_reducible rfl
    rotate_left
    · simp only [Act.put, List.setIfInBounds_toArray, List.set_cons_zero, List.set_cons_succ, i64_w, i32_w]
      rfl
    refine pure_ (i := 2) (N := some 47) (v := ?_) (a' := ?_) #[false, true, true, false, false, false, false, false, false, false, false, false, false, false, false] rfl rfl (by kernel_rfl) (fun _ _ _ h => h) (Or.inl ⟨by rfl, ?_⟩) ?_ ?_
    rotate_left
    · intro w'
      go_simp
      with_reducible rfl
    rotate_left
    · simp only [Act.put, List.setIfInBounds_toArray, List.set_cons_zero, List.set_cons_succ, i64_w, i32_w]
      rfl
    refine pure_ (i := 7) (N := some 52) (v := ?_) (a' := ?_) #[false, true, true, false, false, false, false, true, false, false, false, false, false, false, false] rfl rfl (by kernel_rfl) (fun _ _ _ h => h) (Or.inl ⟨by rfl, ?_⟩) ?_ ?_
    rotate_left
    · intro w'
      go_simp
      with_reducible rfl
    rotate_left
    · simp only [Act.put, List.setIfInBounds_toArray, List.set_cons_zero, List.set_cons_succ, i64_w, i32_w]
      rfl
    refine pure_ (i := 8) (N := some 53) (v := ?_) (a' := ?_) #[false, true, true, false, false, false, false, true, true, false, false, false, false, false, false] rfl rfl (by kernel_rfl) (fun _ _ _ h => h) (Or.inl ⟨by rfl, ?_⟩) ?_ ?_
    rotate_left
    · intro w'
      go_simp
      with_reducible rfl
    rotate_left
    · simp only [Act.put, List.setIfInBounds_toArray, List.set_cons_zero, List.set_cons_succ, i64_w, i32_w]
      rfl
    refine take_ (i := 0) (N := some 45) (v := .agg #[Value.slice AV r1.length cV]) (a' := ?_) #[true, true, true, false, false, false, false, true, true, false, false, false, false, false, false] rfl rfl (by kernel_rfl) (fun _ _ _ h => h) (yieldsIf_load_mid (by rfl) 27 (.tmp 6) rfl gg 0 rfl [Value.slice AV r1.length cV] _ (fun W h => h.1) Try.underlying27 rfl (by kernel_rfl)) hHeld ?_ ?_
    rotate_left
    · simp only [Act.put, List.setIfInBounds_toArray, List.set_cons_zero, List.set_cons_succ, i64_w, i32_w]
      rfl
    refine take_ (i := 3) (N := some 48) (v := ?_) (a' := ?_) #[true, true, true, true, false, false, false, true, true, false, false, false, false, false, false] rfl rfl (by kernel_rfl) (fun _ _ _ h => h) (Or.inl ⟨by rfl, ?_⟩) hHeld ?_ ?_
    rotate_left
    · rintro w' ⟨s0, s1⟩
      go_simp
      with_reducible rfl
    rotate_left
    · simp only [Act.put, List.setIfInBounds_toArray, List.set_cons_zero, List.set_cons_succ, i64_w, i32_w]
      rfl
    refine pure_ (i := 4) (N := some 49) (v := ?_) (a' := ?_) #[true, true, true, true, true, false, false, true, true, false, false, false, false, false, false] rfl rfl (by kernel_rfl) (fun _ _ _ h => h) (Or.inl ⟨by rfl, ?_⟩) ?_ ?_
    rotate_left
    · intro w'
      go_simp
      with_reducible rfl
    rotate_left
    · simp only [Act.put, List.setIfInBounds_toArray, List.set_cons_zero, List.set_cons_succ, i64_w, i32_w]
      rfl
    refine pure_ (i := 5) (N := some 50) (v := ?_) (a' := ?_) #[true, true, true, true, true, true, false, true, true, false, false, false, false, false, false] rfl rfl (by kernel_rfl) (fun _ _ _ h => h) (Or.inl ⟨by rfl, ?_⟩) ?_ ?_
    rotate_left
    · intro w'
      go_simp
      with_reducible rfl
    rotate_left
    · simp only [Act.put, List.setIfInBounds_toArray, List.set_cons_zero, List.set_cons_succ, i64_w, i32_w]
      rfl
    refine take_ (i := 9) (N := some 54) (v := ?_) (a' := ?_) #[true, true, true, true, true, true, false, true, true, true, false, false, false, false, false] rfl rfl (by kernel_rfl) (fun _ _ _ h => h) (Or.inl ⟨by rfl, ?_⟩) hHeld ?_ ?_
    rotate_left
    · rintro w' ⟨s0, s1⟩
      go_simp
      with_reducible rfl
    rotate_left
    · simp only [Act.put, List.setIfInBounds_toArray, List.set_cons_zero, List.set_cons_succ, i64_w, i32_w]
      rfl
    refine pure_ (i := 10) (N := some 55) (v := ?_) (a' := ?_) #[true, true, true, true, true, true, false, true, true, true, true, false, false, false, false] rfl rfl (by kernel_rfl) (fun _ _ _ h => h) (Or.inl ⟨by rfl, ?_⟩) ?_ ?_
    rotate_left
    · intro w'
      go_simp
      with_reducible rfl
    rotate_left
    · simp only [Act.put, List.setIfInBounds_toArray, List.set_cons_zero, List.set_cons_succ, i64_w, i32_w]
      rfl
    refine one_ (i := 6) (N := some 51) #[true, true, true, true, true, true, true, true, true, true, true, false, false, false, false] rfl rfl (by kernel_rfl) (by decide) (fun K hK => ?_)
    refine goes_ Try.func77 (by kernel_rfl) rfl #[.pointer (some ⟨gc, 0, none⟩), .int .i64 (wrap64 ((r1.length : Int) + 1))] (by rfl) rfl rfl (by simp only [List.map_toArray, List.map_cons, List.map_nil]; rfl) ?_
    with_reducible refine (spec_l1Cur_pick.calls gc l0 _ _ (wrap64 ((r1.length : Int) + 1)) b1 o2 o3 w _ HCI.out HO.out.below H5.out).mono ?_
    rintro e w_ ⟨rfl, hi, hb, hk⟩
    refine ⟨_, rfl, ?_⟩
    replace HV := Aside0.mk (H.S_cursor HV.out hk)
    obtain ⟨A_, c_, hgc, _, _⟩ := HCI.out
    replace HO := Aside0.mk (HO.out.cursor hgc (by simp) hk hb)
    replace HCI := Aside0.mk hi
    clear hi hb hk hgc
    refine hK.out _ _ ⟨(HO.out.range 1 rfl), (HO.out.cell 1 rfl 0)⟩ (fun hHeld => ?_)
    clear hK K
    refine norm_ (a' := ?_) ?_ ?_
    rotate_left
    · show Act.put _ (some 51) _ = _
      simp only [Act.put, List.setIfInBounds_toArray, List.set_cons_zero, List.set_cons_succ, i64_w, i32_w]
      rfl
    refine one_ (i := 11) (N := some 56) #[true, true, true, true, true, true, true, true, true, true, true, true, false, false, false] rfl rfl (by kernel_rfl) (by decide) (fun K hK => ?_)
    refine goes_ Try.func77 (by kernel_rfl) rfl #[.pointer (some ⟨gc, 0, none⟩), .int .i64 ((r1.length : Int))] (by rfl) rfl rfl (by simp only [List.map_toArray, List.map_cons, List.map_nil]; rfl) ?_
    with_reducible refine (spec_l1Cur_pick.calls gc l0 _ _ (r1.length : Int) b2 m2 m3 w _ HCI.out HO.out.below H6.out).mono ?_
    rintro e w_ ⟨rfl, hi, hb, hk⟩
    refine ⟨_, rfl, ?_⟩
    replace HV := Aside0.mk (H.S_cursor HV.out hk)
    obtain ⟨A_, c_, hgc, _, _⟩ := HCI.out
    replace HO := Aside0.mk (HO.out.cursor hgc (by simp) hk hb)
    replace HCI := Aside0.mk hi
    clear hi hb hk hgc
    refine hK.out _ _ ⟨(HO.out.range 1 rfl), (HO.out.cell 1 rfl 0)⟩ (fun hHeld => ?_)
    clear hK K
    refine norm_ (a' := ?_) ?_ ?_
    rotate_left
    · show Act.put _ (some 56) _ = _
      simp only [Act.put, List.setIfInBounds_toArray, List.set_cons_zero, List.set_cons_succ, i64_w, i32_w]
      rfl
    refine one_ (i := 12) (N := none) #[true, true, true, true, true, true, true, true, true, true, true, true, true, false, false] rfl rfl (by kernel_rfl) (by decide) (fun K hK => ?_)
    refine H.own_store_step HO.out (by rfl) 0 (cs' := #[Value.slice AV r1.length cV]) rfl rfl rfl rfl (u := .agg #[Value.slice AV r1.length cV]) (seg := [Value.slice AV r1.length cV]) rfl rfl (by kernel_rfl) (by simp [Value.oneCell']) (by simp) (by simp) ?_
    intro w_ ho_ hg_
    replace HV := Aside0.mk (HO.out.keepS 0 rfl HV.out hg_ (by decide))
    replace HO := Aside0.mk ho_
    clear ho_ hg_
    refine hK.out _ _ ⟨(HO.out.range 1 rfl), (HO.out.cell 1 rfl 0)⟩ (fun hHeld => ?_)
    clear hK K
    refine pure_ (i := 13) (N := some 3) (v := ?_) (a' := ?_) #[true, true, true, true, true, true, true, true, true, true, true, true, true, true, false] rfl rfl (by kernel_rfl) (fun _ _ _ h => h) (Or.inl ⟨by rfl, ?_⟩) ?_ ?_
    rotate_left
    · intro w'
      go_simp
      with_reducible rfl
    rotate_left
    · simp only [Act.put, List.setIfInBounds_toArray, List.set_cons_zero, List.set_cons_succ, i64_w, i32_w]
      rfl
    refine pure_ (i := 14) (N := some 4) (v := ?_) (a' := ?_) #[true, true, true, true, true, true, true, true, true, true, true, true, true, true, true] rfl rfl (by kernel_rfl) (fun _ _ _ h => h) (Or.inl ⟨by rfl, ?_⟩) ?_ ?_
    rotate_left
    · intro w'
      go_simp
      with_reducible rfl
    rotate_left
    · simp only [Act.put, List.setIfInBounds_toArray, List.set_cons_zero, List.set_cons_succ, i64_w, i32_w]
      rfl
    refine done_ (by kernel_rfl) ?_
    (try simp only [Exit.inBlock, Exit.then])
    go_wp2
    (try simp only [Exit.inBlock, Exit.then])
    refine bodyPost_ret (results_ctt rfl _ _ ga _ #[Value.slice AV r1.length cV] (0, 0) _ rfl (HO.out.get 0 rfl) Try.underlying27 rfl (by kernel_rfl)) rfl ?_
    exact ⟨_, rfl, Kd.S_mono HV.out (fun k hk => hk.1), HO.out.below⟩
  | true =>
    rw [if_pos rfl] at h
    by_cases c1 : (E.length : Int) > 0
    · rw [if_pos c1] at h
      have c1b : decide ((E.length : Int) > 0) = true := decide_eq_true c1
      obtain ⟨⟨b0, p2, p3⟩, h3, h⟩ := Option.bind_eq_some_iff.1 h
      simp only at h
      have H3 := Aside0.mk h3
      clear h3
      cases b0 with
      | true =>
        rw [if_pos rfl] at h
        go_upto_region 7 with (go_at_call 80; refine (spec_l1Cur_one.calls gc l0 _ _ 4 _ p2 p3 w _ HCI.out HO.out.below H3.out).mono ?_; rintro e w_ ⟨rfl, hi, hb, hk⟩; replace HV := Aside0.mk (H.S_cursor HV.out hk); replace HE := Aside0.mk (H.S_cursor HE.out hk); obtain ⟨A_, c_, hgc, _, _⟩ := HCI.out; replace HO := Aside0.mk (HO.out.cursor hgc (by simp) hk hb); replace HCI := Aside0.mk hi; clear hi hb hk hgc)
        unfold drawQ at h
        obtain ⟨⟨b1, o2, o3⟩, h5, h⟩ := Option.bind_eq_some_iff.1 h
        obtain ⟨⟨b2, m2, m3⟩, h6, h⟩ := Option.map_eq_some_iff.1 h
        simp only [Prod.mk.injEq] at h
        obtain ⟨e1, e2, e3⟩ := h
        subst e1 e2 e3
        have H5 := Aside0.mk h5
        have H6 := Aside0.mk h6
        clear h5 h6
        (try simp only [Exit.inBlock, Exit.then])
        go_wp2
        replace HO := Aside0.mk HO.out.drew
        replace HV := Aside0.mk (Kd.S_drew HV.out)
        replace HCI := Aside0.mk HCI.out.drew
        refine start_ (n := 15) (S := fun w' => w'.rangeAt gg 0 [Value.slice AV r1.length cV] ∧ w'.cell? ⟨gg, 0, none⟩ = some (Value.slice AV r1.length cV)) (ds := []) #[false, false, false, false, false, false, false, false, false, false, false, false, false, false, false] (by kernel_rfl) rfl rfl ⟨(HO.out.range 1 rfl), (HO.out.cell 1 rfl 0)⟩ (fun hHeld => ?_)
        refine pure_ (i := 1) (N := some 46) (v := ?_) (a' := ?_) #[false, true, false, false, false, false, false, false, false, false, false, false, false, false, false] rfl rfl (by kernel_rfl) (fun _ _ _ h => h) (Or.inl ⟨by rfl, ?_⟩) ?_ ?_
        rotate_left
        · intro w'
          go_simp
          with_reducible rfl
        rotate_left
        · simp only [Act.put, List.setIfInBounds_toArray, List.set_cons_zero, List.set_cons_succ, i64_w, i32_w]
          rfl
        refine pure_ (i := 2) (N := some 47) (v := ?_) (a' := ?_) #[false, true, true, false, false, false, false, false, false, false, false, false, false, false, false] rfl rfl (by kernel_rfl) (fun _ _ _ h => h) (Or.inl ⟨by rfl, ?_⟩) ?_ ?_
        rotate_left
        · intro w'
          go_simp
          with_reducible rfl
        rotate_left
        · simp only [Act.put, List.setIfInBounds_toArray, List.set_cons_zero, List.set_cons_succ, i64_w, i32_w]
          rfl
        refine pure_ (i := 7) (N := some 52) (v := ?_) (a' := ?_) #[false, true, true, false, false, false, false, true, false, false, false, false, false, false, false] rfl rfl (by kernel_rfl) (fun _ _ _ h => h) (Or.inl ⟨by rfl, ?_⟩) ?_ ?_
        rotate_left
        · intro w'
          go_simp
          with_reducible rfl
        rotate_left
        · simp only [Act.put, List.setIfInBounds_toArray, List.set_cons_zero, List.set_cons_succ, i64_w, i32_w]
          rfl
        refine pure_ (i := 8) (N := some 53) (v := ?_) (a' := ?_) #[false, true, true, false, false, false, false, true, true, false, false, false, false, false, false] rfl rfl (by kernel_rfl) (fun _ _ _ h => h) (Or.inl ⟨by rfl, ?_⟩) ?_ ?_
        rotate_left
        · intro w'
          go_simp
          with_reducible rfl
        rotate_left
        · simp only [Act.put, List.setIfInBounds_toArray, List.set_cons_zero, List.set_cons_succ, i64_w, i32_w]
          rfl
        refine take_ (i := 0) (N := some 45) (v := .agg #[Value.slice AV r1.length cV]) (a' := ?_) #[true, true, true, false, false, false, false, true, true, false, false, false, false, false, false] rfl rfl (by kernel_rfl) (fun _ _ _ h => h) (yieldsIf_load_mid (by rfl) 27 (.tmp 6) rfl gg 0 rfl [Value.slice AV r1.length cV] _ (fun W h => h.1) Try.underlying27 rfl (by kernel_rfl)) hHeld ?_ ?_
        rotate_left
        · simp only [Act.put, List.setIfInBounds_toArray, List.set_cons_zero, List.set_cons_succ, i64_w, i32_w]
          rfl
        refine take_ (i := 3) (N := some 48) (v := ?_) (a' := ?_) #[true, true, true, true, false, false, false, true, true, false, false, false, false, false, false] rfl rfl (by kernel_rfl) (fun _ _ _ h => h) (Or.inl ⟨by rfl, ?_⟩) hHeld ?_ ?_
        rotate_left
        · rintro w' ⟨s0, s1⟩
          go_simp
          with_reducible rfl
        rotate_left
        · simp only [Act.put, List.setIfInBounds_toArray, List.set_cons_zero, List.set_cons_succ, i64_w, i32_w]
          rfl
        refine pure_ (i := 4) (N := some 49) (v := ?_) (a' := ?_) #[true, true, true, true, true, false, false, true, true, false, false, false, false, false, false] rfl rfl (by kernel_rfl) (fun _ _ _ h => h) (Or.inl ⟨by rfl, ?_⟩) ?_ ?_
        rotate_left
        · intro w'
          go_simp
          with_reducible rfl
        rotate_left
        · simp only [Act.put, List.setIfInBounds_toArray, List.set_cons_zero, List.set_cons_succ, i64_w, i32_w]
          rfl
        refine pure_ (i := 5) (N := some 50) (v := ?_) (a' := ?_) #[true, true, true, true, true, true, false, true, true, false, false, false, false, false, false] rfl rfl (by kernel_rfl) (fun _ _ _ h => h) (Or.inl ⟨by rfl, ?_⟩) ?_ ?_
        rotate_left
        · intro w'
          go_simp
          with_reducible rfl
        rotate_left
        · simp only [Act.put, List.setIfInBounds_toArray, List.set_cons_zero, List.set_cons_succ, i64_w, i32_w]
          rfl
        refine take_ (i := 9) (N := some 54) (v := ?_) (a' := ?_) #[true, true, true, true, true, true, false, true, true, true, false, false, false, false, false] rfl rfl (by kernel_rfl) (fun _ _ _ h => h) (Or.inl ⟨by rfl, ?_⟩) hHeld ?_ ?_
        rotate_left
        · rintro w' ⟨s0, s1⟩
          go_simp
          with_reducible rfl
        rotate_left
        · simp only [Act.put, List.setIfInBounds_toArray, List.set_cons_zero, List.set_cons_succ, i64_w, i32_w]
          rfl
        refine pure_ (i := 10) (N := some 55) (v := ?_) (a' := ?_) #[true, true, true, true, true, true, false, true, true, true, true, false, false, false, false] rfl rfl (by kernel_rfl) (fun _ _ _ h => h) (Or.inl ⟨by rfl, ?_⟩) ?_ ?_
        rotate_left
        · intro w'
          go_simp
          with_reducible rfl
        rotate_left
        · simp only [Act.put, List.setIfInBounds_toArray, List.set_cons_zero, List.set_cons_succ, i64_w, i32_w]
          rfl
        refine one_ (i := 6) (N := some 51) #[true, true, true, true, true, true, true, true, true, true, true, false, false, false, false] rfl rfl (by kernel_rfl) (by decide) (fun K hK => ?_)
        refine goes_ Try.func77 (by kernel_rfl) rfl #[.pointer (some ⟨gc, 0, none⟩), .int .i64 (wrap64 ((r1.length : Int) + 1))] (by rfl) rfl rfl (by simp only [List.map_toArray, List.map_cons, List.map_nil]; rfl) ?_
        with_reducible refine (spec_l1Cur_pick.calls gc l0 _ _ (wrap64 ((r1.length : Int) + 1)) b1 o2 o3 w _ HCI.out HO.out.below H5.out).mono ?_
        rintro e w_ ⟨rfl, hi, hb, hk⟩
        refine ⟨_, rfl, ?_⟩
        replace HV := Aside0.mk (H.S_cursor HV.out hk)
        obtain ⟨A_, c_, hgc, _, _⟩ := HCI.out
        replace HO := Aside0.mk (HO.out.cursor hgc (by simp) hk hb)
        replace HCI := Aside0.mk hi
        clear hi hb hk hgc
        refine hK.out _ _ ⟨(HO.out.range 1 rfl), (HO.out.cell 1 rfl 0)⟩ (fun hHeld => ?_)
        clear hK K
        refine norm_ (a' := ?_) ?_ ?_
        rotate_left
        · show Act.put _ (some 51) _ = _
          simp only [Act.put, List.setIfInBounds_toArray, List.set_cons_zero, List.set_cons_succ, i64_w, i32_w]
          rfl
        refine one_ (i := 11) (N := some 56) #[true, true, true, true, true, true, true, true, true, true, true, true, false, false, false] rfl rfl (by kernel_rfl) (by decide) (fun K hK => ?_)
        refine goes_ Try.func77 (by kernel_rfl) rfl #[.pointer (some ⟨gc, 0, none⟩), .int .i64 ((r1.length : Int))] (by rfl) rfl rfl (by simp only [List.map_toArray, List.map_cons, List.map_nil]; rfl) ?_
        with_reducible refine (spec_l1Cur_pick.calls gc l0 _ _ (r1.length : Int) b2 m2 m3 w _ HCI.out HO.out.below H6.out).mono ?_
        rintro e w_ ⟨rfl, hi, hb, hk⟩
        refine ⟨_, rfl, ?_⟩
        replace HV := Aside0.mk (H.S_cursor HV.out hk)
        obtain ⟨A_, c_, hgc, _, _⟩ := HCI.out
        replace HO := Aside0.mk (HO.out.cursor hgc (by simp) hk hb)
        replace HCI := Aside0.mk hi
        clear hi hb hk hgc
        refine hK.out _ _ ⟨(HO.out.range 1 rfl), (HO.out.cell 1 rfl 0)⟩ (fun hHeld => ?_)
        clear hK K
        refine norm_ (a' := ?_) ?_ ?_
        rotate_left
        · show Act.put _ (some 56) _ = _
          simp only [Act.put, List.setIfInBounds_toArray, List.set_cons_zero, List.set_cons_succ, i64_w, i32_w]
          rfl
        refine one_ (i := 12) (N := none) #[true, true, true, true, true, true, true, true, true, true, true, true, true, false, false] rfl rfl (by kernel_rfl) (by decide) (fun K hK => ?_)
        refine H.own_store_step HO.out (by rfl) 0 (cs' := #[Value.slice AV r1.length cV]) rfl rfl rfl rfl (u := .agg #[Value.slice AV r1.length cV]) (seg := [Value.slice AV r1.length cV]) rfl rfl (by kernel_rfl) (by simp [Value.oneCell']) (by simp) (by simp) ?_
        intro w_ ho_ hg_
        replace HV := Aside0.mk (HO.out.keepS 0 rfl HV.out hg_ (by decide))
        replace HO := Aside0.mk ho_
        clear ho_ hg_
        refine hK.out _ _ ⟨(HO.out.range 1 rfl), (HO.out.cell 1 rfl 0)⟩ (fun hHeld => ?_)
        clear hK K
        refine pure_ (i := 13) (N := some 3) (v := ?_) (a' := ?_) #[true, true, true, true, true, true, true, true, true, true, true, true, true, true, false] rfl rfl (by kernel_rfl) (fun _ _ _ h => h) (Or.inl ⟨by rfl, ?_⟩) ?_ ?_
        rotate_left
        · intro w'
          go_simp
          with_reducible rfl
        rotate_left
        · simp only [Act.put, List.setIfInBounds_toArray, List.set_cons_zero, List.set_cons_succ, i64_w, i32_w]
          rfl
        refine pure_ (i := 14) (N := some 4) (v := ?_) (a' := ?_) #[true, true, true, true, true, true, true, true, true, true, true, true, true, true, true] rfl rfl (by kernel_rfl) (fun _ _ _ h => h) (Or.inl ⟨by rfl, ?_⟩) ?_ ?_
        rotate_left
        · intro w'
          go_simp
          with_reducible rfl
        rotate_left
        · simp only [Act.put, List.setIfInBounds_toArray, List.set_cons_zero, List.set_cons_succ, i64_w, i32_w]
          rfl
        refine done_ (by kernel_rfl) ?_
        (try simp only [Exit.inBlock, Exit.then])
        go_wp2
        (try simp only [Exit.inBlock, Exit.then])
        refine bodyPost_ret (results_ctt rfl _ _ ga _ #[Value.slice AV r1.length cV] (0, 0) _ rfl (HO.out.get 0 rfl) Try.underlying27 rfl (by kernel_rfl)) rfl ?_
        exact ⟨_, rfl, Kd.S_mono HV.out (fun k hk => hk.1), HO.out.below⟩
      | false =>
        rw [if_neg (by simp)] at h
        obtain ⟨⟨p, o2, o3⟩, h4, h⟩ := Option.bind_eq_some_iff.1 h
        simp only at h
        unfold drawE at h
        by_cases hp0 : 0 ≤ p
        · rw [if_pos hp0] at h
          by_cases hp1 : p < (E.length : Int)
          · rw [if_pos hp1] at h
            by_cases hp2 : 1 < (((rd_L1 E p).length : Nat) : Int)
            · rw [if_pos hp2] at h
              simp only [Option.some.injEq, Prod.mk.injEq] at h
              obtain ⟨e1, e2, e3⟩ := h
              subst e1 e2 e3
              generalize hrw : rd_L1 E p = row at hp2 ⊢
              have HRW := Aside0.mk hrw
              clear hrw
              have hr0 : 0 < row.length := by omega
              have hr1 : 1 < row.length := by omega
              have H4 := Aside0.mk h4
              clear h4
              go_upto_region 5 with (go_at_call 80; refine (spec_l1Cur_one.calls gc l0 _ _ 4 _ p2 p3 w _ HCI.out HO.out.below H3.out).mono ?_; rintro e w_ ⟨rfl, hi, hb, hk⟩; replace HV := Aside0.mk (H.S_cursor HV.out hk); replace HE := Aside0.mk (H.S_cursor HE.out hk); obtain ⟨A_, c_, hgc, _, _⟩ := HCI.out; replace HO := Aside0.mk (HO.out.cursor hgc (by simp) hk hb); replace HCI := Aside0.mk hi; clear hi hb hk hgc)
              go_upto_region 6 with (go_at_call 77; refine (spec_l1Cur_pick.calls gc l0 _ _ (E.length : Int) p o2 o3 w _ HCI.out HO.out.below H4.out).mono ?_; rintro e w_ ⟨rfl, hi, hb, hk⟩; replace HV := Aside0.mk (H.S_cursor HV.out hk); replace HE := Aside0.mk (H.S_cursor HE.out hk); obtain ⟨A_, c_, hgc, _, _⟩ := HCI.out; replace HO := Aside0.mk (HO.out.cursor hgc (by simp) hk hb); replace HCI := Aside0.mk hi; clear hi hb hk hgc; obtain ⟨gE_, cE_, eE_, _, _, _⟩ := Kd.S_form HE.out (by omega); cases eE_; obtain ⟨okE, uE, hcE, hrE, _, _⟩ := H.S_holeG HE.out (i := p.toNat) (by omega); replace hrE := (show rd_L1 E p = row from HRW.out) ▸ (show (Kd.int .i64).R _ _ _ okE uE (rd_L1 E p) from hrE); obtain ⟨gr_, cr_, er_, _, _, _⟩ := Kd.R_form hrE hr0; subst er_; have HROW := Aside0.mk hrE; obtain ⟨ad0, e0_, hc0⟩ := Kd.at_int (A := some ⟨gr_, 0, none⟩) (n := row.length) (k := .i64) (xs := row) (show (Kd.int .i64).C _ (some ⟨gr_, 0, none⟩) row.length row from (Kd.R_reads' hrE).2.2) 0 (by decide) (show (0 : Int) < ((row.length : Nat) : Int) by omega); obtain ⟨ad1, e1_, hc1⟩ := Kd.at_int (A := some ⟨gr_, 0, none⟩) (n := row.length) (k := .i64) (xs := row) (show (Kd.int .i64).C _ (some ⟨gr_, 0, none⟩) row.length row from (Kd.R_reads' hrE).2.2) 1 (by decide) hp2; cases e0_; cases e1_; clear hrE)
              (try simp only [Exit.inBlock, Exit.then])
              go_wp2
              replace HO := Aside0.mk HO.out.drew
              replace HV := Aside0.mk (Kd.S_drew HV.out)
              replace HCI := Aside0.mk HCI.out.drew
              refine start_ (n := 10) (S := fun w' => w'.rangeAt gg 0 [Value.slice AV r1.length cV] ∧ w'.cell? ⟨gr_, 0, none⟩ = some (.int .i64 (rd row 0)) ∧ w'.cell? ⟨gr_, 1, none⟩ = some (.int .i64 (rd row 1))) (ds := []) #[false, false, false, false, false, false, false, false, false, false] (by kernel_rfl) rfl rfl ⟨(HO.out.range 1 rfl), (show World.cell? _ _ = _ from hc0), (show World.cell? _ _ = _ from hc1)⟩ (fun hHeld => ?_)
              refine pure_ (i := 1) (N := some 39) (v := ?_) (a' := ?_) #[false, true, false, false, false, false, false, false, false, false] rfl rfl (by kernel_rfl) (fun _ _ _ h => h) (Or.inl ⟨by rfl, ?_⟩) ?_ ?_
              rotate_left
              · intro w'
                go_simp
                with_reducible rfl
              rotate_left
              · simp only [Act.put, List.setIfInBounds_toArray, List.set_cons_zero, List.set_cons_succ, i64_w, i32_w]
                rfl
              refine pure_ (i := 2) (N := some 40) (v := ?_) (a' := ?_) #[false, true, true, false, false, false, false, false, false, false] rfl rfl (by kernel_rfl) (fun _ _ _ h => h) (Or.inl ⟨by rfl, ?_⟩) ?_ ?_
              rotate_left
              · intro w'
                go_simp
                with_reducible rfl
              rotate_left
              · simp only [Act.put, List.setIfInBounds_toArray, List.set_cons_zero, List.set_cons_succ, i64_w, i32_w]
                rfl
              refine pure_ (i := 4) (N := some 42) (v := ?_) (a' := ?_) #[false, true, true, false, true, false, false, false, false, false] rfl rfl (by kernel_rfl) (fun _ _ _ h => h) (Or.inl ⟨by rfl, ?_⟩) ?_ ?_
              rotate_left
              · intro w'
                go_simp
                with_reducible rfl
              rotate_left
              · simp only [Act.put, List.setIfInBounds_toArray, List.set_cons_zero, List.set_cons_succ, i64_w, i32_w]
                rfl
              refine pure_ (i := 5) (N := some 43) (v := ?_) (a' := ?_) #[false, true, true, false, true, true, false, false, false, false] rfl rfl (by kernel_rfl) (fun _ _ _ h => h) (Or.inl ⟨by rfl, ?_⟩) ?_ ?_
              rotate_left
              · intro w'
                go_simp
                with_reducible rfl
              rotate_left
              · simp only [Act.put, List.setIfInBounds_toArray, List.set_cons_zero, List.set_cons_succ, i64_w, i32_w]
                rfl
              refine take_ (i := 0) (N := some 38) (v := .agg #[Value.slice AV r1.length cV]) (a' := ?_) #[true, true, true, false, true, true, false, false, false, false] rfl rfl (by kernel_rfl) (fun _ _ _ h => h) (yieldsIf_load_mid (by rfl) 27 (.tmp 6) rfl gg 0 rfl [Value.slice AV r1.length cV] _ (fun W h => h.1) Try.underlying27 rfl (by kernel_rfl)) hHeld ?_ ?_
              rotate_left
              · simp only [Act.put, List.setIfInBounds_toArray, List.set_cons_zero, List.set_cons_succ, i64_w, i32_w]
                rfl
              refine take_ (i := 3) (N := some 41) (v := ?_) (a' := ?_) #[true, true, true, true, true, true, false, false, false, false] rfl rfl (by kernel_rfl) (fun _ _ _ h => h) (Or.inl ⟨by rfl, ?_⟩) hHeld ?_ ?_
              rotate_left
              · rintro w' ⟨s0, s1, s2⟩
                go_simp
                with_reducible rfl
              rotate_left
              · simp only [Act.put, List.setIfInBounds_toArray, List.set_cons_zero, List.set_cons_succ, i64_w, i32_w]
                rfl
              refine take_ (i := 6) (N := some 44) (v := ?_) (a' := ?_) #[true, true, true, true, true, true, true, false, false, false] rfl rfl (by kernel_rfl) (fun _ _ _ h => h) (Or.inl ⟨by rfl, ?_⟩) hHeld ?_ ?_
              rotate_left
              · rintro w' ⟨s0, s1, s2⟩
                go_simp
                with_reducible rfl
              rotate_left
              · simp only [Act.put, List.setIfInBounds_toArray, List.set_cons_zero, List.set_cons_succ, i64_w, i32_w]
                rfl
              refine one_ (i := 7) (N := none) #[true, true, true, true, true, true, true, true, false, false] rfl rfl (by kernel_rfl) (by decide) (fun K hK => ?_)
              refine H.own_store_step HO.out (by rfl) 0 (cs' := #[Value.slice AV r1.length cV]) rfl rfl rfl rfl (u := .agg #[Value.slice AV r1.length cV]) (seg := [Value.slice AV r1.length cV]) rfl rfl (by kernel_rfl) (by simp [Value.oneCell']) (by simp) (by simp) ?_
              intro w_ ho_ hg_
              replace HV := Aside0.mk (HO.out.keepS 0 rfl HV.out hg_ (by decide))
              have hrE := HO.out.keep 0 rfl HROW.out hg_ (by decide)
              obtain ⟨ad0_, e0_, hd0⟩ := Kd.at_int (A := some ⟨gr_, 0, none⟩) (n := row.length) (k := .i64) (xs := row) (show (Kd.int .i64).C _ (some ⟨gr_, 0, none⟩) row.length row from (Kd.R_reads' hrE).2.2) 0 (by decide) (show (0 : Int) < ((row.length : Nat) : Int) by omega)
              obtain ⟨ad1_, e1_, hd1⟩ := Kd.at_int (A := some ⟨gr_, 0, none⟩) (n := row.length) (k := .i64) (xs := row) (show (Kd.int .i64).C _ (some ⟨gr_, 0, none⟩) row.length row from (Kd.R_reads' hrE).2.2) 1 (by decide) hp2
              cases e0_
              cases e1_
              replace HO := Aside0.mk ho_
              clear ho_ hg_ hrE
              refine hK.out _ _ ⟨(HO.out.range 1 rfl), (show World.cell? _ _ = _ from hd0), (show World.cell? _ _ = _ from hd1)⟩ (fun hHeld => ?_)
              clear hK K
              refine pure_ (i := 8) (N := some 3) (v := ?_) (a' := ?_) #[true, true, true, true, true, true, true, true, true, false] rfl rfl (by kernel_rfl) (fun _ _ _ h => h) (Or.inl ⟨by rfl, ?_⟩) ?_ ?_
              rotate_left
              · intro w'
                go_simp
                with_reducible rfl
              rotate_left
              · simp only [Act.put, List.setIfInBounds_toArray, List.set_cons_zero, List.set_cons_succ, i64_w, i32_w]
                rfl
              refine pure_ (i := 9) (N := some 4) (v := ?_) (a' := ?_) #[true, true, true, true, true, true, true, true, true, true] rfl rfl (by kernel_rfl) (fun _ _ _ h => h) (Or.inl ⟨by rfl, ?_⟩) ?_ ?_
              rotate_left
              · intro w'
                go_simp
                with_reducible rfl
              rotate_left
              · simp only [Act.put, List.setIfInBounds_toArray, List.set_cons_zero, List.set_cons_succ, i64_w, i32_w]
                rfl
              refine done_ (by kernel_rfl) ?_
              (try simp only [Exit.inBlock, Exit.then])
              go_wp2
              (try simp only [Exit.inBlock, Exit.then])
              rw [HRW.out]
              refine bodyPost_ret (results_ctt rfl _ _ ga _ #[Value.slice AV r1.length cV] (0, 0) _ rfl (HO.out.get 0 rfl) Try.underlying27 rfl (by kernel_rfl)) rfl ?_
              exact ⟨_, rfl, Kd.S_mono HV.out (fun k hk => hk.1), HO.out.below⟩
            · rw [if_neg hp2] at h
              exact absurd h (by simp)
          · rw [if_neg hp1] at h
            exact absurd h (by simp)
        · rw [if_neg hp0] at h
          exact absurd h (by simp)
    · rw [if_neg c1] at h
      have c1b : decide ((E.length : Int) > 0) = false := decide_eq_false c1
      go_upto_region 7 with fail
      unfold drawQ at h
      obtain ⟨⟨b1, o2, o3⟩, h5, h⟩ := Option.bind_eq_some_iff.1 h
      obtain ⟨⟨b2, m2, m3⟩, h6, h⟩ := Option.map_eq_some_iff.1 h
      simp only [Prod.mk.injEq] at h
      obtain ⟨e1, e2, e3⟩ := h
      subst e1 e2 e3
      have H5 := Aside0.mk h5
      have H6 := Aside0.mk h6
      clear h5 h6
      (try simp only [Exit.inBlock, Exit.then])
      go_wp2
      replace HO := Aside0.mk HO.out.drew
      replace HV := Aside0.mk (Kd.S_drew HV.out)
      replace HCI := Aside0.mk HCI.out.drew
      refine start_ (n := 15) (S := fun w' => w'.rangeAt gg 0 [Value.slice AV r1.length cV] ∧ w'.cell? ⟨gg, 0, none⟩ = some (Value.slice AV r1.length cV)) (ds := []) #[false, false, false, false, false, false, false, false, false, false, false, false, false, false, false] (by kernel_rfl) rfl rfl ⟨(HO.out.range 1 rfl), (HO.out.cell 1 rfl 0)⟩ (fun hHeld => ?_)
      refine pure_ (i := 1) (N := some 46) (v := ?_) (a' := ?_) #[false, true, false, false, false, false, false, false, false, false, false, false, false, false, false] rfl rfl (by kernel_rfl) (fun _ _ _ h => h) (Or.inl ⟨by rfl, ?_⟩) ?_ ?_
      rotate_left
      · intro w'
        go_simp
        with_reducible rfl
      rotate_left
      · simp only [Act.put, List.setIfInBounds_toArray, List.set_cons_zero, List.set_cons_succ, i64_w, i32_w]
        rfl
      refine pure_ (i := 2) (N := some 47) (v := ?_) (a' := ?_) #[false, true, true, false, false, false, false, false, false, false, false, false, false, false, false] rfl rfl (by kernel_rfl) (fun _ _ _ h => h) (Or.inl ⟨by rfl, ?_⟩) ?_ ?_
      rotate_left
      · intro w'
        go_simp
        with_reducible rfl
      rotate_left
      · simp only [Act.put, List.setIfInBounds_toArray, List.set_cons_zero, List.set_cons_succ, i64_w, i32_w]
        rfl
      refine pure_ (i := 7) (N := some 52) (v := ?_) (a' := ?_) #[false, true, true, false, false, false, false, true, false, false, false, false, false, false, false] rfl rfl (by kernel_rfl) (fun _ _ _ h => h) (Or.inl ⟨by rfl, ?_⟩) ?_ ?_
      rotate_left
      · intro w'
        go_simp
        with_reducible rfl
      rotate_left
      · simp only [Act.put, List.setIfInBounds_toArray, List.set_cons_zero, List.set_cons_succ, i64_w, i32_w]
        rfl
      refine pure_ (i := 8) (N := some 53) (v := ?_) (a' := ?_) #[false, true, true, false, false, false, false, true, true, false, false, false, false, false, false] rfl rfl (by kernel_rfl) (fun _ _ _ h => h) (Or.inl ⟨by rfl, ?_⟩) ?_ ?_
      rotate_left
      · intro w'
        go_simp
        with_reducible rfl
      rotate_left
      · simp only [Act.put, List.setIfInBounds_toArray, List.set_cons_zero, List.set_cons_succ, i64_w, i32_w]
        rfl
      refine take_ (i := 0) (N := some 45) (v := .agg #[Value.slice AV r1.length cV]) (a' := ?_) #[true, true, true, false, false, false, false, true, true, false, false, false, false, false, false] rfl rfl (by kernel_rfl) (fun _ _ _ h => h) (yieldsIf_load_mid (by rfl) 27 (.tmp 6) rfl gg 0 rfl [Value.slice AV r1.length cV] _ (fun W h => h.1) Try.underlying27 rfl (by kernel_rfl)) hHeld ?_ ?_
      rotate_left
      · simp only [Act.put, List.setIfInBounds_toArray, List.set_cons_zero, List.set_cons_succ, i64_w, i32_w]
        rfl
      refine take_ (i := 3) (N := some 48) (v := ?_) (a' := ?_) #[true, true, true, true, false, false, false, true, true, false, false, false, false, false, false] rfl rfl (by kernel_rfl) (fun _ _ _ h => h) (Or.inl ⟨by rfl, ?_⟩) hHeld ?_ ?_
      rotate_left
      · rintro w' ⟨s0, s1⟩
        go_simp
        with_reducible rfl
      rotate_left
      · simp only [Act.put, List.setIfInBounds_toArray, List.set_cons_zero, List.set_cons_succ, i64_w, i32_w]
        rfl
      refine pure_ (i := 4) (N := some 49) (v := ?_) (a' := ?_) #[true, true, true, true, true, false, false, true, true, false, false, false, false, false, false] rfl rfl (by kernel_rfl) (fun _ _ _ h => h) (Or.inl ⟨by rfl, ?_⟩) ?_ ?_
      rotate_left
      · intro w'
        go_simp
        with_reducible rfl
      rotate_left
      · simp only [Act.put, List.setIfInBounds_toArray, List.set_cons_zero, List.set_cons_succ, i64_w, i32_w]
        rfl
      refine pure_ (i := 5) (N := some 50) (v := ?_) (a' := ?_) #[true, true, true, true, true, true, false, true, true, false, false, false, false, false, false] rfl rfl (by kernel_rfl) (fun _ _ _ h => h) (Or.inl ⟨by rfl, ?_⟩) ?_ ?_
      rotate_left
      · intro w'
        go_simp
        with_reducible rfl
      rotate_left
      · simp only [Act.put, List.setIfInBounds_toArray, List.set_cons_zero, List.set_cons_succ, i64_w, i32_w]
        rfl
      refine take_ (i := 9) (N := some 54) (v := ?_) (a' := ?_) #[true, true, true, true, true, true, false, true, true, true, false, false, false, false, false] rfl rfl (by kernel_rfl) (fun _ _ _ h => h) (Or.inl ⟨by rfl, ?_⟩) hHeld ?_ ?_
      rotate_left
      · rintro w' ⟨s0, s1⟩
        go_simp
        with_reducible rfl
      rotate_left
      · simp only [Act.put, List.setIfInBounds_toArray, List.set_cons_zero, List.set_cons_succ, i64_w, i32_w]
        rfl
      refine pure_ (i := 10) (N := some 55) (v := ?_) (a' := ?_) #[true, true, true, true, true, true, false, true, true, true, true, false, false, false, false] rfl rfl (by kernel_rfl) (fun _ _ _ h => h) (Or.inl ⟨by rfl, ?_⟩) ?_ ?_
      rotate_left
      · intro w'
        go_simp
        with_reducible rfl
      rotate_left
      · simp only [Act.put, List.setIfInBounds_toArray, List.set_cons_zero, List.set_cons_succ, i64_w, i32_w]
        rfl
      refine one_ (i := 6) (N := some 51) #[true, true, true, true, true, true, true, true, true, true, true, false, false, false, false] rfl rfl (by kernel_rfl) (by decide) (fun K hK => ?_)
      refine goes_ Try.func77 (by kernel_rfl) rfl #[.pointer (some ⟨gc, 0, none⟩), .int .i64 (wrap64 ((r1.length : Int) + 1))] (by rfl) rfl rfl (by simp only [List.map_toArray, List.map_cons, List.map_nil]; rfl) ?_
      with_reducible refine (spec_l1Cur_pick.calls gc l0 _ _ (wrap64 ((r1.length : Int) + 1)) b1 o2 o3 w _ HCI.out HO.out.below H5.out).mono ?_
      rintro e w_ ⟨rfl, hi, hb, hk⟩
      refine ⟨_, rfl, ?_⟩
      replace HV := Aside0.mk (H.S_cursor HV.out hk)
      obtain ⟨A_, c_, hgc, _, _⟩ := HCI.out
      replace HO := Aside0.mk (HO.out.cursor hgc (by simp) hk hb)
      replace HCI := Aside0.mk hi
      clear hi hb hk hgc
      refine hK.out _ _ ⟨(HO.out.range 1 rfl), (HO.out.cell 1 rfl 0)⟩ (fun hHeld => ?_)
      clear hK K
      refine norm_ (a' := ?_) ?_ ?_
      rotate_left
      · show Act.put _ (some 51) _ = _
        simp only [Act.put, List.setIfInBounds_toArray, List.set_cons_zero, List.set_cons_succ, i64_w, i32_w]
        rfl
      refine one_ (i := 11) (N := some 56) #[true, true, true, true, true, true, true, true, true, true, true, true, false, false, false] rfl rfl (by kernel_rfl) (by decide) (fun K hK => ?_)
      refine goes_ Try.func77 (by kernel_rfl) rfl #[.pointer (some ⟨gc, 0, none⟩), .int .i64 ((r1.length : Int))] (by rfl) rfl rfl (by simp only [List.map_toArray, List.map_cons, List.map_nil]; rfl) ?_
      with_reducible refine (spec_l1Cur_pick.calls gc l0 _ _ (r1.length : Int) b2 m2 m3 w _ HCI.out HO.out.below H6.out).mono ?_
      rintro e w_ ⟨rfl, hi, hb, hk⟩
      refine ⟨_, rfl, ?_⟩
      replace HV := Aside0.mk (H.S_cursor HV.out hk)
      obtain ⟨A_, c_, hgc, _, _⟩ := HCI.out
      replace HO := Aside0.mk (HO.out.cursor hgc (by simp) hk hb)
      replace HCI := Aside0.mk hi
      clear hi hb hk hgc
      refine hK.out _ _ ⟨(HO.out.range 1 rfl), (HO.out.cell 1 rfl 0)⟩ (fun hHeld => ?_)
      clear hK K
      refine norm_ (a' := ?_) ?_ ?_
      rotate_left
      · show Act.put _ (some 56) _ = _
        simp only [Act.put, List.setIfInBounds_toArray, List.set_cons_zero, List.set_cons_succ, i64_w, i32_w]
        rfl
      refine one_ (i := 12) (N := none) #[true, true, true, true, true, true, true, true, true, true, true, true, true, false, false] rfl rfl (by kernel_rfl) (by decide) (fun K hK => ?_)
      refine H.own_store_step HO.out (by rfl) 0 (cs' := #[Value.slice AV r1.length cV]) rfl rfl rfl rfl (u := .agg #[Value.slice AV r1.length cV]) (seg := [Value.slice AV r1.length cV]) rfl rfl (by kernel_rfl) (by simp [Value.oneCell']) (by simp) (by simp) ?_
      intro w_ ho_ hg_
      replace HV := Aside0.mk (HO.out.keepS 0 rfl HV.out hg_ (by decide))
      replace HO := Aside0.mk ho_
      clear ho_ hg_
      refine hK.out _ _ ⟨(HO.out.range 1 rfl), (HO.out.cell 1 rfl 0)⟩ (fun hHeld => ?_)
      clear hK K
      refine pure_ (i := 13) (N := some 3) (v := ?_) (a' := ?_) #[true, true, true, true, true, true, true, true, true, true, true, true, true, true, false] rfl rfl (by kernel_rfl) (fun _ _ _ h => h) (Or.inl ⟨by rfl, ?_⟩) ?_ ?_
      rotate_left
      · intro w'
        go_simp
        with_reducible rfl
      rotate_left
      · simp only [Act.put, List.setIfInBounds_toArray, List.set_cons_zero, List.set_cons_succ, i64_w, i32_w]
        rfl
      refine pure_ (i := 14) (N := some 4) (v := ?_) (a' := ?_) #[true, true, true, true, true, true, true, true, true, true, true, true, true, true, true] rfl rfl (by kernel_rfl) (fun _ _ _ h => h) (Or.inl ⟨by rfl, ?_⟩) ?_ ?_
      rotate_left
      · intro w'
        go_simp
        with_reducible rfl
      rotate_left
      · simp only [Act.put, List.setIfInBounds_toArray, List.set_cons_zero, List.set_cons_succ, i64_w, i32_w]
        rfl
      refine done_ (by kernel_rfl) ?_
      (try simp only [Exit.inBlock, Exit.then])
      go_wp2
      (try simp only [Exit.inBlock, Exit.then])
      refine bodyPost_ret (results_ctt rfl _ _ ga _ #[Value.slice AV r1.length cV] (0, 0) _ rfl (HO.out.get 0 rfl) Try.underlying27 rfl (by kernel_rfl)) rfl ?_
      exact ⟨_, rfl, Kd.S_mono HV.out (fun k hk => hk.1), HO.out.below⟩
end Go.Proofs.Ytplcipjlkogadaa.P

namespace Go.Proofs.Ytplcipjlkogadaa.P
open Go.RowKit Go.Proofs.YtplcipjlkogadaaW.PrintWords Go.Proofs.YtplcipjlkogadaaW.PrintLast Go.Proofs.YtplcipjlkogadaaW.PrintMore
attribute [local go_sem] max2_int min2_int max_two min_two max_three min_three max_four min_four
def spec_DrawGoodGraph.f (k : Nat) (l0 : List Int) : Option (List (List Int)) := (spec_l1Cur_graph.f k l0 0 0).map (fun r => r.1)
set_option maxHeartbeats 8000000 in
set_option maxRecDepth 100000 in
theorem spec_DrawGoodGraph.calls (k : Nat) (A0 : Option Addr) (c0 : Nat) (l0 : List Int) (r : List (List Int)) (w : World) (hr0 : Kd.C (Kd.int .u8) w A0 l0.length l0) (hc0 : l0.length ≤ c0) (h : spec_DrawGoodGraph.f k l0 = some r) :
    Calls Try.prog 75 #[.slice A0 l0.length c0] w fun e w' => ∃ v0_ : Value, e = .returned (.agg #[v0_]) ∧ Kd.S (Kd.slice 3 (Kd.int .i64)) 31 w' w.heap.size (fun _ => True) v0_ r ∧ Below w.heap.size w w' := by
  unfold spec_DrawGoodGraph.f at h
  obtain ⟨⟨r1, r2, r3⟩, h1, h2⟩ := Option.map_eq_some_iff.1 h
  obtain rfl : r1 = r := h2
  have HR0 := Aside0.mk hr0
  have H1 := Aside0.mk h1
  have HO := Aside0.mk (H.Own.nil w)
  clear hr0 h h1
  go_enter Try.func75, Try.ntmps75
  go_wp2_with (first | ((with_reducible refine gate_dst (N := 2) rfl ?_); refine H.own_box HO.out ?bxg (N := 2) ?bxd (cs := #[Value.slice none 0 0]) (t := 27) ?bxr ?_; (case bxd => rfl); (case bxg => rfl); (case bxr => first | (go_simp; done) | (go_simp; rfl)); intro ga w_ ho_ hb_; replace HO := Aside0.mk ho_; clear ho_ hb_) | ((with_reducible refine gate_dst (N := 6) rfl ?_); refine H.own_box HO.out ?bxg (N := 6) ?bxd (cs := #[Value.slice A0 l0.length c0, Value.int .i64 0, Value.int .u64 0]) (t := 78) ?bxr ?_; (case bxd => rfl); (case bxg => rfl); (case bxr => first | (go_simp; done) | (go_simp; rfl)); intro gc w_ ho_ hb_; replace HO := Aside0.mk ho_; clear ho_ hb_) | (go_at_call 76; refine (spec_l1Cur_graph.calls k gc l0 0 0 r1 r2 r3 w _ ⟨A0, c0, HO.out.get 1 rfl, HO.out.ge 1 rfl, HR0.out⟩ HO.out.below H1.out).mono ?_; rintro e w' ⟨v0, rfl, hv, hi, hb, hk⟩; have HV := Aside0.mk (Kd.S_lower hv HO.out.size); replace HO := Aside0.mk ((HO.out.take (L := [(ga, #[Value.slice none 0 0], 27)]) (by simp)).cursor (HO.out.get 1 rfl) (by simp) hk hb); obtain ⟨AV, cV, eV, _, _⟩ := Kd.S_reads HV.out; subst eV; clear hv hi hb hk) | ((with_reducible refine gate_store (t := 27) (p := 2) rfl ?_); refine H.own_store HO.out 0 (cs' := #[Value.slice AV r1.length cV]) rfl rfl rfl rfl rfl (u := .agg #[Value.slice AV r1.length cV]) (seg := [Value.slice AV r1.length cV]) rfl rfl (by kernel_rfl) (by simp [Value.oneCell']) (by simp) (by simp) ?_; intro w_ ho_ hg_; replace HV := Aside0.mk (HO.out.keepS 0 rfl HV.out hg_ (by decide)); replace HO := Aside0.mk ho_; clear ho_ hg_))
  (try simp only [Exit.inBlock, Exit.then])
  refine bodyPost_ret (results_cell_row rfl _ _ ga _ #[Value.slice AV r1.length cV] (0, 0) _ rfl (HO.out.get 0 rfl) Try.underlying27 rfl (by kernel_rfl)) rfl ?_
  exact ⟨_, rfl, HV.out, HO.out.below⟩
end Go.Proofs.Ytplcipjlkogadaa.P

namespace Go.Proofs.Ytplcipjlkogadaa.P
open Go.RowKit Go.Proofs.YtplcipjlkogadaaW.PrintWords Go.Proofs.YtplcipjlkogadaaW.PrintLast Go.Proofs.YtplcipjlkogadaaW.PrintMore
attribute [local go_sem] max2_int min2_int max_two min_two max_three min_three max_four min_four
def spec_DrawBackEdges.f (k : Nat) (l0 : List Int) : Option ((List (List Int))) := (spec_DrawGoodGraph.f k l0).bind fun t476 => (some t476)
set_option maxHeartbeats 8000000 in
set_option maxRecDepth 100000 in
theorem spec_DrawBackEdges.calls (k : Nat) (A0 : Option Addr) (c0 : Nat) (l0 : List Int) (r : List (List Int)) (w : World) (hr0 : Kd.C (Kd.int .u8) w A0 l0.length l0) (hc0 : l0.length ≤ c0) (h : spec_DrawBackEdges.f k l0 = some r) :
    Calls Try.prog 52 #[.slice A0 l0.length c0] w fun e w' => ∃ v0_ : Value, e = .returned (.agg #[v0_]) ∧ Kd.S (Kd.slice 3 (Kd.int .i64)) 31 w' w.heap.size (fun _ => True) v0_ r ∧ Below w.heap.size w w' := by
  have hu27 := Try.underlying27
  have HR0 := Aside0.mk hr0
  have HC0 := Aside0.mk hc0
  clear hr0 hc0
  have HB := Aside0.mk (Below.refl w.heap.size w)
  have H : ((spec_DrawGoodGraph.f k l0).bind fun t476 => (some t476)) = some r := h
  clear h
  replace H := Option.bind_eq_some_iff.mp H
  obtain ⟨t476, A20, H⟩ := H
  replace H : (some t476) = some r := H
  have A2 := Aside0.mk A20
  clear A20
  as_aux_lemma =>
    obtain rfl := Option.some.inj H
    go_enter Try.func52, Try.ntmps52
    go_wp2_with (first | ((with_reducible refine gate_dst (N := 2) rfl ?_); refine box_event ?hg (N := 2) ?hd (cs := #[.slice none 0 0]) (t := 27) ?hr ?_; (case hd => rfl); (case hg => rfl); (case hr => first | (go_simp; done) | (go_simp; rfl)); intro gb475 hg w3 hbox hb; have n0_ := Aside0.mk (below_step (by repeat (first | (with_reducible first | exact HB.out | apply below_alloc | apply pw_below_drewN | apply below_drew1) | exact HB.out)) hb); have n1_ := Aside0.mk (hbox); have n2_ := Aside0.mk ((by rw [hg]; exact (below_size (by repeat (first | (with_reducible first | exact HB.out | apply below_alloc | apply pw_below_drewN | apply below_drew1) | exact HB.out))) : w.heap.size ≤ gb475)); have n3_ := Aside0.mk ((by rw [hg]; exact (below_size (by repeat (first | (with_reducible first | exact HB.out | apply below_alloc | apply pw_below_drewN | apply below_drew1) | exact HB.out))) : w.heap.size ≤ gb475)); clear HB; have HB := n0_; have BK475 := n1_; have GW475 := n2_; have GE475 := n3_; clear n0_ n1_ n2_ n3_; clear hb hbox hg) | ((with_reducible refine gate_callee (f := 75) rfl ?_); refine goesL_ (some 4) rfl rfl Try.func75 (by kernel_rfl) rfl #[.slice A0 l0.length c0] rfl (by (try simp only [List.map_toArray, List.map_cons, List.map_nil]); first | done | rfl | (simp only [List.length_drop, List.length_take]; rfl)) ?_; (with_reducible refine (spec_DrawGoodGraph.calls k _ _ l0 t476 _ ?side1 ?side2 A2.out).mono ?_); (case side1 => repeat (first | exact (Kd.C_below HR0.out HB.out) | (with_reducible refine Kd.C_alloc ?_ _) | (with_reducible refine Kd.C_drewN ?_ _) | (with_reducible refine Kd.C_drew ?_))); (case side2 => exact HC0.out); rintro e w4 ⟨v477, rfl, ho0, hb⟩; refine ⟨_, rfl, ?_⟩; have n0_ := Aside0.mk (Kd.S_lower ho0 (below_size (by repeat (first | (with_reducible first | exact HB.out | apply below_alloc | apply pw_below_drewN | apply below_drew1 | refine below_set ?_ GE475.out) | exact HB.out)))); have n1_ := Aside0.mk (blk_below (g := gb475) (o := .cells #[.slice none 0 0] 27 (0, 0)) (by (with_reducible repeat (first | refine blk_drewN ?_ _ | refine blk_drew ?_ | refine blk_alloc ?_ _)); exact BK475.out) hb); have n2_ := Aside0.mk (below_step (by repeat (first | (with_reducible first | exact HB.out | apply below_alloc | apply pw_below_drewN | apply below_drew1 | refine below_set ?_ GE475.out) | exact HB.out)) hb); clear BK475; clear HB; have HO478 := n0_; have BK475 := n1_; have HB := n2_; clear n0_ n1_ n2_; (try clear hb); (try clear hb2); (try clear hk); (try clear hi); (try clear ho0); obtain ⟨Ao5, co5, eo5⟩ := Kd.S_slice HO478.out; subst eo5; have hcz6_0 : w4.cell? ⟨gb475, 0, none⟩ = some (.slice none 0 0) := (blk_cell BK475.out 0).trans rfl; have hfz6_0 := blk_frozen BK475.out 0))
    refine bodyPost_ret (results_cell_row rfl _ _ gb475 27 #[.slice Ao5 t476.length co5] (0, 0) _ rfl (by (with_reducible repeat (first | refine blk_drewN ?_ _ | refine blk_drew ?_ | refine blk_alloc ?_ _)); refine blk_put (cs := #[.slice none 0 0]) ?_ 0 _ rfl; (with_reducible repeat (first | refine blk_drewN ?_ _ | refine blk_drew ?_ | refine blk_alloc ?_ _)); exact BK475.out) Try.underlying27 rfl (by kernel_rfl)) rfl ?_
    exact ⟨_, by first | rfl | (simp [errW_none, errW_some] <;> rfl) | (simp [*, errW_none, errW_some] <;> rfl), by (with_reducible repeat (first | apply Kd.S_alloc | apply Kd.S_drewN | apply Kd.S_drew)); exact Kd.S_mono (Kd.S_far (p := ⟨gb475, 0, none⟩) (Kd.S_types HO478.out BK475.out (by decide)) (fun _ hk => hk.2) (.slice Ao5 t476.length co5)) (fun _ hk => trivial), by repeat (first | (with_reducible first | exact HB.out | apply below_alloc | apply pw_below_drewN | apply below_drew1 | refine below_set ?_ GE475.out) | exact HB.out)⟩
end Go.Proofs.Ytplcipjlkogadaa.P

