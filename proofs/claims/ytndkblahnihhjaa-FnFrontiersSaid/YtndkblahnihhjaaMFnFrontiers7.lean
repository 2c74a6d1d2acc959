import Derived.Test.YtndkblahnihhjaaMFnFrontiers1
import Derived.Test.YtndkblahnihhjaaMFnFrontiers2
import Derived.Test.YtndkblahnihhjaaMFnFrontiers3
import Derived.Test.YtndkblahnihhjaaMFnFrontiers4
import Derived.Test.YtndkblahnihhjaaMFnFrontiers5
import Derived.Test.YtndkblahnihhjaaMFnFrontiers6
set_option linter.unusedVariables false
set_option linter.unusedSimpArgs false
set_option linter.unusedSectionVars false
namespace Go.Proofs.Ytndkblahnihhjaa.P
open Go.RowKit Go.Proofs.YtndkblahnihhjaaW.PrintWords Go.Proofs.YtndkblahnihhjaaW.PrintLast Go.Proofs.YtndkblahnihhjaaW.PrintMore
attribute [local go_sem] max2_int min2_int max_two min_two max_three min_three max_four min_four
mutual
def laws_FnFrontiers.j0 : Nat → List Int → List Int → List Int → Bool → List (List Int) → Bool → List (List Int) → Bool → Bool → List (List Int) → Option (Bool)
  | 0, _, _, _, _, _, _, _, _, _, _ => none
  | k + 1, x1, x6, x7, x8, x11, x12, x13, x14, x84, x313000 => if x84 = true then (some false) else (if x8 = true then (if x12 = true then (laws_FnFrontiers.j1 k x1 x6 x7 x11 x13 (!x14) x313000) else (laws_FnFrontiers.j1 k x1 x6 x7 x11 x13 true x313000)) else (laws_FnFrontiers.j7 k x1))
def laws_FnFrontiers.j7 : Nat → List Int → Option (Bool)
  | 0, _ => none
  | k + 1, x1 => (spec_DrawMeetingOf.f k x1).bind fun bt349 => ((impl_MeetingOf.f bt349.1 bt349.2.1 bt349.2.2).bind fun bt355 => ((spec_MeetingOf.f k bt349.1 bt349.2.1 bt349.2.2).bind fun bt357 => ((spec_DrawIsStrict.f k x1).bind fun bt359 => ((impl_IsStrict.f bt359.1 bt359.2.1 bt359.2.2).bind fun bt369 => ((spec_IsStrict.f k bt359.1 bt359.2.1 bt359.2.2).bind fun bt371 => (if (bt355.2 != bt357.2) = true then (some false) else (if (bt355.1 != bt357.1) = true then (some false) else (if (bt369.2 != bt371.2) = true then (some false) else (if (bt369.1 != bt371.1) = true then (some false) else ((impl_MeetingOf.f bt349.1 bt349.2.2 bt349.2.1).bind fun bt373 => (if (bt373.2 == bt355.2) = true then (some (bt373.1 == bt355.1)) else (some false))))))))))))
def laws_FnFrontiers.j1 : Nat → List Int → List Int → List Int → List (List Int) → List (List Int) → Bool → List (List Int) → Option (Bool)
  | 0, _, _, _, _, _, _, _ => none
  | k + 1, x1, x6, x7, x11, x13, x91, x313000 => if x91 = true then (some false) else (laws_FnFrontiers.l0 k x1 x7 x11 x13 x6 (x6.length : Int) 0 x313000)
def laws_FnFrontiers.l0 : Nat → List Int → List Int → List (List Int) → List (List Int) → List Int → Int → Int → List (List Int) → Option (Bool)
  | 0, _, _, _, _, _, _, _, _ => none
  | k + 1, x1, x7, x11, x13, x92, x93, x94, x313000 => if x94 < x93 then (if 0 ≤ x94 then (if x94 < (x92.length : Int) then (if 0 ≤ (rd x92 x94) then (if (rd x92 x94) < (x11.length : Int) then (laws_FnFrontiers.l1 k x1 x7 x11 x13 (rd x92 x94) x92 x93 x94 (rd_L1 x11 (rd x92 x94)) ((rd_L1 x11 (rd x92 x94)).length : Int) 0 x313000) else (none)) else (none)) else (none)) else (none)) else (laws_FnFrontiers.l2 k x1 x7 x11 x7 (x7.length : Int) 0 x313000)
def laws_FnFrontiers.l1 : Nat → List Int → List Int → List (List Int) → List (List Int) → Int → List Int → Int → Int → List Int → Int → Int → List (List Int) → Option (Bool)
  | 0, _, _, _, _, _, _, _, _, _, _, _, _ => none
  | k + 1, x1, x7, x11, x13, x16, x92, x93, x94, x101, x102, x103, x313000 => if x103 < x102 then (if 0 ≤ x103 then (if x103 < (x101.length : Int) then ((laws_has.f k x7 (rd x101 x103)).bind fun t333 => (if t333 = true then (if x16 = (rd x101 x103) then (laws_FnFrontiers.l1 k x1 x7 x11 x13 x16 x92 x93 x94 x101 x102 (wrap64 (x103 + 1)) x313000) else (if 0 ≤ (rd x101 x103) then (if (rd x101 x103) < (x13.length : Int) then ((laws_has.f k (rd_L1 x13 (rd x101 x103)) x16).bind fun t335 => (if t335 = true then (some false) else (laws_FnFrontiers.l1 k x1 x7 x11 x13 x16 x92 x93 x94 x101 x102 (wrap64 (x103 + 1)) x313000))) else (none)) else (none))) else (some false))) else (none)) else (none)) else (laws_FnFrontiers.l0 k x1 x7 x11 x13 x92 x93 (wrap64 (x94 + 1)) x313000)
def laws_FnFrontiers.l2 : Nat → List Int → List Int → List (List Int) → List Int → Int → Int → List (List Int) → Option (Bool)
  | 0, _, _, _, _, _, _, _ => none
  | k + 1, x1, x7, x11, x126, x127, x128, x313000 => if x128 < x127 then (if 0 ≤ x128 then (if x128 < (x126.length : Int) then (if 0 ≤ (rd x126 x128) then (if (rd x126 x128) < (x11.length : Int) then (laws_FnFrontiers.l3 k x1 x7 x11 x126 x127 x128 (rd_L1 x11 (rd x126 x128)) ((rd_L1 x11 (rd x126 x128)).length : Int) 0 x313000) else (none)) else (none)) else (none)) else (none)) else ((impl_JoinsOf.f x313000 (([0] : List Int))).bind fun bt343 => (if bt343.2 = true then (laws_FnFrontiers.l4 k x1 x7 bt343.1 (bt343.1.length : Int) 0) else (some false)))
def laws_FnFrontiers.l3 : Nat → List Int → List Int → List (List Int) → List Int → Int → Int → List Int → Int → Int → List (List Int) → Option (Bool)
  | 0, _, _, _, _, _, _, _, _, _, _ => none
  | k + 1, x1, x7, x11, x126, x127, x128, x135, x136, x137, x313000 => if x137 < x136 then (if 0 ≤ x137 then (if x137 < (x135.length : Int) then ((laws_has.f k x7 (rd x135 x137)).bind fun t339 => (if t339 = true then (laws_FnFrontiers.l3 k x1 x7 x11 x126 x127 x128 x135 x136 (wrap64 (x137 + 1)) x313000) else (some false))) else (none)) else (none)) else (laws_FnFrontiers.l2 k x1 x7 x11 x126 x127 (wrap64 (x128 + 1)) x313000)
def laws_FnFrontiers.l4 : Nat → List Int → List Int → List Int → Int → Int → Option (Bool)
  | 0, _, _, _, _, _ => none
  | k + 1, x1, x7, x155, x156, x157 => if x157 < x156 then (if 0 ≤ x157 then (if x157 < (x155.length : Int) then ((laws_has.f k x7 (rd x155 x157)).bind fun t348 => (if t348 = true then (laws_FnFrontiers.l4 k x1 x7 x155 x156 (wrap64 (x157 + 1))) else (some false))) else (none)) else (none)) else (laws_FnFrontiers.j7 k x1)
end
def laws_FnFrontiers.f (k : Nat) (l0 : List Int) (l1 : List Int) : Option (Bool) := if (wrap64 ((l0.length : Int) + (l1.length : Int))) > 1048576 then (some true) else ((spec_DrawJoinsOf.f k l0).bind fun bt306 => ((impl_JoinsOf.f bt306.1 bt306.2).bind fun bt313 => ((spec_JoinsOf.f k bt306.1 bt306.2).bind fun bt317 => ((impl_FrontierOf.f bt306.1).bind fun bt321 => ((impl_DominatorsOf.f bt306.1).bind fun bt325 => (if (bt313.2 != bt317.2) = true then (laws_FnFrontiers.j0 k l1 bt306.2 bt313.1 bt313.2 bt321.1 bt321.2 bt325.1 bt325.2 true bt306.1) else ((laws_sameInts.f k bt313.1 bt317.1).bind fun t329 => (laws_FnFrontiers.j0 k l1 bt306.2 bt313.1 bt313.2 bt321.1 bt321.2 bt325.1 bt325.2 (!t329) bt306.1))))))))
set_option maxHeartbeats 8000000 in
set_option maxRecDepth 100000 in
theorem laws_FnFrontiers.calls (k : Nat) (A0 : Option Addr) (c0 : Nat) (l0 : List Int) (A1 : Option Addr) (c1 : Nat) (l1 : List Int) (r : Bool) (w : World) (hr0 : Kd.C (Kd.int .u8) w A0 l0.length l0) (hc0 : l0.length ≤ c0) (hr1 : Kd.C (Kd.int .u8) w A1 l1.length l1) (hc1 : l1.length ≤ c1) (h : laws_FnFrontiers.f k l0 l1 = some r) (hrt : Aside0 (r = true)) :
    Calls Try.prog 6 #[.slice A0 l0.length c0, .slice A1 l1.length c1] w fun e w' => e = .returned (.bool r) ∧ Below w.heap.size w w' := by
  have hu28 := Try.underlying28
  have HR0 := Aside0.mk hr0
  have HC0 := Aside0.mk hc0
  clear hr0 hc0
  have HR1 := Aside0.mk hr1
  have HC1 := Aside0.mk hc1
  clear hr1 hc1
  have HB := Aside0.mk (Below.refl w.heap.size w)
  have H : (if (wrap64 ((l0.length : Int) + (l1.length : Int))) > 1048576 then (some true) else ((spec_DrawJoinsOf.f k l0).bind fun bt306 => ((impl_JoinsOf.f bt306.1 bt306.2).bind fun bt313 => ((spec_JoinsOf.f k bt306.1 bt306.2).bind fun bt317 => ((impl_FrontierOf.f bt306.1).bind fun bt321 => ((impl_DominatorsOf.f bt306.1).bind fun bt325 => (if (bt313.2 != bt317.2) = true then (laws_FnFrontiers.j0 k l1 bt306.2 bt313.1 bt313.2 bt321.1 bt321.2 bt325.1 bt325.2 true bt306.1) else ((laws_sameInts.f k bt313.1 bt317.1).bind fun t329 => (laws_FnFrontiers.j0 k l1 bt306.2 bt313.1 bt313.2 bt321.1 bt321.2 bt325.1 bt325.2 (!t329) bt306.1))))))))) = some r := h
  clear h
  by_cases c3 : (wrap64 ((l0.length : Int) + (l1.length : Int))) > 1048576
  · rw [if_pos c3] at H
    have c3b0 : decide (1048576 < (wrap64 ((l0.length : Int) + (l1.length : Int)))) = true := decide_eq_true c3
    clear c3
    obtain rfl := Option.some.inj H
    go_enter Try.func6, Try.ntmps6
    go_wp2
    go_ret
    exact ⟨by first | rfl | (simp [errW_none, errW_some] <;> rfl) | (simp [*, errW_none, errW_some] <;> rfl), by repeat (first | (with_reducible first | exact HB.out | apply below_alloc | apply pw_below_drewN | apply below_drew1) | exact HB.out)⟩
  · rw [if_neg c3] at H
    have c3b0 : decide (1048576 < (wrap64 ((l0.length : Int) + (l1.length : Int)))) = false := decide_eq_false c3
    clear c3
    replace H := Option.bind_eq_some_iff.mp H
    obtain ⟨⟨t306, t309⟩, A40, H⟩ := H
    replace H : ((impl_JoinsOf.f t306 t309).bind fun bt313 => ((spec_JoinsOf.f k t306 t309).bind fun bt317 => ((impl_FrontierOf.f t306).bind fun bt321 => ((impl_DominatorsOf.f t306).bind fun bt325 => (if (bt313.2 != bt317.2) = true then (laws_FnFrontiers.j0 k l1 t309 bt313.1 bt313.2 bt321.1 bt321.2 bt325.1 bt325.2 true t306) else ((laws_sameInts.f k bt313.1 bt317.1).bind fun t329 => (laws_FnFrontiers.j0 k l1 t309 bt313.1 bt313.2 bt321.1 bt321.2 bt325.1 bt325.2 (!t329) t306))))))) = some r := H
    have A4 := Aside0.mk A40
    clear A40
    replace H := Option.bind_eq_some_iff.mp H
    obtain ⟨⟨t313, t316⟩, A50, H⟩ := H
    replace H : ((spec_JoinsOf.f k t306 t309).bind fun bt317 => ((impl_FrontierOf.f t306).bind fun bt321 => ((impl_DominatorsOf.f t306).bind fun bt325 => (if (t316 != bt317.2) = true then (laws_FnFrontiers.j0 k l1 t309 t313 t316 bt321.1 bt321.2 bt325.1 bt325.2 true t306) else ((laws_sameInts.f k t313 bt317.1).bind fun t329 => (laws_FnFrontiers.j0 k l1 t309 t313 t316 bt321.1 bt321.2 bt325.1 bt325.2 (!t329) t306)))))) = some r := H
    have A5 := Aside0.mk A50
    clear A50
    replace H := Option.bind_eq_some_iff.mp H
    obtain ⟨⟨t317, t320⟩, A60, H⟩ := H
    replace H : ((impl_FrontierOf.f t306).bind fun bt321 => ((impl_DominatorsOf.f t306).bind fun bt325 => (if (t316 != t320) = true then (laws_FnFrontiers.j0 k l1 t309 t313 t316 bt321.1 bt321.2 bt325.1 bt325.2 true t306) else ((laws_sameInts.f k t313 t317).bind fun t329 => (laws_FnFrontiers.j0 k l1 t309 t313 t316 bt321.1 bt321.2 bt325.1 bt325.2 (!t329) t306))))) = some r := H
    have A6 := Aside0.mk A60
    clear A60
    replace H := Option.bind_eq_some_iff.mp H
    obtain ⟨⟨t321, t324⟩, A70, H⟩ := H
    replace H : ((impl_DominatorsOf.f t306).bind fun bt325 => (if (t316 != t320) = true then (laws_FnFrontiers.j0 k l1 t309 t313 t316 t321 t324 bt325.1 bt325.2 true t306) else ((laws_sameInts.f k t313 t317).bind fun t329 => (laws_FnFrontiers.j0 k l1 t309 t313 t316 t321 t324 bt325.1 bt325.2 (!t329) t306)))) = some r := H
    have A7 := Aside0.mk A70
    clear A70
    replace H := Option.bind_eq_some_iff.mp H
    obtain ⟨⟨t325, t328⟩, A80, H⟩ := H
    replace H : (if (t316 != t320) = true then (laws_FnFrontiers.j0 k l1 t309 t313 t316 t321 t324 t325 t328 true t306) else ((laws_sameInts.f k t313 t317).bind fun t329 => (laws_FnFrontiers.j0 k l1 t309 t313 t316 t321 t324 t325 t328 (!t329) t306))) = some r := H
    have A8 := Aside0.mk A80
    clear A80
    have HC9 := Aside0.mk H
    clear H
    go_enter Try.func6, Try.ntmps6
    go_upto_region 8 with (first | ((with_reducible refine gate_callee (f := 22) rfl ?_); refine goesL_ (some 51) rfl rfl Try.func22 (by kernel_rfl) rfl #[.slice A0 l0.length c0] rfl (by (try simp only [List.map_toArray, List.map_cons, List.map_nil]); first | done | rfl | (simp only [List.length_drop, List.length_take]; rfl)) ?_; (with_reducible refine (spec_DrawJoinsOf.calls k _ _ l0 t306 t309 _ ?side1 ?side2 A4.out).mono ?_); (case side1 => repeat (first | exact HR0.out | (with_reducible refine Kd.C_alloc ?_ _) | (with_reducible refine Kd.C_drewN ?_ _) | (with_reducible refine Kd.C_drew ?_))); (case side2 => exact HC0.out); rintro e w10 ⟨v307, v310, rfl, ho0, ho1, hb⟩; refine ⟨_, rfl, ?_⟩; have n0_ := Aside0.mk (Kd.S_lower ho0 (below_size (by repeat (first | (with_reducible first | exact HB.out | apply below_alloc | apply pw_below_drewN | apply below_drew1) | exact HB.out)))); have n1_ := Aside0.mk (Kd.R_lower ho1 (below_size (by repeat (first | (with_reducible first | exact HB.out | apply below_alloc | apply pw_below_drewN | apply below_drew1) | exact HB.out)))); have n2_ := Aside0.mk (below_step (by repeat (first | (with_reducible first | exact HB.out | apply below_alloc | apply pw_below_drewN | apply below_drew1) | exact HB.out)) hb); clear HB; have HO308 := n0_; have HO311 := n1_; have HB := n2_; clear n0_ n1_ n2_; (try clear hb); (try clear hb2); (try clear hk); (try clear hi); (try clear ho0); (try clear ho1)) | ((with_reducible refine gate_dst (N := 5) rfl ?_); refine box_event ?hg (N := 5) ?hd (cs := #[.slice none 0 0]) (t := 28) ?hr ?_; (case hd => rfl); (case hg => rfl); (case hr => first | (go_simp; done) | (go_simp; rfl)); intro gb312 hg w11 hbox hb; have n0_ := Aside0.mk (Kd.S_below (by (with_reducible repeat (first | apply Kd.S_alloc | apply Kd.S_drewN | apply Kd.S_drew)); exact HO308.out) hb); have n1_ := Aside0.mk (Kd.R_below (by (with_reducible repeat (first | apply Kd.R_alloc | apply Kd.R_drewN | apply Kd.R_drew)); exact HO311.out) hb); have n2_ := Aside0.mk (below_step (by repeat (first | (with_reducible first | exact HB.out | apply below_alloc | apply pw_below_drewN | apply below_drew1) | exact HB.out)) hb); have n3_ := Aside0.mk (hbox); have n4_ := Aside0.mk ((by rw [hg]; exact (below_size (by repeat (first | (with_reducible first | exact HB.out | apply below_alloc | apply pw_below_drewN | apply below_drew1) | exact HB.out))) : w.heap.size ≤ gb312)); have n5_ := Aside0.mk ((by rw [hg]; exact (below_size (by repeat (first | (with_reducible first | exact HB.out | apply below_alloc | apply pw_below_drewN | apply below_drew1) | exact HB.out))) : w.heap.size ≤ gb312)); clear HO308; clear HO311; clear HB; have HO308 := n0_; have HO311 := n1_; have HB := n2_; have BK312 := n3_; have GW312 := n4_; have GE312 := n5_; clear n0_ n1_ n2_ n3_ n4_ n5_; clear hb hbox hg; obtain ⟨Ao12, co12, eo12⟩ := Kd.S_slice HO308.out; subst eo12; have hcz13_0 : w11.cell? ⟨gb312, 0, none⟩ = some (.slice none 0 0) := (blk_cell BK312.out 0).trans rfl; have hfz13_0 := blk_frozen BK312.out 0; obtain ⟨Ao14, co14, eo14⟩ := Kd.R_slice HO311.out; subst eo14) | ((with_reducible refine gate_callee (f := 15) rfl ?_); refine goesL_ (some 57) rfl rfl Try.func15 (by kernel_rfl) rfl #[.agg #[.slice Ao12 t306.length co12], .slice Ao14 t309.length co14] rfl (by (try simp only [List.map_toArray, List.map_cons, List.map_nil]); first | done | rfl | (simp only [List.length_drop, List.length_take]; rfl)) ?_; (with_reducible refine (impl_JoinsOf.calls _ _ t306 _ _ t309 t313 t316 _ ?side1 ?side2 ?side3 ?side4 A5.out).mono ?_); (case side1 => refine (Kd.S_reads' (e := 32) (base := w.heap.size) (ok := fun k_ => some k_ ≠ (.slice Ao14 t309.length co14 : Value).ownBlock) (n := t306.length) (c := co12) ?_).2.2; exact (by (with_reducible repeat (first | apply Kd.S_alloc | apply Kd.S_drewN | apply Kd.S_drew)); exact (Kd.S_mono (Kd.S_far (p := ⟨gb312, 0, none⟩) (Kd.S_types HO308.out BK312.out (by decide)) (fun _ hk => hk.2) (.slice Ao12 t306.length co12)) (fun _ h_ => h_.1)))); (case side2 => exact (Kd.S_reads' HO308.out).2.1); (case side3 => refine (Kd.R_reads' (e := 3) (base := w.heap.size) (ok := fun k_ => True) (n := t309.length) (c := co14) ?_).2.2; exact (by (with_reducible repeat (first | apply Kd.R_alloc | apply Kd.R_drewN | apply Kd.R_drew)); exact (Kd.R_mono (Kd.R_far (p := ⟨gb312, 0, none⟩) (Kd.R_types HO311.out BK312.out (by decide)) (fun _ hk => hk.2) (.slice Ao12 t306.length co12)) (fun _ h_ => h_.1)))); (case side4 => exact (Kd.R_reads' HO311.out).2.1); rintro e w15 ⟨v314, rfl, ho0, hb⟩; refine ⟨_, rfl, ?_⟩; have n0_ := Aside0.mk (Kd.S_elder' (by (with_reducible repeat (first | apply Kd.S_alloc | apply Kd.S_drewN | apply Kd.S_drew)); exact (Kd.S_mono (Kd.S_far (p := ⟨gb312, 0, none⟩) (Kd.S_types HO308.out BK312.out (by decide)) (fun _ hk => hk.2) (.slice Ao12 t306.length co12)) (fun _ h_ => h_.1))) (Kd.R_base ho0) hb); have n1_ := Aside0.mk (Kd.R_elder' (by (with_reducible repeat (first | apply Kd.R_alloc | apply Kd.R_drewN | apply Kd.R_drew)); exact (Kd.R_mono (Kd.R_far (p := ⟨gb312, 0, none⟩) (Kd.R_types HO311.out BK312.out (by decide)) (fun _ hk => hk.2) (.slice Ao12 t306.length co12)) (fun _ h_ => h_.1))) (Kd.R_base ho0) hb); have n2_ := Aside0.mk (Kd.R_lower (Kd.R_new' ho0 (Kd.R_lt (by (with_reducible repeat (first | apply Kd.R_alloc | apply Kd.R_drewN | apply Kd.R_drew)); exact (Kd.R_mono (Kd.R_far (p := ⟨gb312, 0, none⟩) (Kd.R_types HO311.out BK312.out (by decide)) (fun _ hk => hk.2) (.slice Ao12 t306.length co12)) (fun _ h_ => h_.1))))) (below_size (by repeat (first | (with_reducible first | exact HB.out | apply below_alloc | apply pw_below_drewN | apply below_drew1 | refine below_set ?_ GE312.out) | exact HB.out)))); have n3_ := Aside0.mk (blk_below (g := gb312) (o := .cells #[.slice Ao12 t306.length co12] 28 (0, 0)) (by (with_reducible repeat (first | refine blk_drewN ?_ _ | refine blk_drew ?_ | refine blk_alloc ?_ _)); refine blk_put (cs := #[.slice none 0 0]) ?_ 0 _ rfl; (with_reducible repeat (first | refine blk_drewN ?_ _ | refine blk_drew ?_ | refine blk_alloc ?_ _)); exact BK312.out) hb); have n4_ := Aside0.mk (below_step (by repeat (first | (with_reducible first | exact HB.out | apply below_alloc | apply pw_below_drewN | apply below_drew1 | refine below_set ?_ GE312.out) | exact HB.out)) hb); clear HO308; clear HO311; clear BK312; clear HB; have HO308 := n0_; have HO311 := n1_; have HO315 := n2_; have BK312 := n3_; have HB := n4_; clear n0_ n1_ n2_ n3_ n4_; (try clear hb); (try clear hb2); (try clear hk); (try clear hi); (try clear ho0); have hcz16_0 : w15.cell? ⟨gb312, 0, none⟩ = some (.slice Ao12 t306.length co12) := (blk_cell BK312.out 0).trans rfl; have hfz16_0 := blk_frozen BK312.out 0) | ((with_reducible refine gate_callee (f := 13) rfl ?_); refine goesL_ (some 63) rfl rfl Try.func13 (by kernel_rfl) rfl #[.agg #[.slice Ao12 t306.length co12], .slice Ao14 t309.length co14] rfl (by (try simp only [List.map_toArray, List.map_cons, List.map_nil]); first | done | rfl | (simp only [List.length_drop, List.length_take]; rfl)) ?_; (with_reducible refine (spec_JoinsOf.calls k _ _ t306 _ _ t309 t317 t320 _ ?side1 ?side2 ?side3 ?side4 A6.out).mono ?_); (case side1 => repeat (first | exact (Kd.S_reads' HO308.out).2.2 | (with_reducible refine Kd.C_alloc ?_ _) | (with_reducible refine Kd.C_drewN ?_ _) | (with_reducible refine Kd.C_drew ?_))); (case side2 => exact (Kd.S_reads' HO308.out).2.1); (case side3 => repeat (first | exact (Kd.R_reads' HO311.out).2.2 | (with_reducible refine Kd.C_alloc ?_ _) | (with_reducible refine Kd.C_drewN ?_ _) | (with_reducible refine Kd.C_drew ?_))); (case side4 => exact (Kd.R_reads' HO311.out).2.1); rintro e w17 ⟨v318, rfl, ho0, hb⟩; refine ⟨_, rfl, ?_⟩; have n0_ := Aside0.mk (Kd.S_elder' (by (with_reducible repeat (first | apply Kd.S_alloc | apply Kd.S_drewN | apply Kd.S_drew)); exact HO308.out) (Kd.R_base ho0) hb); have n1_ := Aside0.mk (Kd.R_elder' (by (with_reducible repeat (first | apply Kd.R_alloc | apply Kd.R_drewN | apply Kd.R_drew)); exact HO311.out) (Kd.R_base ho0) hb); have n2_ := Aside0.mk (Kd.R_elder' (by (with_reducible repeat (first | apply Kd.R_alloc | apply Kd.R_drewN | apply Kd.R_drew)); exact HO315.out) (Kd.R_base ho0) hb); have n3_ := Aside0.mk (Kd.R_lower (Kd.R_new' (Kd.R_new' ho0 (Kd.R_lt (by (with_reducible repeat (first | apply Kd.R_alloc | apply Kd.R_drewN | apply Kd.R_drew)); exact HO311.out))) (Kd.R_lt (by (with_reducible repeat (first | apply Kd.R_alloc | apply Kd.R_drewN | apply Kd.R_drew)); exact HO315.out))) (below_size (by repeat (first | (with_reducible first | exact HB.out | apply below_alloc | apply pw_below_drewN | apply below_drew1 | refine below_set ?_ GE312.out) | exact HB.out)))); have n4_ := Aside0.mk (blk_below (g := gb312) (o := .cells #[.slice Ao12 t306.length co12] 28 (0, 0)) (by (with_reducible repeat (first | refine blk_drewN ?_ _ | refine blk_drew ?_ | refine blk_alloc ?_ _)); exact BK312.out) hb); have n5_ := Aside0.mk (below_step (by repeat (first | (with_reducible first | exact HB.out | apply below_alloc | apply pw_below_drewN | apply below_drew1 | refine below_set ?_ GE312.out) | exact HB.out)) hb); clear HO308; clear HO311; clear HO315; clear BK312; clear HB; have HO308 := n0_; have HO311 := n1_; have HO315 := n2_; have HO319 := n3_; have BK312 := n4_; have HB := n5_; clear n0_ n1_ n2_ n3_ n4_ n5_; (try clear hb); (try clear hb2); (try clear hk); (try clear hi); (try clear ho0); have hcz18_0 : w17.cell? ⟨gb312, 0, none⟩ = some (.slice Ao12 t306.length co12) := (blk_cell BK312.out 0).trans rfl; have hfz18_0 := blk_frozen BK312.out 0) | ((with_reducible refine gate_callee (f := 23) rfl ?_); refine goesL_ (some 68) rfl rfl Try.func23 (by kernel_rfl) rfl #[.agg #[.slice Ao12 t306.length co12]] rfl (by (try simp only [List.map_toArray, List.map_cons, List.map_nil]); first | done | rfl | (simp only [List.length_drop, List.length_take]; rfl)) ?_; (with_reducible refine (impl_FrontierOf.calls _ _ t306 t321 t324 _ ?side1 ?side2 A7.out).mono ?_); (case side1 => repeat (first | exact (Kd.S_reads' HO308.out).2.2 | (with_reducible refine Kd.C_alloc ?_ _) | (with_reducible refine Kd.C_drewN ?_ _) | (with_reducible refine Kd.C_drew ?_))); (case side2 => exact (Kd.S_reads' HO308.out).2.1); rintro e w19 ⟨v322, rfl, ho0, hb⟩; refine ⟨_, rfl, ?_⟩; have n0_ := Aside0.mk (Kd.S_elder' (by (with_reducible repeat (first | apply Kd.S_alloc | apply Kd.S_drewN | apply Kd.S_drew)); exact HO308.out) (Kd.S_base ho0) hb); have n1_ := Aside0.mk (Kd.R_below (by (with_reducible repeat (first | apply Kd.R_alloc | apply Kd.R_drewN | apply Kd.R_drew)); exact HO311.out) hb); have n2_ := Aside0.mk (Kd.R_below (by (with_reducible repeat (first | apply Kd.R_alloc | apply Kd.R_drewN | apply Kd.R_drew)); exact HO315.out) hb); have n3_ := Aside0.mk (Kd.R_below (by (with_reducible repeat (first | apply Kd.R_alloc | apply Kd.R_drewN | apply Kd.R_drew)); exact HO319.out) hb); have n4_ := Aside0.mk (Kd.S_lower (Kd.S_new' (Kd.S_new' (Kd.S_new' (Kd.S_new' ho0 (Kd.S_lt (by (with_reducible repeat (first | apply Kd.S_alloc | apply Kd.S_drewN | apply Kd.S_drew)); exact HO308.out))) (Kd.R_lt (by (with_reducible repeat (first | apply Kd.R_alloc | apply Kd.R_drewN | apply Kd.R_drew)); exact HO311.out))) (Kd.R_lt (by (with_reducible repeat (first | apply Kd.R_alloc | apply Kd.R_drewN | apply Kd.R_drew)); exact HO315.out))) (Kd.R_lt (by (with_reducible repeat (first | apply Kd.R_alloc | apply Kd.R_drewN | apply Kd.R_drew)); exact HO319.out))) (below_size (by repeat (first | (with_reducible first | exact HB.out | apply below_alloc | apply pw_below_drewN | apply below_drew1 | refine below_set ?_ GE312.out) | exact HB.out)))); have n5_ := Aside0.mk (blk_below (g := gb312) (o := .cells #[.slice Ao12 t306.length co12] 28 (0, 0)) (by (with_reducible repeat (first | refine blk_drewN ?_ _ | refine blk_drew ?_ | refine blk_alloc ?_ _)); exact BK312.out) hb); have n6_ := Aside0.mk (below_step (by repeat (first | (with_reducible first | exact HB.out | apply below_alloc | apply pw_below_drewN | apply below_drew1 | refine below_set ?_ GE312.out) | exact HB.out)) hb); clear HO308; clear HO311; clear HO315; clear HO319; clear BK312; clear HB; have HO308 := n0_; have HO311 := n1_; have HO315 := n2_; have HO319 := n3_; have HO323 := n4_; have BK312 := n5_; have HB := n6_; clear n0_ n1_ n2_ n3_ n4_ n5_ n6_; (try clear hb); (try clear hb2); (try clear hk); (try clear hi); (try clear ho0); have hcz20_0 : w19.cell? ⟨gb312, 0, none⟩ = some (.slice Ao12 t306.length co12) := (blk_cell BK312.out 0).trans rfl; have hfz20_0 := blk_frozen BK312.out 0) | ((with_reducible refine gate_callee (f := 24) rfl ?_); refine goesL_ (some 73) rfl rfl Try.func24 (by kernel_rfl) rfl #[.agg #[.slice Ao12 t306.length co12]] rfl (by (try simp only [List.map_toArray, List.map_cons, List.map_nil]); first | done | rfl | (simp only [List.length_drop, List.length_take]; rfl)) ?_; (with_reducible refine (impl_DominatorsOf.calls _ _ t306 t325 t328 _ ?side1 ?side2 A8.out).mono ?_); (case side1 => repeat (first | exact (Kd.S_reads' HO308.out).2.2 | (with_reducible refine Kd.C_alloc ?_ _) | (with_reducible refine Kd.C_drewN ?_ _) | (with_reducible refine Kd.C_drew ?_))); (case side2 => exact (Kd.S_reads' HO308.out).2.1); rintro e w21 ⟨v326, rfl, ho0, hb⟩; refine ⟨_, rfl, ?_⟩; have n0_ := Aside0.mk (Kd.S_elder' (by (with_reducible repeat (first | apply Kd.S_alloc | apply Kd.S_drewN | apply Kd.S_drew)); exact HO308.out) (Kd.S_base ho0) hb); have n1_ := Aside0.mk (Kd.R_below (by (with_reducible repeat (first | apply Kd.R_alloc | apply Kd.R_drewN | apply Kd.R_drew)); exact HO311.out) hb); have n2_ := Aside0.mk (Kd.R_below (by (with_reducible repeat (first | apply Kd.R_alloc | apply Kd.R_drewN | apply Kd.R_drew)); exact HO315.out) hb); have n3_ := Aside0.mk (Kd.R_below (by (with_reducible repeat (first | apply Kd.R_alloc | apply Kd.R_drewN | apply Kd.R_drew)); exact HO319.out) hb); have n4_ := Aside0.mk (Kd.S_elder' (by (with_reducible repeat (first | apply Kd.S_alloc | apply Kd.S_drewN | apply Kd.S_drew)); exact HO323.out) (Kd.S_base ho0) hb); have n5_ := Aside0.mk (Kd.S_lower (Kd.S_new' (Kd.S_new' (Kd.S_new' (Kd.S_new' (Kd.S_new' ho0 (Kd.S_lt (by (with_reducible repeat (first | apply Kd.S_alloc | apply Kd.S_drewN | apply Kd.S_drew)); exact HO308.out))) (Kd.R_lt (by (with_reducible repeat (first | apply Kd.R_alloc | apply Kd.R_drewN | apply Kd.R_drew)); exact HO311.out))) (Kd.R_lt (by (with_reducible repeat (first | apply Kd.R_alloc | apply Kd.R_drewN | apply Kd.R_drew)); exact HO315.out))) (Kd.R_lt (by (with_reducible repeat (first | apply Kd.R_alloc | apply Kd.R_drewN | apply Kd.R_drew)); exact HO319.out))) (Kd.S_lt (by (with_reducible repeat (first | apply Kd.S_alloc | apply Kd.S_drewN | apply Kd.S_drew)); exact HO323.out))) (below_size (by repeat (first | (with_reducible first | exact HB.out | apply below_alloc | apply pw_below_drewN | apply below_drew1 | refine below_set ?_ GE312.out) | exact HB.out)))); have n6_ := Aside0.mk (blk_below (g := gb312) (o := .cells #[.slice Ao12 t306.length co12] 28 (0, 0)) (by (with_reducible repeat (first | refine blk_drewN ?_ _ | refine blk_drew ?_ | refine blk_alloc ?_ _)); exact BK312.out) hb); have n7_ := Aside0.mk (below_step (by repeat (first | (with_reducible first | exact HB.out | apply below_alloc | apply pw_below_drewN | apply below_drew1 | refine below_set ?_ GE312.out) | exact HB.out)) hb); clear HO308; clear HO311; clear HO315; clear HO319; clear HO323; clear BK312; clear HB; have HO308 := n0_; have HO311 := n1_; have HO315 := n2_; have HO319 := n3_; have HO323 := n4_; have HO327 := n5_; have BK312 := n6_; have HB := n7_; clear n0_ n1_ n2_ n3_ n4_ n5_ n6_ n7_; (try clear hb); (try clear hb2); (try clear hk); (try clear hi); (try clear ho0)))
    (try simp only [Act.put, List.setIfInBounds_toArray, List.set_cons_zero, List.set_cons_succ])
    go_cut [84] (fun v84 wc => ∃ (kq : Nat) (x84_8 : Bool), v84 = .bool x84_8 ∧ Aside0 (laws_FnFrontiers.j0 kq l1 t309 t313 t316 t321 t324 t325 t328 x84_8 t306 = some r) ∧ Aside0 (kq ≤ k) ∧ Aside0 (Kd.R (Kd.int .i64) 3 wc w.heap.size (fun k_ => some k_ ≠ (v314 : Value).ownBlock) (.slice Ao14 t309.length co14) t309) ∧ Aside0 (Kd.R (Kd.int .i64) 3 wc w.heap.size (fun k_ => some k_ ≠ ((.slice Ao14 t309.length co14) : Value).ownBlock) v314 t313) ∧ Aside0 (Kd.S (Kd.slice 3 (Kd.int .i64)) 32 wc w.heap.size (fun k_ => some k_ ≠ ((.slice Ao14 t309.length co14) : Value).ownBlock ∧ some k_ ≠ (v314 : Value).ownBlock ∧ some k_ ≠ (v326 : Value).ownBlock ∧ some k_ ≠ ((.slice Ao12 t306.length co12) : Value).ownBlock) v322 t321) ∧ Aside0 (Kd.S (Kd.slice 3 (Kd.int .i64)) 32 wc w.heap.size (fun k_ => some k_ ≠ ((.slice Ao14 t309.length co14) : Value).ownBlock ∧ some k_ ≠ (v314 : Value).ownBlock ∧ some k_ ≠ (v322 : Value).ownBlock ∧ some k_ ≠ ((.slice Ao12 t306.length co12) : Value).ownBlock) v326 t325) ∧ Aside0 (Kd.S (Kd.slice 3 (Kd.int .i64)) 32 wc w.heap.size (fun k_ => some k_ ≠ ((.slice Ao14 t309.length co14) : Value).ownBlock ∧ some k_ ≠ (v314 : Value).ownBlock ∧ some k_ ≠ (v322 : Value).ownBlock ∧ some k_ ≠ (v326 : Value).ownBlock) (.slice Ao12 t306.length co12) t306) ∧ Aside0 (wc.heap[gb312]? = some (.cells #[(.slice Ao12 t306.length co12)] 28 (0, 0))) ∧ Aside0 (Below w.heap.size w wc))
    case first =>
      have H := HC9.out
      clear HC9
      by_cases c22 : (t316 != t320) = true
      · rw [if_pos c22] at H
        have c22b0 : (t316 != t320) = true := c22
        (try (have c22b1 : decide (t316 = t320) = false := by simpa using c22))
        (try (have c22b2 : (t316 == t320) = false := by simpa using c22))
        (try (have c22b3 : ¬ (t316 = t320) := by simpa using c22))
        clear c22
        (first | rw [c22b0] | (simp only [i64_w, i32_w]; rw [c22b0]) | skip)
        have H' := Aside0.mk H
        clear H
        go_wp2
        go_meet
        case rel => exact ⟨_, (true), (by first | rfl | (simp; done) | (simp [*]; done)), H', ⟨by first | omega | exact Nat.le_refl _⟩, ⟨by (with_reducible repeat (first | apply Kd.R_alloc | apply Kd.R_drewN | apply Kd.R_drew)); exact Kd.R_mono HO311.out (fun _ hk => hk.1.2)⟩, ⟨by (with_reducible repeat (first | apply Kd.R_alloc | apply Kd.R_drewN | apply Kd.R_drew)); exact Kd.R_mono HO315.out (fun _ hk => hk.1.2)⟩, ⟨by (with_reducible repeat (first | apply Kd.S_alloc | apply Kd.S_drewN | apply Kd.S_drew)); exact Kd.S_mono HO323.out (fun _ hk => ⟨hk.1.1.1.2, ⟨hk.1.1.2, ⟨hk.2, hk.1.1.1.1.2⟩⟩⟩)⟩, ⟨by (with_reducible repeat (first | apply Kd.S_alloc | apply Kd.S_drewN | apply Kd.S_drew)); exact Kd.S_mono HO327.out (fun _ hk => ⟨hk.1.1.1.2, ⟨hk.1.1.2, ⟨hk.2, hk.1.1.1.1.2⟩⟩⟩)⟩, ⟨by (with_reducible repeat (first | apply Kd.S_alloc | apply Kd.S_drewN | apply Kd.S_drew)); exact Kd.S_mono HO308.out (fun _ hk => ⟨hk.1.1.1.1, ⟨hk.1.1.1.2, ⟨hk.1.2, hk.2⟩⟩⟩)⟩, ⟨by (with_reducible repeat (first | refine blk_drewN ?_ _ | refine blk_drew ?_ | refine blk_alloc ?_ _)); exact BK312.out⟩, ⟨by repeat (first | (with_reducible first | exact HB.out | apply below_alloc | apply pw_below_drewN | apply below_drew1 | refine below_set ?_ GE312.out) | exact HB.out)⟩⟩
      · rw [if_neg c22] at H
        have c22b0 : (t316 != t320) = false := by simpa using c22
        (try (have c22b1 : decide (t316 = t320) = true := by simpa using c22))
        (try (have c22b2 : (t316 == t320) = true := by simpa using c22))
        clear c22
        (first | rw [c22b0] | (simp only [i64_w, i32_w]; rw [c22b0]) | skip)
        replace H := Option.bind_eq_some_iff.mp H
        obtain ⟨t329, A230, H⟩ := H
        replace H : (laws_FnFrontiers.j0 k l1 t309 t313 t316 t321 t324 t325 t328 (!t329) t306) = some r := H
        have A23 := Aside0.mk A230
        clear A230
        have H' := Aside0.mk H
        clear H
        obtain ⟨Ao24, co24, eo24⟩ := Kd.R_slice HO315.out
        (first | subst eo24 | (injection eo24 with ea_ en_ ec_; (replace ea_ := ea_.symm); (replace ec_ := ec_.symm); subst ea_; subst ec_))
        obtain ⟨Ao25, co25, eo25⟩ := Kd.R_slice HO319.out
        (first | subst eo25 | (injection eo25 with ea_ en_ ec_; (replace ea_ := ea_.symm); (replace ec_ := ec_.symm); subst ea_; subst ec_))
        go_wp2_with (first | (go_at_call 25; (with_reducible refine (laws_sameInts.calls k _ _ t313 _ _ t317 t329 _ ?side1 ?side2 ?side3 ?side4 A23.out).mono ?_); (case side1 => repeat (first | exact (Kd.R_reads' HO315.out).2.2 | (with_reducible refine Kd.C_alloc ?_ _) | (with_reducible refine Kd.C_drewN ?_ _) | (with_reducible refine Kd.C_drew ?_))); (case side2 => exact (Kd.R_reads' HO315.out).2.1); (case side3 => repeat (first | exact (Kd.R_reads' HO319.out).2.2 | (with_reducible refine Kd.C_alloc ?_ _) | (with_reducible refine Kd.C_drewN ?_ _) | (with_reducible refine Kd.C_drew ?_))); (case side4 => exact (Kd.R_reads' HO319.out).2.1); rintro e w' ⟨rfl, ⟨nd, rfl⟩⟩))
        go_meet
        case rel => exact ⟨_, (!t329), (by first | rfl | (simp; done) | (simp [*]; done)), H', ⟨by first | omega | exact Nat.le_refl _⟩, ⟨by (with_reducible repeat (first | apply Kd.R_alloc | apply Kd.R_drewN | apply Kd.R_drew)); exact Kd.R_mono HO311.out (fun _ hk => hk.1.2)⟩, ⟨by (with_reducible repeat (first | apply Kd.R_alloc | apply Kd.R_drewN | apply Kd.R_drew)); exact Kd.R_mono HO315.out (fun _ hk => hk.1.2)⟩, ⟨by (with_reducible repeat (first | apply Kd.S_alloc | apply Kd.S_drewN | apply Kd.S_drew)); exact Kd.S_mono HO323.out (fun _ hk => ⟨hk.1.1.1.2, ⟨hk.1.1.2, ⟨hk.2, hk.1.1.1.1.2⟩⟩⟩)⟩, ⟨by (with_reducible repeat (first | apply Kd.S_alloc | apply Kd.S_drewN | apply Kd.S_drew)); exact Kd.S_mono HO327.out (fun _ hk => ⟨hk.1.1.1.2, ⟨hk.1.1.2, ⟨hk.2, hk.1.1.1.1.2⟩⟩⟩)⟩, ⟨by (with_reducible repeat (first | apply Kd.S_alloc | apply Kd.S_drewN | apply Kd.S_drew)); exact Kd.S_mono HO308.out (fun _ hk => ⟨hk.1.1.1.1, ⟨hk.1.1.1.2, ⟨hk.1.2, hk.2⟩⟩⟩)⟩, ⟨by (with_reducible repeat (first | refine blk_drewN ?_ _ | refine blk_drew ?_ | refine blk_alloc ?_ _)); exact BK312.out⟩, ⟨by repeat (first | (with_reducible first | exact HB.out | apply below_alloc | apply pw_below_drewN | apply below_drew1 | refine below_set ?_ GE312.out) | exact HB.out)⟩⟩
    case rest =>
      clear HC9
      try clear c1
      try clear c2
      try clear p2
      try clear c3
      try clear c3b0
      try clear c6
      try clear p6
      try clear c13
      try clear c15
      try clear c22
      try clear c22b0
      try clear c22b1
      try clear c22b2
      try clear c23
      try clear c24
      try clear hcz13_0
      try clear hcz16_0
      try clear hcz18_0
      try clear hcz20_0
      try clear hfz13_0
      try clear hfz16_0
      try clear hfz18_0
      try clear hfz20_0
      obtain ⟨kq, x84_8, rfl, HA, HJ8, HO_6, HO_7, HO_11, HO_13, HO_313000, BK312, HB⟩ := hcut
      cases kq with
      | zero => exact absurd HA.out (by simp [laws_FnFrontiers.j0])
      | succ kj8 =>
        have H := HA.out
        clear HA
        simp only [laws_FnFrontiers.j0] at H
        by_cases c26 : x84_8 = true
        · subst c26
          have H1 : (some false) = some r := by rw [if_pos rfl] at H; exact H
          clear H
          have H := H1
          clear H1
          exact absurd (Option.some.inj H) (by rw [hrt.out]; decide)
        · replace c26 := Bool.eq_false_iff.mpr c26
          subst c26
          have H1 : (if t316 = true then (if t324 = true then (laws_FnFrontiers.j1 kj8 l1 t309 t313 t321 t325 (!t328) t306) else (laws_FnFrontiers.j1 kj8 l1 t309 t313 t321 t325 true t306)) else (laws_FnFrontiers.j7 kj8 l1)) = some r := by rw [if_neg (show ¬ (false = true) by decide)] at H; exact H
          clear H
          have H := H1
          clear H1
          have HC27 := Aside0.mk H
          clear H
          go_upto_if 85 with (fail)
          go_cut [] (fun wc => ∃ (kq : Nat), Aside0 (laws_FnFrontiers.j7 kq l1 = some r) ∧ Aside0 (kq ≤ kj8) ∧ Aside0 (Kd.S (Kd.slice 3 (Kd.int .i64)) 32 wc w.heap.size (fun _ => True) (.slice Ao12 t306.length co12) t306) ∧ Aside0 (wc.heap[gb312]? = some (.cells #[(.slice Ao12 t306.length co12)] 28 (0, 0))) ∧ Aside0 (Below w.heap.size w wc))
          case first =>
            have H := HC27.out
            clear HC27
            by_cases c28 : t316 = true
            · subst c28
              have H1 : (if t324 = true then (laws_FnFrontiers.j1 kj8 l1 t309 t313 t321 t325 (!t328) t306) else (laws_FnFrontiers.j1 kj8 l1 t309 t313 t321 t325 true t306)) = some r := by rw [if_pos rfl] at H; exact H
              clear H
              have H := H1
              clear H1
              have HC29 := Aside0.mk H
              clear H
              go_upto_region 11 with (fail)
              go_cut [91] (fun v91 wc => ∃ (kq : Nat) (x91_28 : Bool), v91 = .bool x91_28 ∧ Aside0 (laws_FnFrontiers.j1 kq l1 t309 t313 t321 t325 x91_28 t306 = some r) ∧ Aside0 (kq ≤ kj8) ∧ Aside0 (Kd.R (Kd.int .i64) 3 wc w.heap.size (fun k_ => some k_ ≠ (v314 : Value).ownBlock) (.slice Ao14 t309.length co14) t309) ∧ Aside0 (Kd.R (Kd.int .i64) 3 wc w.heap.size (fun k_ => some k_ ≠ ((.slice Ao14 t309.length co14) : Value).ownBlock) v314 t313) ∧ Aside0 (Kd.S (Kd.slice 3 (Kd.int .i64)) 32 wc w.heap.size (fun k_ => some k_ ≠ ((.slice Ao14 t309.length co14) : Value).ownBlock ∧ some k_ ≠ (v314 : Value).ownBlock ∧ some k_ ≠ (v326 : Value).ownBlock ∧ some k_ ≠ ((.slice Ao12 t306.length co12) : Value).ownBlock) v322 t321) ∧ Aside0 (Kd.S (Kd.slice 3 (Kd.int .i64)) 32 wc w.heap.size (fun k_ => some k_ ≠ ((.slice Ao14 t309.length co14) : Value).ownBlock ∧ some k_ ≠ (v314 : Value).ownBlock ∧ some k_ ≠ (v322 : Value).ownBlock ∧ some k_ ≠ ((.slice Ao12 t306.length co12) : Value).ownBlock) v326 t325) ∧ Aside0 (Kd.S (Kd.slice 3 (Kd.int .i64)) 32 wc w.heap.size (fun k_ => some k_ ≠ ((.slice Ao14 t309.length co14) : Value).ownBlock ∧ some k_ ≠ (v314 : Value).ownBlock ∧ some k_ ≠ (v322 : Value).ownBlock ∧ some k_ ≠ (v326 : Value).ownBlock) (.slice Ao12 t306.length co12) t306) ∧ Aside0 (wc.heap[gb312]? = some (.cells #[(.slice Ao12 t306.length co12)] 28 (0, 0))) ∧ Aside0 (Below w.heap.size w wc))
              case first =>
                have H := HC29.out
                clear HC29
                by_cases c30 : t324 = true
                · subst c30
                  have H1 : (laws_FnFrontiers.j1 kj8 l1 t309 t313 t321 t325 (!t328) t306) = some r := by rw [if_pos rfl] at H; exact H
                  clear H
                  have H := H1
                  clear H1
                  have H' := Aside0.mk H
                  clear H
                  go_wp2
                  go_meet
                  case rel => exact ⟨_, (!t328), (by first | rfl | (simp; done) | (simp [*]; done)), H', ⟨by have := HJ8.out; first | omega | exact Nat.le_refl _⟩, ⟨by (with_reducible repeat (first | apply Kd.R_alloc | apply Kd.R_drewN | apply Kd.R_drew)); exact HO_6.out⟩, ⟨by (with_reducible repeat (first | apply Kd.R_alloc | apply Kd.R_drewN | apply Kd.R_drew)); exact HO_7.out⟩, ⟨by (with_reducible repeat (first | apply Kd.S_alloc | apply Kd.S_drewN | apply Kd.S_drew)); exact HO_11.out⟩, ⟨by (with_reducible repeat (first | apply Kd.S_alloc | apply Kd.S_drewN | apply Kd.S_drew)); exact HO_13.out⟩, ⟨by (with_reducible repeat (first | apply Kd.S_alloc | apply Kd.S_drewN | apply Kd.S_drew)); exact HO_313000.out⟩, ⟨by (with_reducible repeat (first | refine blk_drewN ?_ _ | refine blk_drew ?_ | refine blk_alloc ?_ _)); exact BK312.out⟩, ⟨by repeat (first | (with_reducible first | exact HB.out | apply below_alloc | apply pw_below_drewN | apply below_drew1 | refine below_set ?_ GE312.out) | exact HB.out)⟩⟩
                · replace c30 := Bool.eq_false_iff.mpr c30
                  subst c30
                  have H1 : (laws_FnFrontiers.j1 kj8 l1 t309 t313 t321 t325 true t306) = some r := by rw [if_neg (show ¬ (false = true) by decide)] at H; exact H
                  clear H
                  have H := H1
                  clear H1
                  have H' := Aside0.mk H
                  clear H
                  go_wp2
                  go_meet
                  case rel => exact ⟨_, (true), (by first | rfl | (simp; done) | (simp [*]; done)), H', ⟨by have := HJ8.out; first | omega | exact Nat.le_refl _⟩, ⟨by (with_reducible repeat (first | apply Kd.R_alloc | apply Kd.R_drewN | apply Kd.R_drew)); exact HO_6.out⟩, ⟨by (with_reducible repeat (first | apply Kd.R_alloc | apply Kd.R_drewN | apply Kd.R_drew)); exact HO_7.out⟩, ⟨by (with_reducible repeat (first | apply Kd.S_alloc | apply Kd.S_drewN | apply Kd.S_drew)); exact HO_11.out⟩, ⟨by (with_reducible repeat (first | apply Kd.S_alloc | apply Kd.S_drewN | apply Kd.S_drew)); exact HO_13.out⟩, ⟨by (with_reducible repeat (first | apply Kd.S_alloc | apply Kd.S_drewN | apply Kd.S_drew)); exact HO_313000.out⟩, ⟨by (with_reducible repeat (first | refine blk_drewN ?_ _ | refine blk_drew ?_ | refine blk_alloc ?_ _)); exact BK312.out⟩, ⟨by repeat (first | (with_reducible first | exact HB.out | apply below_alloc | apply pw_below_drewN | apply below_drew1 | refine below_set ?_ GE312.out) | exact HB.out)⟩⟩
              case rest =>
                clear HC29
                try clear c1
                try clear c2
                try clear p2
                try clear c3
                try clear c3b0
                try clear c6
                try clear p6
                try clear c13
                try clear c15
                try clear c22
                try clear c22b0
                try clear c22b1
                try clear c22b2
                try clear c23
                try clear c24
                try clear c26
                try clear c28
                try clear c30
                try clear hcz13_0
                try clear hcz16_0
                try clear hcz18_0
                try clear hcz20_0
                try clear hfz13_0
                try clear hfz16_0
                try clear hfz18_0
                try clear hfz20_0
                try clear p2
                try clear p6
                obtain ⟨kq, x91_28, rfl, HA, HJ28, HO_6, HO_7, HO_11, HO_13, HO_313000, BK312, HB⟩ := hcut
                cases kq with
                | zero => exact absurd HA.out (by simp [laws_FnFrontiers.j1])
                | succ kj28 =>
                  have H := HA.out
                  clear HA
                  simp only [laws_FnFrontiers.j1] at H
                  by_cases c31 : x91_28 = true
                  · subst c31
                    have H1 : (some false) = some r := by rw [if_pos rfl] at H; exact H
                    clear H
                    have H := H1
                    clear H1
                    exact absurd (Option.some.inj H) (by rw [hrt.out]; decide)
                  · replace c31 := Bool.eq_false_iff.mpr c31
                    subst c31
                    have H1 : (laws_FnFrontiers.l0 kj28 l1 t313 t321 t325 t309 (t309.length : Int) 0 t306) = some r := by rw [if_neg (show ¬ (false = true) by decide)] at H; exact H
                    clear H
                    have H := H1
                    clear H1
                    have H' := Aside0.mk H
                    clear H
                    go_wp2
                    go_loopg [94] kj28 (fun kq v94 w' => ∃ (x94_3 : Int), v94 = .int .i64 x94_3 ∧ Aside0 (laws_FnFrontiers.l0 kq l1 t313 t321 t325 t309 (t309.length : Int) x94_3 t306 = some r) ∧ Aside0 (kq ≤ kj28) ∧ Aside0 (Kd.R (Kd.int .i64) 3 w' w.heap.size (fun k_ => some k_ ≠ ((.slice Ao14 t309.length co14) : Value).ownBlock) v314 t313) ∧ Aside0 (Kd.S (Kd.slice 3 (Kd.int .i64)) 32 w' w.heap.size (fun k_ => some k_ ≠ (v314 : Value).ownBlock ∧ some k_ ≠ (v326 : Value).ownBlock ∧ some k_ ≠ ((.slice Ao14 t309.length co14) : Value).ownBlock ∧ some k_ ≠ ((.slice Ao12 t306.length co12) : Value).ownBlock) v322 t321) ∧ Aside0 (Kd.S (Kd.slice 3 (Kd.int .i64)) 32 w' w.heap.size (fun k_ => some k_ ≠ (v314 : Value).ownBlock ∧ some k_ ≠ (v322 : Value).ownBlock ∧ some k_ ≠ ((.slice Ao14 t309.length co14) : Value).ownBlock ∧ some k_ ≠ ((.slice Ao12 t306.length co12) : Value).ownBlock) v326 t325) ∧ Aside0 (Kd.R (Kd.int .i64) 3 w' w.heap.size (fun k_ => some k_ ≠ (v314 : Value).ownBlock) (.slice Ao14 t309.length co14) t309) ∧ Aside0 (Kd.S (Kd.slice 3 (Kd.int .i64)) 32 w' w.heap.size (fun k_ => some k_ ≠ (v314 : Value).ownBlock ∧ some k_ ≠ (v322 : Value).ownBlock ∧ some k_ ≠ (v326 : Value).ownBlock ∧ some k_ ≠ ((.slice Ao14 t309.length co14) : Value).ownBlock) (.slice Ao12 t306.length co12) t306) ∧ Aside0 (w'.heap[gb312]? = some (.cells #[(.slice Ao12 t306.length co12)] 28 (0, 0))) ∧ Aside0 (Below w.heap.size w w'))
                    case atStart => exact ⟨(0), (by first | rfl | (simp; done) | (simp [*]; done)), H', ⟨Nat.le_refl _⟩, ⟨by (with_reducible repeat (first | apply Kd.R_alloc | apply Kd.R_drewN | apply Kd.R_drew)); exact HO_7.out⟩, ⟨by (with_reducible repeat (first | apply Kd.S_alloc | apply Kd.S_drewN | apply Kd.S_drew)); exact Kd.S_mono HO_11.out (fun _ hk => ⟨hk.2.1, ⟨hk.2.2.1, ⟨hk.1, hk.2.2.2⟩⟩⟩)⟩, ⟨by (with_reducible repeat (first | apply Kd.S_alloc | apply Kd.S_drewN | apply Kd.S_drew)); exact Kd.S_mono HO_13.out (fun _ hk => ⟨hk.2.1, ⟨hk.2.2.1, ⟨hk.1, hk.2.2.2⟩⟩⟩)⟩, ⟨by (with_reducible repeat (first | apply Kd.R_alloc | apply Kd.R_drewN | apply Kd.R_drew)); exact HO_6.out⟩, ⟨by (with_reducible repeat (first | apply Kd.S_alloc | apply Kd.S_drewN | apply Kd.S_drew)); exact Kd.S_mono HO_313000.out (fun _ hk => ⟨hk.2.1, ⟨hk.2.2.1, ⟨hk.2.2.2, hk.1⟩⟩⟩)⟩, ⟨by (with_reducible repeat (first | refine blk_drewN ?_ _ | refine blk_drew ?_ | refine blk_alloc ?_ _)); exact BK312.out⟩, ⟨by repeat (first | (with_reducible first | exact HB.out | apply below_alloc | apply pw_below_drewN | apply below_drew1 | refine below_set ?_ GE312.out) | exact HB.out)⟩⟩
                    case round =>
                      clear H'
                      try clear c1
                      try clear c2
                      try clear p2
                      try clear c3
                      try clear c3b0
                      try clear c6
                      try clear p6
                      try clear c13
                      try clear c15
                      try clear c22
                      try clear c22b0
                      try clear c22b1
                      try clear c22b2
                      try clear c23
                      try clear c24
                      try clear c26
                      try clear c28
                      try clear c30
                      try clear c31
                      try clear hcz13_0
                      try clear hcz16_0
                      try clear hcz18_0
                      try clear hcz20_0
                      try clear hfz13_0
                      try clear hfz16_0
                      try clear hfz18_0
                      try clear hfz20_0
                      try clear p2
                      try clear p6
                      obtain ⟨x94_3, rfl, HA, HK3, HO_7, HO_11, HO_13, HO_92, HO_313000, BK312, HB⟩ := hrel
                      cases gk with
                      | zero => exact absurd HA.out (by simp [laws_FnFrontiers.l0])
                      | succ k3 =>
                        have H := HA.out
                        clear HA
                        simp only [laws_FnFrontiers.l0] at H
                        by_cases c32 : x94_3 < (t309.length : Int)
                        · rw [if_pos c32] at H
                          have c32b0 : decide (x94_3 < (t309.length : Int)) = true := decide_eq_true c32
                          clear c32
                          by_cases c33 : 0 ≤ x94_3
                          · rw [if_pos c33] at H
                            have c33b0 : decide (0 ≤ x94_3) = true := decide_eq_true c33
                            clear c33
                            by_cases c34 : x94_3 < (t309.length : Int)
                            · rw [if_pos c34] at H
                              have c34b0 : decide (x94_3 < (t309.length : Int)) = true := decide_eq_true c34
                              clear c34
                              by_cases c35 : 0 ≤ (rd t309 x94_3)
                              · rw [if_pos c35] at H
                                have c35b0 : decide (0 ≤ (rd t309 x94_3)) = true := decide_eq_true c35
                                clear c35
                                by_cases c36 : (rd t309 x94_3) < (t321.length : Int)
                                · rw [if_pos c36] at H
                                  have c36b0 : decide ((rd t309 x94_3) < (t321.length : Int)) = true := decide_eq_true c36
                                  clear c36
                                  have H' := Aside0.mk H
                                  clear H
                                  have p330 : 0 ≤ (x94_3 : Int) := of_decide_eq_true (by first | (with_reducible assumption) | assumption)
                                  have q330 : x94_3 < (t309.length : Int) := of_decide_eq_true (by first | (with_reducible assumption) | assumption)
                                  obtain ⟨ad330, e330, hx330_0⟩ := Kd.at_int (Kd.R_reads' HO_92.out).2.2 x94_3 p330 q330
                                  cases e330
                                  replace p330 := eq_true p330
                                  replace q330 := eq_true q330
                                  obtain ⟨Ao37, co37, eo37⟩ := Kd.S_slice HO_11.out
                                  (first | subst eo37 | (injection eo37 with ea_ en_ ec_; (replace ea_ := ea_.symm); (replace ec_ := ec_.symm); subst ea_; subst ec_))
                                  have p331 : 0 ≤ ((rd t309 x94_3) : Int) := of_decide_eq_true (by first | (with_reducible assumption) | assumption)
                                  have q331 : (rd t309 x94_3) < (t321.length : Int) := of_decide_eq_true (by first | (with_reducible assumption) | assumption)
                                  obtain ⟨ad331, A331_0, c331_0, e331, hx331_0, hl331_0, hi331_0⟩ := at_L1 (Kd.S_reads' HO_11.out).2.2 (rd t309 x94_3) p331 q331
                                  cases e331
                                  obtain ⟨ce331, hce331, hMe331, hcc331⟩ := Kd.S_get HO_11.out [] (rd t309 x94_3) p331 (by first | exact q331 | exact of_decide_eq_true (by first | (with_reducible assumption) | assumption) | (have e_ := (Kd.S_reads' HO_11.out).1; omega))
                                  obtain ⟨ve331_0, rfl, ge331_0⟩ := hMe331
                                  have hv331_0 := hcc331 0 _ rfl
                                  rw [Nat.add_zero, show ((Kd.slice 3 (Kd.int .i64))).sz = 1 from rfl, Nat.mul_one] at hv331_0
                                  replace hv331_0 := Option.some.inj (hv331_0.symm.trans hx331_0)
                                  rw [hv331_0] at ge331_0
                                  have HL331_0 := Aside0.mk (show Kd.R (Kd.int .i64) 3 _ _ _ _ (rd_L1 t321 (rd t309 x94_3)) from ge331_0)
                                  clear hv331_0 ge331_0
                                  clear hcc331 hce331
                                  have HR331_0 := Aside0.mk hi331_0
                                  have HC331_0 := Aside0.mk hl331_0
                                  clear hi331_0 hl331_0
                                  replace p331 := eq_true p331
                                  replace q331 := eq_true q331
                                  go_wp2
                                  go_loopg [103] k3 (fun kq v103 w' => ∃ (x103_4 : Int), v103 = .int .i64 x103_4 ∧ Aside0 (laws_FnFrontiers.l1 kq l1 t313 t321 t325 (rd t309 x94_3) t309 (t309.length : Int) x94_3 (rd_L1 t321 (rd t309 x94_3)) ((rd_L1 t321 (rd t309 x94_3)).length : Int) x103_4 t306 = some r) ∧ Aside0 (kq ≤ k3) ∧ Aside0 (Kd.R (Kd.int .i64) 3 w' w.heap.size (fun k_ => some k_ ≠ ((.slice (some ad330) t309.length co14) : Value).ownBlock) v314 t313) ∧ Aside0 (Kd.S (Kd.slice 3 (Kd.int .i64)) 32 w' w.heap.size (fun k_ => some k_ ≠ (v314 : Value).ownBlock ∧ some k_ ≠ (v326 : Value).ownBlock ∧ some k_ ≠ ((.slice (some ad330) t309.length co14) : Value).ownBlock ∧ some k_ ≠ ((.slice Ao12 t306.length co12) : Value).ownBlock) (.slice (some ad331) t321.length co37) t321) ∧ Aside0 (Kd.S (Kd.slice 3 (Kd.int .i64)) 32 w' w.heap.size (fun k_ => some k_ ≠ (v314 : Value).ownBlock ∧ some k_ ≠ ((.slice (some ad331) t321.length co37) : Value).ownBlock ∧ some k_ ≠ ((.slice (some ad330) t309.length co14) : Value).ownBlock ∧ some k_ ≠ ((.slice Ao12 t306.length co12) : Value).ownBlock) v326 t325) ∧ Aside0 (Kd.R (Kd.int .i64) 3 w' w.heap.size (fun k_ => some k_ ≠ (v314 : Value).ownBlock) (.slice (some ad330) t309.length co14) t309) ∧ Aside0 (Kd.S (Kd.slice 3 (Kd.int .i64)) 32 w' w.heap.size (fun k_ => some k_ ≠ (v314 : Value).ownBlock ∧ some k_ ≠ ((.slice (some ad331) t321.length co37) : Value).ownBlock ∧ some k_ ≠ (v326 : Value).ownBlock ∧ some k_ ≠ ((.slice (some ad330) t309.length co14) : Value).ownBlock) (.slice Ao12 t306.length co12) t306) ∧ Aside0 (w'.heap[gb312]? = some (.cells #[(.slice Ao12 t306.length co12)] 28 (0, 0))) ∧ Aside0 (Kd.C (Kd.int .i64) w' A331_0 (rd_L1 t321 (rd t309 x94_3)).length (rd_L1 t321 (rd t309 x94_3))) ∧ Aside0 (Below w.heap.size w w'))
                                  case atStart => exact ⟨(0), (by first | rfl | (simp; done) | (simp [*]; done)), H', ⟨Nat.le_refl _⟩, ⟨by (with_reducible repeat (first | apply Kd.R_alloc | apply Kd.R_drewN | apply Kd.R_drew)); exact HO_7.out⟩, ⟨by (with_reducible repeat (first | apply Kd.S_alloc | apply Kd.S_drewN | apply Kd.S_drew)); exact HO_11.out⟩, ⟨by (with_reducible repeat (first | apply Kd.S_alloc | apply Kd.S_drewN | apply Kd.S_drew)); exact HO_13.out⟩, ⟨by (with_reducible repeat (first | apply Kd.R_alloc | apply Kd.R_drewN | apply Kd.R_drew)); exact HO_92.out⟩, ⟨by (with_reducible repeat (first | apply Kd.S_alloc | apply Kd.S_drewN | apply Kd.S_drew)); exact HO_313000.out⟩, ⟨by (with_reducible repeat (first | refine blk_drewN ?_ _ | refine blk_drew ?_ | refine blk_alloc ?_ _)); exact BK312.out⟩, ⟨by repeat (first | (with_reducible exact HR331_0.out) | (with_reducible refine Kd.C_alloc ?_ _) | (with_reducible refine Kd.C_drewN ?_ _) | (with_reducible refine Kd.C_drew ?_) | exact HR331_0.out)⟩, ⟨by repeat (first | (with_reducible first | exact HB.out | apply below_alloc | apply pw_below_drewN | apply below_drew1 | refine below_set ?_ GE312.out) | exact HB.out)⟩⟩
                                  case round =>
                                    clear H'
                                    try clear c1
                                    try clear c2
                                    try clear p2
                                    try clear c3
                                    try clear c3b0
                                    try clear p3
                                    try clear q3
                                    try clear hx3
                                    try clear c6
                                    try clear p6
                                    try clear c13
                                    try clear c15
                                    try clear c22
                                    try clear c22b0
                                    try clear c22b1
                                    try clear c22b2
                                    try clear c23
                                    try clear c24
                                    try clear c26
                                    try clear c28
                                    try clear c30
                                    try clear c31
                                    try clear c32
                                    try clear c32b0
                                    try clear c33
                                    try clear c33b0
                                    try clear p33
                                    try clear q33
                                    try clear hx33
                                    try clear c34
                                    try clear c34b0
                                    try clear c35
                                    try clear c35b0
                                    try clear c36
                                    try clear c36b0
                                    try clear hcz13_0
                                    try clear hcz16_0
                                    try clear hcz18_0
                                    try clear hcz20_0
                                    try clear hfz13_0
                                    try clear hfz16_0
                                    try clear hfz18_0
                                    try clear hfz20_0
                                    try clear hx330_0
                                    try clear hx331_0
                                    try clear p2
                                    try clear p330
                                    try clear p331
                                    try clear p6
                                    try clear q330
                                    try clear q331
                                    obtain ⟨x103_4, rfl, HA, HK4, HO_7, HO_11, HO_13, HO_92, HO_313000, BK312, HR331_0, HB⟩ := hrel
                                    cases gk with
                                    | zero => exact absurd HA.out (by simp [laws_FnFrontiers.l1])
                                    | succ k4 =>
                                      have H := HA.out
                                      clear HA
                                      simp only [laws_FnFrontiers.l1] at H
                                      by_cases c38 : x103_4 < ((rd_L1 t321 (rd t309 x94_3)).length : Int)
                                      · rw [if_pos c38] at H
                                        have c38b0 : decide (x103_4 < ((rd_L1 t321 (rd t309 x94_3)).length : Int)) = true := decide_eq_true c38
                                        clear c38
                                        by_cases c39 : 0 ≤ x103_4
                                        · rw [if_pos c39] at H
                                          have c39b0 : decide (0 ≤ x103_4) = true := decide_eq_true c39
                                          clear c39
                                          by_cases c40 : x103_4 < ((rd_L1 t321 (rd t309 x94_3)).length : Int)
                                          · rw [if_pos c40] at H
                                            have c40b0 : decide (x103_4 < ((rd_L1 t321 (rd t309 x94_3)).length : Int)) = true := decide_eq_true c40
                                            clear c40
                                            replace H := Option.bind_eq_some_iff.mp H
                                            obtain ⟨t333, A410, H⟩ := H
                                            replace H : (if t333 = true then (if (rd t309 x94_3) = (rd (rd_L1 t321 (rd t309 x94_3)) x103_4) then (laws_FnFrontiers.l1 k4 l1 t313 t321 t325 (rd t309 x94_3) t309 (t309.length : Int) x94_3 (rd_L1 t321 (rd t309 x94_3)) ((rd_L1 t321 (rd t309 x94_3)).length : Int) (wrap64 (x103_4 + 1)) t306) else (if 0 ≤ (rd (rd_L1 t321 (rd t309 x94_3)) x103_4) then (if (rd (rd_L1 t321 (rd t309 x94_3)) x103_4) < (t325.length : Int) then ((laws_has.f k4 (rd_L1 t325 (rd (rd_L1 t321 (rd t309 x94_3)) x103_4)) (rd t309 x94_3)).bind fun t335 => (if t335 = true then (some false) else (laws_FnFrontiers.l1 k4 l1 t313 t321 t325 (rd t309 x94_3) t309 (t309.length : Int) x94_3 (rd_L1 t321 (rd t309 x94_3)) ((rd_L1 t321 (rd t309 x94_3)).length : Int) (wrap64 (x103_4 + 1)) t306))) else (none)) else (none))) else (some false)) = some r := H
                                            have A41 := Aside0.mk A410
                                            clear A410
                                            by_cases c42 : t333 = true
                                            · subst c42
                                              have H1 : (if (rd t309 x94_3) = (rd (rd_L1 t321 (rd t309 x94_3)) x103_4) then (laws_FnFrontiers.l1 k4 l1 t313 t321 t325 (rd t309 x94_3) t309 (t309.length : Int) x94_3 (rd_L1 t321 (rd t309 x94_3)) ((rd_L1 t321 (rd t309 x94_3)).length : Int) (wrap64 (x103_4 + 1)) t306) else (if 0 ≤ (rd (rd_L1 t321 (rd t309 x94_3)) x103_4) then (if (rd (rd_L1 t321 (rd t309 x94_3)) x103_4) < (t325.length : Int) then ((laws_has.f k4 (rd_L1 t325 (rd (rd_L1 t321 (rd t309 x94_3)) x103_4)) (rd t309 x94_3)).bind fun t335 => (if t335 = true then (some false) else (laws_FnFrontiers.l1 k4 l1 t313 t321 t325 (rd t309 x94_3) t309 (t309.length : Int) x94_3 (rd_L1 t321 (rd t309 x94_3)) ((rd_L1 t321 (rd t309 x94_3)).length : Int) (wrap64 (x103_4 + 1)) t306))) else (none)) else (none))) = some r := by rw [if_pos rfl] at H; exact H
                                              clear H
                                              have H := H1
                                              clear H1
                                              by_cases c43 : (rd t309 x94_3) = (rd (rd_L1 t321 (rd t309 x94_3)) x103_4)
                                              · rw [if_pos c43] at H
                                                have c43b0 : ((rd t309 x94_3) == (rd (rd_L1 t321 (rd t309 x94_3)) x103_4)) = true := beq_iff_eq.mpr c43
                                                have c43b1 : ((rd t309 x94_3) != (rd (rd_L1 t321 (rd t309 x94_3)) x103_4)) = false := bne_eq_false_iff_eq.mpr c43
                                                clear c43
                                                have H' := Aside0.mk H
                                                clear H
                                                have p332 : 0 ≤ (x103_4 : Int) := of_decide_eq_true (by first | (with_reducible assumption) | assumption)
                                                have q332 : x103_4 < ((rd_L1 t321 (rd t309 x94_3)).length : Int) := of_decide_eq_true (by first | (with_reducible assumption) | assumption)
                                                obtain ⟨ad332, e332, hx332_0⟩ := Kd.at_int HR331_0.out x103_4 p332 q332
                                                cases e332
                                                try with_reducible replace hx332_0 := (HB.out.cell (World.block_lt_of_cell? w _ hx332_0)).trans hx332_0
                                                replace p332 := eq_true p332
                                                replace q332 := eq_true q332
                                                obtain ⟨Ao44, co44, eo44⟩ := Kd.R_slice HO_7.out
                                                (first | subst eo44 | (injection eo44 with ea_ en_ ec_; (replace ea_ := ea_.symm); (replace ec_ := ec_.symm); subst ea_; subst ec_))
                                                go_wp2_with (first | ((with_reducible refine gate_callee (f := 26) rfl ?_); refine goesL_ (some 109) rfl rfl Try.func26 (by kernel_rfl) rfl #[.slice Ao44 t313.length co44, .int .i64 (rd (rd_L1 t321 (rd t309 x94_3)) x103_4)] rfl (by (try simp only [List.map_toArray, List.map_cons, List.map_nil]); first | done | rfl | (simp only [List.length_drop, List.length_take]; rfl)) ?_; (with_reducible refine (laws_has.calls k4 _ _ t313 (rd (rd_L1 t321 (rd t309 x94_3)) x103_4) true _ ?side1 ?side2 A41.out).mono ?_); (case side1 => repeat (first | exact (Kd.R_reads' HO_7.out).2.2 | (with_reducible refine Kd.C_alloc ?_ _) | (with_reducible refine Kd.C_drewN ?_ _) | (with_reducible refine Kd.C_drew ?_))); (case side2 => exact (Kd.R_reads' HO_7.out).2.1); rintro e w' ⟨rfl, ⟨nd, rfl⟩⟩; refine ⟨_, rfl, ?_⟩))
                                                go_roundg k4
                                                case measure => have := HJ8.out; have := HJ28.out; have := HK3.out; have := HK4.out; omega
                                                case rel => exact ⟨(wrap64 (x103_4 + 1)), (by first | rfl | (simp; done) | (simp [*]; done)), H', ⟨by have := HJ8.out; have := HJ28.out; have := HK3.out; have := HK4.out; omega⟩, ⟨by (with_reducible repeat (first | apply Kd.R_alloc | apply Kd.R_drewN | apply Kd.R_drew)); exact HO_7.out⟩, ⟨by (with_reducible repeat (first | apply Kd.S_alloc | apply Kd.S_drewN | apply Kd.S_drew)); exact HO_11.out⟩, ⟨by (with_reducible repeat (first | apply Kd.S_alloc | apply Kd.S_drewN | apply Kd.S_drew)); exact HO_13.out⟩, ⟨by (with_reducible repeat (first | apply Kd.R_alloc | apply Kd.R_drewN | apply Kd.R_drew)); exact HO_92.out⟩, ⟨by (with_reducible repeat (first | apply Kd.S_alloc | apply Kd.S_drewN | apply Kd.S_drew)); exact HO_313000.out⟩, ⟨by (with_reducible repeat (first | refine blk_drewN ?_ _ | refine blk_drew ?_ | refine blk_alloc ?_ _)); exact BK312.out⟩, ⟨by repeat (first | (with_reducible exact HR331_0.out) | (with_reducible refine Kd.C_alloc ?_ _) | (with_reducible refine Kd.C_drewN ?_ _) | (with_reducible refine Kd.C_drew ?_) | exact HR331_0.out)⟩, ⟨by repeat (first | (with_reducible first | exact HB.out | apply below_alloc | apply pw_below_drewN | apply below_drew1 | refine below_set ?_ GE312.out) | exact HB.out)⟩⟩
                                              · rw [if_neg c43] at H
                                                have c43b0 : ((rd t309 x94_3) == (rd (rd_L1 t321 (rd t309 x94_3)) x103_4)) = false := beq_eq_false_iff_ne.mpr c43
                                                have c43b1 : ((rd t309 x94_3) != (rd (rd_L1 t321 (rd t309 x94_3)) x103_4)) = true := bne_iff_ne.mpr c43
                                                by_cases c45 : 0 ≤ (rd (rd_L1 t321 (rd t309 x94_3)) x103_4)
                                                · rw [if_pos c45] at H
                                                  have c45b0 : decide (0 ≤ (rd (rd_L1 t321 (rd t309 x94_3)) x103_4)) = true := decide_eq_true c45
                                                  clear c45
                                                  by_cases c46 : (rd (rd_L1 t321 (rd t309 x94_3)) x103_4) < (t325.length : Int)
                                                  · rw [if_pos c46] at H
                                                    have c46b0 : decide ((rd (rd_L1 t321 (rd t309 x94_3)) x103_4) < (t325.length : Int)) = true := decide_eq_true c46
                                                    clear c46
                                                    replace H := Option.bind_eq_some_iff.mp H
                                                    obtain ⟨t335, A470, H⟩ := H
                                                    replace H : (if t335 = true then (some false) else (laws_FnFrontiers.l1 k4 l1 t313 t321 t325 (rd t309 x94_3) t309 (t309.length : Int) x94_3 (rd_L1 t321 (rd t309 x94_3)) ((rd_L1 t321 (rd t309 x94_3)).length : Int) (wrap64 (x103_4 + 1)) t306)) = some r := H
                                                    have A47 := Aside0.mk A470
                                                    clear A470
                                                    by_cases c48 : t335 = true
                                                    · subst c48
                                                      have H1 : (some false) = some r := by rw [if_pos rfl] at H; exact H
                                                      clear H
                                                      have H := H1
                                                      clear H1
                                                      exact absurd (Option.some.inj H) (by rw [hrt.out]; decide)
                                                    · replace c48 := Bool.eq_false_iff.mpr c48
                                                      subst c48
                                                      have H1 : (laws_FnFrontiers.l1 k4 l1 t313 t321 t325 (rd t309 x94_3) t309 (t309.length : Int) x94_3 (rd_L1 t321 (rd t309 x94_3)) ((rd_L1 t321 (rd t309 x94_3)).length : Int) (wrap64 (x103_4 + 1)) t306) = some r := by rw [if_neg (show ¬ (false = true) by decide)] at H; exact H
                                                      clear H
                                                      have H := H1
                                                      clear H1
                                                      have H' := Aside0.mk H
                                                      clear H
                                                      have p332 : 0 ≤ (x103_4 : Int) := of_decide_eq_true (by first | (with_reducible assumption) | assumption)
                                                      have q332 : x103_4 < ((rd_L1 t321 (rd t309 x94_3)).length : Int) := of_decide_eq_true (by first | (with_reducible assumption) | assumption)
                                                      obtain ⟨ad332, e332, hx332_0⟩ := Kd.at_int HR331_0.out x103_4 p332 q332
                                                      cases e332
                                                      try with_reducible replace hx332_0 := (HB.out.cell (World.block_lt_of_cell? w _ hx332_0)).trans hx332_0
                                                      replace p332 := eq_true p332
                                                      replace q332 := eq_true q332
                                                      obtain ⟨Ao51, co51, eo51⟩ := Kd.R_slice HO_7.out
                                                      (first | subst eo51 | (injection eo51 with ea_ en_ ec_; (replace ea_ := ea_.symm); (replace ec_ := ec_.symm); subst ea_; subst ec_))
                                                      go_wp2_with (first | ((with_reducible refine gate_callee (f := 26) rfl ?_); refine goesL_ (some 109) rfl rfl Try.func26 (by kernel_rfl) rfl #[.slice Ao51 t313.length co51, .int .i64 (rd (rd_L1 t321 (rd t309 x94_3)) x103_4)] rfl (by (try simp only [List.map_toArray, List.map_cons, List.map_nil]); first | done | rfl | (simp only [List.length_drop, List.length_take]; rfl)) ?_; (with_reducible refine (laws_has.calls k4 _ _ t313 (rd (rd_L1 t321 (rd t309 x94_3)) x103_4) true _ ?side1 ?side2 A41.out).mono ?_); (case side1 => repeat (first | exact (Kd.R_reads' HO_7.out).2.2 | (with_reducible refine Kd.C_alloc ?_ _) | (with_reducible refine Kd.C_drewN ?_ _) | (with_reducible refine Kd.C_drew ?_))); (case side2 => exact (Kd.R_reads' HO_7.out).2.1); rintro e w' ⟨rfl, ⟨nd, rfl⟩⟩; refine ⟨_, rfl, ?_⟩; obtain ⟨Ao52, co52, eo52⟩ := Kd.S_slice HO_13.out; subst eo52; have p334 : 0 ≤ ((rd (rd_L1 t321 (rd t309 x94_3)) x103_4) : Int) := of_decide_eq_true (by first | (with_reducible assumption) | assumption); have q334 : (rd (rd_L1 t321 (rd t309 x94_3)) x103_4) < (t325.length : Int) := of_decide_eq_true (by first | (with_reducible assumption) | assumption); obtain ⟨ad334, A334_0, c334_0, e334, hx334_0, hl334_0, hi334_0⟩ := at_L1 (Kd.S_reads' HO_13.out).2.2 (rd (rd_L1 t321 (rd t309 x94_3)) x103_4) p334 q334; cases e334; obtain ⟨ce334, hce334, hMe334, hcc334⟩ := Kd.S_get HO_13.out [] (rd (rd_L1 t321 (rd t309 x94_3)) x103_4) p334 (by first | exact q334 | exact of_decide_eq_true (by first | (with_reducible assumption) | assumption) | (have e_ := (Kd.S_reads' HO_13.out).1; omega)); obtain ⟨ve334_0, rfl, ge334_0⟩ := hMe334; have hv334_0 := hcc334 0 _ rfl; rw [Nat.add_zero, show ((Kd.slice 3 (Kd.int .i64))).sz = 1 from rfl, Nat.mul_one] at hv334_0; replace hv334_0 := Option.some.inj (hv334_0.symm.trans hx334_0); rw [hv334_0] at ge334_0; have HL334_0 := Aside0.mk (show Kd.R (Kd.int .i64) 3 _ _ _ _ (rd_L1 t325 (rd (rd_L1 t321 (rd t309 x94_3)) x103_4)) from ge334_0); clear hv334_0 ge334_0; clear hcc334 hce334; have HR334_0 := Aside0.mk hi334_0; have HC334_0 := Aside0.mk hl334_0; clear hi334_0 hl334_0; replace p334 := eq_true p334; replace q334 := eq_true q334) | (go_at_call 26; (with_reducible refine (laws_has.calls k4 _ _ (rd_L1 t325 (rd (rd_L1 t321 (rd t309 x94_3)) x103_4)) (rd t309 x94_3) false _ ?side1 ?side2 A47.out).mono ?_); (case side1 => repeat (first | exact (by repeat (first | (with_reducible exact HR334_0.out) | (with_reducible refine Kd.C_alloc ?_ _) | (with_reducible refine Kd.C_drewN ?_ _) | (with_reducible refine Kd.C_drew ?_) | exact HR334_0.out)) | (with_reducible refine Kd.C_alloc ?_ _) | (with_reducible refine Kd.C_drewN ?_ _) | (with_reducible refine Kd.C_drew ?_))); (case side2 => exact HC334_0.out); rintro e w' ⟨rfl, ⟨nd, rfl⟩⟩))
                                                      go_roundg k4
                                                      case measure => have := HJ8.out; have := HJ28.out; have := HK3.out; have := HK4.out; omega
                                                      case rel => exact ⟨(wrap64 (x103_4 + 1)), (by first | rfl | (simp; done) | (simp [*]; done)), H', ⟨by have := HJ8.out; have := HJ28.out; have := HK3.out; have := HK4.out; omega⟩, ⟨by (with_reducible repeat (first | apply Kd.R_alloc | apply Kd.R_drewN | apply Kd.R_drew)); exact HO_7.out⟩, ⟨by (with_reducible repeat (first | apply Kd.S_alloc | apply Kd.S_drewN | apply Kd.S_drew)); exact HO_11.out⟩, ⟨by (with_reducible repeat (first | apply Kd.S_alloc | apply Kd.S_drewN | apply Kd.S_drew)); exact HO_13.out⟩, ⟨by (with_reducible repeat (first | apply Kd.R_alloc | apply Kd.R_drewN | apply Kd.R_drew)); exact HO_92.out⟩, ⟨by (with_reducible repeat (first | apply Kd.S_alloc | apply Kd.S_drewN | apply Kd.S_drew)); exact HO_313000.out⟩, ⟨by (with_reducible repeat (first | refine blk_drewN ?_ _ | refine blk_drew ?_ | refine blk_alloc ?_ _)); exact BK312.out⟩, ⟨by repeat (first | (with_reducible exact HR331_0.out) | (with_reducible refine Kd.C_alloc ?_ _) | (with_reducible refine Kd.C_drewN ?_ _) | (with_reducible refine Kd.C_drew ?_) | exact HR331_0.out)⟩, ⟨by repeat (first | (with_reducible first | exact HB.out | apply below_alloc | apply pw_below_drewN | apply below_drew1 | refine below_set ?_ GE312.out) | exact HB.out)⟩⟩
                                                  · rw [if_neg c46] at H
                                                    exact absurd H (by simp)
                                                · rw [if_neg c45] at H
                                                  exact absurd H (by simp)
                                            · replace c42 := Bool.eq_false_iff.mpr c42
                                              subst c42
                                              have H1 : (some false) = some r := by rw [if_neg (show ¬ (false = true) by decide)] at H; exact H
                                              clear H
                                              have H := H1
                                              clear H1
                                              exact absurd (Option.some.inj H) (by rw [hrt.out]; decide)
                                          · rw [if_neg c40] at H
                                            exact absurd H (by simp)
                                        · rw [if_neg c39] at H
                                          exact absurd H (by simp)
                                      · rw [if_neg c38] at H
                                        have c38b0 : decide (x103_4 < ((rd_L1 t321 (rd t309 x94_3)).length : Int)) = false := decide_eq_false c38
                                        clear c38
                                        have H' := Aside0.mk H
                                        clear H
                                        go_wp2
                                        go_roundg k4
                                        case measure => have := HJ8.out; have := HJ28.out; have := HK3.out; have := HK4.out; omega
                                        case rel => exact ⟨(wrap64 (x94_3 + 1)), (by first | rfl | (simp; done) | (simp [*]; done)), H', ⟨by have := HJ8.out; have := HJ28.out; have := HK3.out; have := HK4.out; omega⟩, ⟨by (with_reducible repeat (first | apply Kd.R_alloc | apply Kd.R_drewN | apply Kd.R_drew)); exact HO_7.out⟩, ⟨by (with_reducible repeat (first | apply Kd.S_alloc | apply Kd.S_drewN | apply Kd.S_drew)); exact HO_11.out⟩, ⟨by (with_reducible repeat (first | apply Kd.S_alloc | apply Kd.S_drewN | apply Kd.S_drew)); exact HO_13.out⟩, ⟨by (with_reducible repeat (first | apply Kd.R_alloc | apply Kd.R_drewN | apply Kd.R_drew)); exact HO_92.out⟩, ⟨by (with_reducible repeat (first | apply Kd.S_alloc | apply Kd.S_drewN | apply Kd.S_drew)); exact HO_313000.out⟩, ⟨by (with_reducible repeat (first | refine blk_drewN ?_ _ | refine blk_drew ?_ | refine blk_alloc ?_ _)); exact BK312.out⟩, ⟨by repeat (first | (with_reducible first | exact HB.out | apply below_alloc | apply pw_below_drewN | apply below_drew1 | refine below_set ?_ GE312.out) | exact HB.out)⟩⟩
                                · rw [if_neg c36] at H
                                  exact absurd H (by simp)
                              · rw [if_neg c35] at H
                                exact absurd H (by simp)
                            · rw [if_neg c34] at H
                              exact absurd H (by simp)
                          · rw [if_neg c33] at H
                            exact absurd H (by simp)
                        · rw [if_neg c32] at H
                          have c32b0 : decide (x94_3 < (t309.length : Int)) = false := decide_eq_false c32
                          clear c32
                          have H' := Aside0.mk H
                          clear H
                          obtain ⟨Ao54, co54, eo54⟩ := Kd.R_slice HO_7.out
                          (first | subst eo54 | (injection eo54 with ea_ en_ ec_; (replace ea_ := ea_.symm); (replace ec_ := ec_.symm); subst ea_; subst ec_))
                          go_wp2
                          go_loopg [128] k3 (fun kq v128 w' => ∃ (x128_4 : Int), v128 = .int .i64 x128_4 ∧ Aside0 (laws_FnFrontiers.l2 kq l1 t313 t321 t313 (t313.length : Int) x128_4 t306 = some r) ∧ Aside0 (kq ≤ k3) ∧ Aside0 (Kd.R (Kd.int .i64) 3 w' w.heap.size (fun _ => True) (.slice Ao54 t313.length co54) t313) ∧ Aside0 (Kd.S (Kd.slice 3 (Kd.int .i64)) 32 w' w.heap.size (fun k_ => some k_ ≠ ((.slice Ao54 t313.length co54) : Value).ownBlock ∧ some k_ ≠ ((.slice Ao54 t313.length co54) : Value).ownBlock ∧ some k_ ≠ ((.slice Ao12 t306.length co12) : Value).ownBlock) v322 t321) ∧ Aside0 (Kd.R (Kd.int .i64) 3 w' w.heap.size (fun _ => True) (.slice Ao54 t313.length co54) t313) ∧ Aside0 (Kd.S (Kd.slice 3 (Kd.int .i64)) 32 w' w.heap.size (fun k_ => some k_ ≠ ((.slice Ao54 t313.length co54) : Value).ownBlock ∧ some k_ ≠ (v322 : Value).ownBlock ∧ some k_ ≠ ((.slice Ao54 t313.length co54) : Value).ownBlock) (.slice Ao12 t306.length co12) t306) ∧ Aside0 (w'.heap[gb312]? = some (.cells #[(.slice Ao12 t306.length co12)] 28 (0, 0))) ∧ Aside0 (Below w.heap.size w w'))
                          case atStart => exact ⟨(0), (by first | rfl | (simp; done) | (simp [*]; done)), H', ⟨Nat.le_refl _⟩, ⟨by (with_reducible repeat (first | apply Kd.R_alloc | apply Kd.R_drewN | apply Kd.R_drew)); exact Kd.R_mono HO_7.out (fun _ hk => trivial)⟩, ⟨by (with_reducible repeat (first | apply Kd.S_alloc | apply Kd.S_drewN | apply Kd.S_drew)); exact Kd.S_mono HO_11.out (fun _ hk => ⟨hk.1, ⟨hk.1, hk.2.2.2⟩⟩)⟩, ⟨by (with_reducible repeat (first | apply Kd.R_alloc | apply Kd.R_drewN | apply Kd.R_drew)); exact Kd.R_mono HO_7.out (fun _ hk => trivial)⟩, ⟨by (with_reducible repeat (first | apply Kd.S_alloc | apply Kd.S_drewN | apply Kd.S_drew)); exact Kd.S_mono HO_313000.out (fun _ hk => ⟨hk.1, ⟨hk.2.1, hk.1⟩⟩)⟩, ⟨by (with_reducible repeat (first | refine blk_drewN ?_ _ | refine blk_drew ?_ | refine blk_alloc ?_ _)); exact BK312.out⟩, ⟨by repeat (first | (with_reducible first | exact HB.out | apply below_alloc | apply pw_below_drewN | apply below_drew1 | refine below_set ?_ GE312.out) | exact HB.out)⟩⟩
                          case round =>
                            clear H'
                            try clear c1
                            try clear c2
                            try clear p2
                            try clear c3
                            try clear c3b0
                            try clear p3
                            try clear q3
                            try clear hx3
                            try clear c4
                            try clear c6
                            try clear p6
                            try clear c13
                            try clear c15
                            try clear c22
                            try clear c22b0
                            try clear c22b1
                            try clear c22b2
                            try clear c23
                            try clear c24
                            try clear c26
                            try clear c28
                            try clear c30
                            try clear c31
                            try clear c32
                            try clear c32b0
                            try clear c33
                            try clear c33b0
                            try clear p33
                            try clear q33
                            try clear hx33
                            try clear c34
                            try clear c34b0
                            try clear c35
                            try clear c35b0
                            try clear c36
                            try clear c36b0
                            try clear c38
                            try clear c38b0
                            try clear c39
                            try clear c39b0
                            try clear c40
                            try clear c40b0
                            try clear c42
                            try clear c43
                            try clear c43b0
                            try clear c43b1
                            try clear c45
                            try clear c45b0
                            try clear c46
                            try clear c46b0
                            try clear c48
                            try clear hcz13_0
                            try clear hcz16_0
                            try clear hcz18_0
                            try clear hcz20_0
                            try clear hfz13_0
                            try clear hfz16_0
                            try clear hfz18_0
                            try clear hfz20_0
                            try clear hx330_0
                            try clear hx331_0
                            try clear hx332_0
                            try clear hx334_0
                            try clear p2
                            try clear p3
                            try clear p33
                            try clear p330
                            try clear p331
                            try clear p332
                            try clear p334
                            try clear p6
                            try clear q3
                            try clear q33
                            try clear q330
                            try clear q331
                            try clear q332
                            try clear q334
                            obtain ⟨x128_4, rfl, HA, HK4, HO_7, HO_11, HO_126, HO_313000, BK312, HB⟩ := hrel
                            cases gk with
                            | zero => exact absurd HA.out (by simp [laws_FnFrontiers.l2])
                            | succ k4 =>
                              have H := HA.out
                              clear HA
                              simp only [laws_FnFrontiers.l2] at H
                              by_cases c55 : x128_4 < (t313.length : Int)
                              · rw [if_pos c55] at H
                                have c55b0 : decide (x128_4 < (t313.length : Int)) = true := decide_eq_true c55
                                clear c55
                                by_cases c56 : 0 ≤ x128_4
                                · rw [if_pos c56] at H
                                  have c56b0 : decide (0 ≤ x128_4) = true := decide_eq_true c56
                                  clear c56
                                  by_cases c57 : x128_4 < (t313.length : Int)
                                  · rw [if_pos c57] at H
                                    have c57b0 : decide (x128_4 < (t313.length : Int)) = true := decide_eq_true c57
                                    clear c57
                                    by_cases c58 : 0 ≤ (rd t313 x128_4)
                                    · rw [if_pos c58] at H
                                      have c58b0 : decide (0 ≤ (rd t313 x128_4)) = true := decide_eq_true c58
                                      clear c58
                                      by_cases c59 : (rd t313 x128_4) < (t321.length : Int)
                                      · rw [if_pos c59] at H
                                        have c59b0 : decide ((rd t313 x128_4) < (t321.length : Int)) = true := decide_eq_true c59
                                        clear c59
                                        have H' := Aside0.mk H
                                        clear H
                                        have p336 : 0 ≤ (x128_4 : Int) := of_decide_eq_true (by first | (with_reducible assumption) | assumption)
                                        have q336 : x128_4 < (t313.length : Int) := of_decide_eq_true (by first | (with_reducible assumption) | assumption)
                                        obtain ⟨ad336, e336, hx336_0⟩ := Kd.at_int (Kd.R_reads' HO_126.out).2.2 x128_4 p336 q336
                                        cases e336
                                        replace p336 := eq_true p336
                                        replace q336 := eq_true q336
                                        obtain ⟨Ao60, co60, eo60⟩ := Kd.S_slice HO_11.out
                                        (first | subst eo60 | (injection eo60 with ea_ en_ ec_; (replace ea_ := ea_.symm); (replace ec_ := ec_.symm); subst ea_; subst ec_))
                                        have p337 : 0 ≤ ((rd t313 x128_4) : Int) := of_decide_eq_true (by first | (with_reducible assumption) | assumption)
                                        have q337 : (rd t313 x128_4) < (t321.length : Int) := of_decide_eq_true (by first | (with_reducible assumption) | assumption)
                                        obtain ⟨ad337, A337_0, c337_0, e337, hx337_0, hl337_0, hi337_0⟩ := at_L1 (Kd.S_reads' HO_11.out).2.2 (rd t313 x128_4) p337 q337
                                        cases e337
                                        obtain ⟨ce337, hce337, hMe337, hcc337⟩ := Kd.S_get HO_11.out [] (rd t313 x128_4) p337 (by first | exact q337 | exact of_decide_eq_true (by first | (with_reducible assumption) | assumption) | (have e_ := (Kd.S_reads' HO_11.out).1; omega))
                                        obtain ⟨ve337_0, rfl, ge337_0⟩ := hMe337
                                        have hv337_0 := hcc337 0 _ rfl
                                        rw [Nat.add_zero, show ((Kd.slice 3 (Kd.int .i64))).sz = 1 from rfl, Nat.mul_one] at hv337_0
                                        replace hv337_0 := Option.some.inj (hv337_0.symm.trans hx337_0)
                                        rw [hv337_0] at ge337_0
                                        have HL337_0 := Aside0.mk (show Kd.R (Kd.int .i64) 3 _ _ _ _ (rd_L1 t321 (rd t313 x128_4)) from ge337_0)
                                        clear hv337_0 ge337_0
                                        clear hcc337 hce337
                                        have HR337_0 := Aside0.mk hi337_0
                                        have HC337_0 := Aside0.mk hl337_0
                                        clear hi337_0 hl337_0
                                        replace p337 := eq_true p337
                                        replace q337 := eq_true q337
                                        go_wp2
                                        go_loopg [137] k4 (fun kq v137 w' => ∃ (x137_5 : Int), v137 = .int .i64 x137_5 ∧ Aside0 (laws_FnFrontiers.l3 kq l1 t313 t321 t313 (t313.length : Int) x128_4 (rd_L1 t321 (rd t313 x128_4)) ((rd_L1 t321 (rd t313 x128_4)).length : Int) x137_5 t306 = some r) ∧ Aside0 (kq ≤ k4) ∧ Aside0 (Kd.R (Kd.int .i64) 3 w' w.heap.size (fun _ => True) (.slice (some ad336) t313.length co54) t313) ∧ Aside0 (Kd.S (Kd.slice 3 (Kd.int .i64)) 32 w' w.heap.size (fun k_ => some k_ ≠ ((.slice (some ad336) t313.length co54) : Value).ownBlock ∧ some k_ ≠ ((.slice (some ad336) t313.length co54) : Value).ownBlock ∧ some k_ ≠ ((.slice Ao12 t306.length co12) : Value).ownBlock) (.slice (some ad337) t321.length co60) t321) ∧ Aside0 (Kd.R (Kd.int .i64) 3 w' w.heap.size (fun _ => True) (.slice (some ad336) t313.length co54) t313) ∧ Aside0 (Kd.S (Kd.slice 3 (Kd.int .i64)) 32 w' w.heap.size (fun k_ => some k_ ≠ ((.slice (some ad336) t313.length co54) : Value).ownBlock ∧ some k_ ≠ ((.slice (some ad337) t321.length co60) : Value).ownBlock ∧ some k_ ≠ ((.slice (some ad336) t313.length co54) : Value).ownBlock) (.slice Ao12 t306.length co12) t306) ∧ Aside0 (w'.heap[gb312]? = some (.cells #[(.slice Ao12 t306.length co12)] 28 (0, 0))) ∧ Aside0 (Kd.C (Kd.int .i64) w' A337_0 (rd_L1 t321 (rd t313 x128_4)).length (rd_L1 t321 (rd t313 x128_4))) ∧ Aside0 (Below w.heap.size w w'))
                                        case atStart => exact ⟨(0), (by first | rfl | (simp; done) | (simp [*]; done)), H', ⟨Nat.le_refl _⟩, ⟨by (with_reducible repeat (first | apply Kd.R_alloc | apply Kd.R_drewN | apply Kd.R_drew)); exact HO_7.out⟩, ⟨by (with_reducible repeat (first | apply Kd.S_alloc | apply Kd.S_drewN | apply Kd.S_drew)); exact HO_11.out⟩, ⟨by (with_reducible repeat (first | apply Kd.R_alloc | apply Kd.R_drewN | apply Kd.R_drew)); exact HO_126.out⟩, ⟨by (with_reducible repeat (first | apply Kd.S_alloc | apply Kd.S_drewN | apply Kd.S_drew)); exact HO_313000.out⟩, ⟨by (with_reducible repeat (first | refine blk_drewN ?_ _ | refine blk_drew ?_ | refine blk_alloc ?_ _)); exact BK312.out⟩, ⟨by repeat (first | (with_reducible exact HR337_0.out) | (with_reducible refine Kd.C_alloc ?_ _) | (with_reducible refine Kd.C_drewN ?_ _) | (with_reducible refine Kd.C_drew ?_) | exact HR337_0.out)⟩, ⟨by repeat (first | (with_reducible first | exact HB.out | apply below_alloc | apply pw_below_drewN | apply below_drew1 | refine below_set ?_ GE312.out) | exact HB.out)⟩⟩
                                        case round =>
                                          clear H'
                                          try clear c1
                                          try clear c2
                                          try clear p2
                                          try clear c3
                                          try clear c3b0
                                          try clear p3
                                          try clear q3
                                          try clear hx3
                                          try clear c4
                                          try clear c5
                                          try clear c6
                                          try clear p6
                                          try clear c13
                                          try clear c15
                                          try clear c22
                                          try clear c22b0
                                          try clear c22b1
                                          try clear c22b2
                                          try clear c23
                                          try clear c24
                                          try clear c26
                                          try clear c28
                                          try clear c30
                                          try clear c31
                                          try clear c32
                                          try clear c32b0
                                          try clear c33
                                          try clear c33b0
                                          try clear p33
                                          try clear q33
                                          try clear hx33
                                          try clear c34
                                          try clear c34b0
                                          try clear c35
                                          try clear c35b0
                                          try clear c36
                                          try clear c36b0
                                          try clear c38
                                          try clear c38b0
                                          try clear c39
                                          try clear c39b0
                                          try clear c40
                                          try clear c40b0
                                          try clear c42
                                          try clear c43
                                          try clear c43b0
                                          try clear c43b1
                                          try clear c45
                                          try clear c45b0
                                          try clear c46
                                          try clear c46b0
                                          try clear c48
                                          try clear c55
                                          try clear c55b0
                                          try clear c56
                                          try clear c56b0
                                          try clear c57
                                          try clear c57b0
                                          try clear c58
                                          try clear c58b0
                                          try clear c59
                                          try clear c59b0
                                          try clear hcz13_0
                                          try clear hcz16_0
                                          try clear hcz18_0
                                          try clear hcz20_0
                                          try clear hfz13_0
                                          try clear hfz16_0
                                          try clear hfz18_0
                                          try clear hfz20_0
                                          try clear hx330_0
                                          try clear hx331_0
                                          try clear hx332_0
                                          try clear hx334_0
                                          try clear hx336_0
                                          try clear hx337_0
                                          try clear p2
                                          try clear p3
                                          try clear p33
                                          try clear p330
                                          try clear p331
                                          try clear p332
                                          try clear p334
                                          try clear p336
                                          try clear p337
                                          try clear p6
                                          try clear q3
                                          try clear q33
                                          try clear q330
                                          try clear q331
                                          try clear q332
                                          try clear q334
                                          try clear q336
                                          try clear q337
                                          obtain ⟨x137_5, rfl, HA, HK5, HO_7, HO_11, HO_126, HO_313000, BK312, HR337_0, HB⟩ := hrel
                                          cases gk with
                                          | zero => exact absurd HA.out (by simp [laws_FnFrontiers.l3])
                                          | succ k5 =>
                                            have H := HA.out
                                            clear HA
                                            simp only [laws_FnFrontiers.l3] at H
                                            by_cases c61 : x137_5 < ((rd_L1 t321 (rd t313 x128_4)).length : Int)
                                            · rw [if_pos c61] at H
                                              have c61b0 : decide (x137_5 < ((rd_L1 t321 (rd t313 x128_4)).length : Int)) = true := decide_eq_true c61
                                              clear c61
                                              by_cases c62 : 0 ≤ x137_5
                                              · rw [if_pos c62] at H
                                                have c62b0 : decide (0 ≤ x137_5) = true := decide_eq_true c62
                                                clear c62
                                                by_cases c63 : x137_5 < ((rd_L1 t321 (rd t313 x128_4)).length : Int)
                                                · rw [if_pos c63] at H
                                                  have c63b0 : decide (x137_5 < ((rd_L1 t321 (rd t313 x128_4)).length : Int)) = true := decide_eq_true c63
                                                  clear c63
                                                  replace H := Option.bind_eq_some_iff.mp H
                                                  obtain ⟨t339, A640, H⟩ := H
                                                  replace H : (if t339 = true then (laws_FnFrontiers.l3 k5 l1 t313 t321 t313 (t313.length : Int) x128_4 (rd_L1 t321 (rd t313 x128_4)) ((rd_L1 t321 (rd t313 x128_4)).length : Int) (wrap64 (x137_5 + 1)) t306) else (some false)) = some r := H
                                                  have A64 := Aside0.mk A640
                                                  clear A640
                                                  by_cases c65 : t339 = true
                                                  · subst c65
                                                    have H1 : (laws_FnFrontiers.l3 k5 l1 t313 t321 t313 (t313.length : Int) x128_4 (rd_L1 t321 (rd t313 x128_4)) ((rd_L1 t321 (rd t313 x128_4)).length : Int) (wrap64 (x137_5 + 1)) t306) = some r := by rw [if_pos rfl] at H; exact H
                                                    clear H
                                                    have H := H1
                                                    clear H1
                                                    have H' := Aside0.mk H
                                                    clear H
                                                    have p338 : 0 ≤ (x137_5 : Int) := of_decide_eq_true (by first | (with_reducible assumption) | assumption)
                                                    have q338 : x137_5 < ((rd_L1 t321 (rd t313 x128_4)).length : Int) := of_decide_eq_true (by first | (with_reducible assumption) | assumption)
                                                    obtain ⟨ad338, e338, hx338_0⟩ := Kd.at_int HR337_0.out x137_5 p338 q338
                                                    cases e338
                                                    try with_reducible replace hx338_0 := (HB.out.cell (World.block_lt_of_cell? w _ hx338_0)).trans hx338_0
                                                    replace p338 := eq_true p338
                                                    replace q338 := eq_true q338
                                                    go_wp2_with (first | ((with_reducible refine gate_callee (f := 26) rfl ?_); refine goesL_ (some 143) rfl rfl Try.func26 (by kernel_rfl) rfl #[.slice (some ad336) t313.length co54, .int .i64 (rd (rd_L1 t321 (rd t313 x128_4)) x137_5)] rfl (by (try simp only [List.map_toArray, List.map_cons, List.map_nil]); first | done | rfl | (simp only [List.length_drop, List.length_take]; rfl)) ?_; (with_reducible refine (laws_has.calls k5 _ _ t313 (rd (rd_L1 t321 (rd t313 x128_4)) x137_5) true _ ?side1 ?side2 A64.out).mono ?_); (case side1 => repeat (first | exact (Kd.R_reads' HO_7.out).2.2 | (with_reducible refine Kd.C_alloc ?_ _) | (with_reducible refine Kd.C_drewN ?_ _) | (with_reducible refine Kd.C_drew ?_))); (case side2 => exact (Kd.R_reads' HO_7.out).2.1); rintro e w' ⟨rfl, ⟨nd, rfl⟩⟩; refine ⟨_, rfl, ?_⟩))
                                                    go_roundg k5
                                                    case measure => have := HJ8.out; have := HJ28.out; have := HK3.out; have := HK4.out; have := HK5.out; omega
                                                    case rel => exact ⟨(wrap64 (x137_5 + 1)), (by first | rfl | (simp; done) | (simp [*]; done)), H', ⟨by have := HJ8.out; have := HJ28.out; have := HK3.out; have := HK4.out; have := HK5.out; omega⟩, ⟨by (with_reducible repeat (first | apply Kd.R_alloc | apply Kd.R_drewN | apply Kd.R_drew)); exact HO_7.out⟩, ⟨by (with_reducible repeat (first | apply Kd.S_alloc | apply Kd.S_drewN | apply Kd.S_drew)); exact HO_11.out⟩, ⟨by (with_reducible repeat (first | apply Kd.R_alloc | apply Kd.R_drewN | apply Kd.R_drew)); exact HO_126.out⟩, ⟨by (with_reducible repeat (first | apply Kd.S_alloc | apply Kd.S_drewN | apply Kd.S_drew)); exact HO_313000.out⟩, ⟨by (with_reducible repeat (first | refine blk_drewN ?_ _ | refine blk_drew ?_ | refine blk_alloc ?_ _)); exact BK312.out⟩, ⟨by repeat (first | (with_reducible exact HR337_0.out) | (with_reducible refine Kd.C_alloc ?_ _) | (with_reducible refine Kd.C_drewN ?_ _) | (with_reducible refine Kd.C_drew ?_) | exact HR337_0.out)⟩, ⟨by repeat (first | (with_reducible first | exact HB.out | apply below_alloc | apply pw_below_drewN | apply below_drew1 | refine below_set ?_ GE312.out) | exact HB.out)⟩⟩
                                                  · replace c65 := Bool.eq_false_iff.mpr c65
                                                    subst c65
                                                    have H1 : (some false) = some r := by rw [if_neg (show ¬ (false = true) by decide)] at H; exact H
                                                    clear H
                                                    have H := H1
                                                    clear H1
                                                    exact absurd (Option.some.inj H) (by rw [hrt.out]; decide)
                                                · rw [if_neg c63] at H
                                                  exact absurd H (by simp)
                                              · rw [if_neg c62] at H
                                                exact absurd H (by simp)
                                            · rw [if_neg c61] at H
                                              have c61b0 : decide (x137_5 < ((rd_L1 t321 (rd t313 x128_4)).length : Int)) = false := decide_eq_false c61
                                              clear c61
                                              have H' := Aside0.mk H
                                              clear H
                                              go_wp2
                                              go_roundg k5
                                              case measure => have := HJ8.out; have := HJ28.out; have := HK3.out; have := HK4.out; have := HK5.out; omega
                                              case rel => exact ⟨(wrap64 (x128_4 + 1)), (by first | rfl | (simp; done) | (simp [*]; done)), H', ⟨by have := HJ8.out; have := HJ28.out; have := HK3.out; have := HK4.out; have := HK5.out; omega⟩, ⟨by (with_reducible repeat (first | apply Kd.R_alloc | apply Kd.R_drewN | apply Kd.R_drew)); exact HO_7.out⟩, ⟨by (with_reducible repeat (first | apply Kd.S_alloc | apply Kd.S_drewN | apply Kd.S_drew)); exact HO_11.out⟩, ⟨by (with_reducible repeat (first | apply Kd.R_alloc | apply Kd.R_drewN | apply Kd.R_drew)); exact HO_126.out⟩, ⟨by (with_reducible repeat (first | apply Kd.S_alloc | apply Kd.S_drewN | apply Kd.S_drew)); exact HO_313000.out⟩, ⟨by (with_reducible repeat (first | refine blk_drewN ?_ _ | refine blk_drew ?_ | refine blk_alloc ?_ _)); exact BK312.out⟩, ⟨by repeat (first | (with_reducible first | exact HB.out | apply below_alloc | apply pw_below_drewN | apply below_drew1 | refine below_set ?_ GE312.out) | exact HB.out)⟩⟩
                                      · rw [if_neg c59] at H
                                        exact absurd H (by simp)
                                    · rw [if_neg c58] at H
                                      exact absurd H (by simp)
                                  · rw [if_neg c57] at H
                                    exact absurd H (by simp)
                                · rw [if_neg c56] at H
                                  exact absurd H (by simp)
                              · rw [if_neg c55] at H
                                have c55b0 : decide (x128_4 < (t313.length : Int)) = false := decide_eq_false c55
                                clear c55
                                obtain ⟨y340, hy340⟩ : ∃ y_ : List Int, y_ = (([0] : List Int)) := ⟨_, rfl⟩
                                replace H : ((impl_JoinsOf.f t306 y340).bind fun bt343 => (if bt343.2 = true then (laws_FnFrontiers.l4 k4 l1 t313 bt343.1 (bt343.1.length : Int) 0) else (some false))) = some r := by first | (rw [hy340]; with_reducible exact H) | (have H2_ := (Option.bind_some _ _).symm.trans H; rw [hy340]; with_reducible exact H2_) | (have H2_ := (Option.bind_some _ _).symm.trans H; with_reducible exact H2_) | with_reducible exact H | (rw [hy340]; exact H) | exact H
                                have Ny340 := Aside0.mk hy340
                                clear hy340
                                replace H := Option.bind_eq_some_iff.mp H
                                obtain ⟨⟨t343, t346⟩, A660, H⟩ := H
                                replace H : (if t346 = true then (laws_FnFrontiers.l4 k4 l1 t313 t343 (t343.length : Int) 0) else (some false)) = some r := H
                                have A66 := Aside0.mk A660
                                clear A660
                                by_cases c67 : t346 = true
                                · subst c67
                                  have H1 : (laws_FnFrontiers.l4 k4 l1 t313 t343 (t343.length : Int) 0) = some r := by rw [if_pos rfl] at H; exact H
                                  clear H
                                  have H := H1
                                  clear H1
                                  have H' := Aside0.mk H
                                  clear H
                                  have hcz68_0 : wr.cell? ⟨gb312, 0, none⟩ = some (.slice Ao12 t306.length co12) := (blk_cell BK312.out 0).trans rfl
                                  have hfz68_0 := blk_frozen BK312.out 0
                                  go_wp2_with (first | ((with_reducible refine gate_dst (N := 149) rfl ?_); refine Kd.R_lit (Kd.int .i64) _ 3 ?hg (N := 149) ?hd (xs := ([0] : List Int)) (inner := [.int .i64 0]) (ok := fun _ => True) (okp := fun _ => True) ?hr ?hp (fun _ hk => hk) trivial (Below.refl _ _) (Nat.le_refl _) (by simp) ?_; (case hd => rfl); (case hg => rfl); (case hr => first | (go_simp; done) | (go_simp; rfl)); (case hp => exact (Reps.one (show Kd.M (Kd.int .i64) _ _ _ 0 [.int .i64 0] from rfl) (Reps.none _ _))); intro v341 w69 ho70 hb hg_ hnew_; clear hg_ hnew_; (first | rw [← Ny340.out] at ho70 | (simp only [Int.reduceToNat] at ho70; rw [← Ny340.out] at ho70)); have n0_ := Aside0.mk (Kd.R_elder' (by (with_reducible repeat (first | apply Kd.R_alloc | apply Kd.R_drewN | apply Kd.R_drew)); exact HO_7.out) (Kd.R_base ho70) hb); have n1_ := Aside0.mk (Kd.S_elder' (by (with_reducible repeat (first | apply Kd.S_alloc | apply Kd.S_drewN | apply Kd.S_drew)); exact HO_11.out) (Kd.R_base ho70) hb); have n2_ := Aside0.mk (Kd.R_elder' (by (with_reducible repeat (first | apply Kd.R_alloc | apply Kd.R_drewN | apply Kd.R_drew)); exact HO_126.out) (Kd.R_base ho70) hb); have n3_ := Aside0.mk (Kd.S_elder' (by (with_reducible repeat (first | apply Kd.S_alloc | apply Kd.S_drewN | apply Kd.S_drew)); exact HO_313000.out) (Kd.R_base ho70) hb); have n4_ := Aside0.mk (Kd.R_lower (Kd.R_new' (Kd.R_new' ho70 (Kd.R_lt (by (with_reducible repeat (first | apply Kd.R_alloc | apply Kd.R_drewN | apply Kd.R_drew)); exact HO_7.out))) (Kd.R_lt (by (with_reducible repeat (first | apply Kd.R_alloc | apply Kd.R_drewN | apply Kd.R_drew)); exact HO_126.out))) (below_size (by repeat (first | (with_reducible first | exact HB.out | apply below_alloc | apply pw_below_drewN | apply below_drew1 | refine below_set ?_ GE312.out) | exact HB.out)))); have n5_ := Aside0.mk (blk_below (g := gb312) (o := .cells #[.slice Ao12 t306.length co12] 28 (0, 0)) (by (with_reducible repeat (first | refine blk_drewN ?_ _ | refine blk_drew ?_ | refine blk_alloc ?_ _)); exact BK312.out) hb); have n6_ := Aside0.mk (below_step (by repeat (first | (with_reducible first | exact HB.out | apply below_alloc | apply pw_below_drewN | apply below_drew1 | refine below_set ?_ GE312.out) | exact HB.out)) hb); clear HO_7; clear HO_11; clear HO_126; clear HO_313000; clear BK312; clear HB; have HO_7 := n0_; have HO_11 := n1_; have HO_126 := n2_; have HO_313000 := n3_; have HO342 := n4_; have BK312 := n5_; have HB := n6_; clear n0_ n1_ n2_ n3_ n4_ n5_ n6_; clear hb ho70; obtain ⟨Ao71, co71, eo71⟩ := Kd.R_slice HO342.out; subst eo71) | ((with_reducible refine gate_callee (f := 15) rfl ?_); refine goesL_ (some 150) rfl rfl Try.func15 (by kernel_rfl) rfl #[.agg #[.slice Ao12 t306.length co12], .slice Ao71 y340.length co71] rfl (by (try simp only [List.map_toArray, List.map_cons, List.map_nil]); first | done | rfl | (simp only [List.length_drop, List.length_take]; rfl)) ?_; (with_reducible refine (impl_JoinsOf.calls _ _ t306 _ _ y340 t343 true _ ?side1 ?side2 ?side3 ?side4 A66.out).mono ?_); (case side1 => repeat (first | exact (Kd.S_reads' HO_313000.out).2.2 | (with_reducible refine Kd.C_alloc ?_ _) | (with_reducible refine Kd.C_drewN ?_ _) | (with_reducible refine Kd.C_drew ?_))); (case side2 => exact (Kd.S_reads' HO_313000.out).2.1); (case side3 => repeat (first | exact (Kd.R_reads' HO342.out).2.2 | (with_reducible refine Kd.C_alloc ?_ _) | (with_reducible refine Kd.C_drewN ?_ _) | (with_reducible refine Kd.C_drew ?_))); (case side4 => exact (Kd.R_reads' HO342.out).2.1); rintro e w72 ⟨v344, rfl, ho0, hb⟩; refine ⟨_, rfl, ?_⟩; have n0_ := Aside0.mk (Kd.R_elder' (by (with_reducible repeat (first | apply Kd.R_alloc | apply Kd.R_drewN | apply Kd.R_drew)); exact HO_7.out) (Kd.R_base ho0) hb); have n1_ := Aside0.mk (Kd.S_elder' (by (with_reducible repeat (first | apply Kd.S_alloc | apply Kd.S_drewN | apply Kd.S_drew)); exact HO_11.out) (Kd.R_base ho0) hb); have n2_ := Aside0.mk (Kd.R_elder' (by (with_reducible repeat (first | apply Kd.R_alloc | apply Kd.R_drewN | apply Kd.R_drew)); exact HO_126.out) (Kd.R_base ho0) hb); have n3_ := Aside0.mk (Kd.S_elder' (by (with_reducible repeat (first | apply Kd.S_alloc | apply Kd.S_drewN | apply Kd.S_drew)); exact HO_313000.out) (Kd.R_base ho0) hb); have n4_ := Aside0.mk (Kd.R_elder' (by (with_reducible repeat (first | apply Kd.R_alloc | apply Kd.R_drewN | apply Kd.R_drew)); exact HO342.out) (Kd.R_base ho0) hb); have n5_ := Aside0.mk (Kd.R_lower (Kd.R_new' (Kd.R_new' (Kd.R_new' ho0 (Kd.R_lt (by (with_reducible repeat (first | apply Kd.R_alloc | apply Kd.R_drewN | apply Kd.R_drew)); exact HO_7.out))) (Kd.R_lt (by (with_reducible repeat (first | apply Kd.R_alloc | apply Kd.R_drewN | apply Kd.R_drew)); exact HO_126.out))) (Kd.R_lt (by (with_reducible repeat (first | apply Kd.R_alloc | apply Kd.R_drewN | apply Kd.R_drew)); exact HO342.out))) (below_size (by repeat (first | (with_reducible first | exact HB.out | apply below_alloc | apply pw_below_drewN | apply below_drew1 | refine below_set ?_ GE312.out) | exact HB.out)))); have n6_ := Aside0.mk (blk_below (g := gb312) (o := .cells #[.slice Ao12 t306.length co12] 28 (0, 0)) (by (with_reducible repeat (first | refine blk_drewN ?_ _ | refine blk_drew ?_ | refine blk_alloc ?_ _)); exact BK312.out) hb); have n7_ := Aside0.mk (below_step (by repeat (first | (with_reducible first | exact HB.out | apply below_alloc | apply pw_below_drewN | apply below_drew1 | refine below_set ?_ GE312.out) | exact HB.out)) hb); clear HO_7; clear HO_11; clear HO_126; clear HO_313000; clear HO342; clear BK312; clear HB; have HO_7 := n0_; have HO_11 := n1_; have HO_126 := n2_; have HO_313000 := n3_; have HO342 := n4_; have HO345 := n5_; have BK312 := n6_; have HB := n7_; clear n0_ n1_ n2_ n3_ n4_ n5_ n6_ n7_; (try clear hb); (try clear hb2); (try clear hk); (try clear hi); (try clear ho0); obtain ⟨Ao73, co73, eo73⟩ := Kd.R_slice HO345.out; subst eo73))
                                  go_loopg [157] k4 (fun kq v157 w' => ∃ (x157_5 : Int), v157 = .int .i64 x157_5 ∧ Aside0 (laws_FnFrontiers.l4 kq l1 t313 t343 (t343.length : Int) x157_5 = some r) ∧ Aside0 (kq ≤ k4) ∧ Aside0 (Kd.R (Kd.int .i64) 3 w' w.heap.size (fun k_ => some k_ ≠ ((.slice Ao73 t343.length co73) : Value).ownBlock) (.slice Ao54 t313.length co54) t313) ∧ Aside0 (Kd.R (Kd.int .i64) 3 w' w.heap.size (fun k_ => some k_ ≠ ((.slice Ao54 t313.length co54) : Value).ownBlock) (.slice Ao73 t343.length co73) t343) ∧ Aside0 (Kd.S (Kd.slice 3 (Kd.int .i64)) 32 w' w.heap.size (fun k_ => some k_ ≠ ((.slice Ao54 t313.length co54) : Value).ownBlock ∧ some k_ ≠ ((.slice Ao73 t343.length co73) : Value).ownBlock) (.slice Ao12 t306.length co12) t306) ∧ Aside0 (w'.heap[gb312]? = some (.cells #[(.slice Ao12 t306.length co12)] 28 (0, 0))) ∧ Aside0 (Below w.heap.size w w'))
                                  case atStart => exact ⟨(0), (by first | rfl | (simp; done) | (simp [*]; done)), H', ⟨Nat.le_refl _⟩, ⟨by (with_reducible repeat (first | apply Kd.R_alloc | apply Kd.R_drewN | apply Kd.R_drew)); exact Kd.R_mono HO_7.out (fun _ hk => hk.2)⟩, ⟨by (with_reducible repeat (first | apply Kd.R_alloc | apply Kd.R_drewN | apply Kd.R_drew)); exact Kd.R_mono HO345.out (fun _ hk => hk.1.1.2)⟩, ⟨by (with_reducible repeat (first | apply Kd.S_alloc | apply Kd.S_drewN | apply Kd.S_drew)); exact Kd.S_mono HO_313000.out (fun _ hk => ⟨hk.1.1.1, hk.2⟩)⟩, ⟨by (with_reducible repeat (first | refine blk_drewN ?_ _ | refine blk_drew ?_ | refine blk_alloc ?_ _)); exact BK312.out⟩, ⟨by repeat (first | (with_reducible first | exact HB.out | apply below_alloc | apply pw_below_drewN | apply below_drew1 | refine below_set ?_ GE312.out) | exact HB.out)⟩⟩
                                  case round =>
                                    clear H'
                                    try clear c1
                                    try clear c2
                                    try clear p2
                                    try clear c3
                                    try clear c3b0
                                    try clear p3
                                    try clear q3
                                    try clear hx3
                                    try clear c4
                                    try clear c5
                                    try clear c6
                                    try clear p6
                                    try clear c13
                                    try clear c15
                                    try clear c22
                                    try clear c22b0
                                    try clear c22b1
                                    try clear c22b2
                                    try clear c23
                                    try clear c24
                                    try clear c26
                                    try clear c28
                                    try clear c30
                                    try clear c31
                                    try clear c32
                                    try clear c32b0
                                    try clear c33
                                    try clear c33b0
                                    try clear p33
                                    try clear q33
                                    try clear hx33
                                    try clear c34
                                    try clear c34b0
                                    try clear c35
                                    try clear c35b0
                                    try clear c36
                                    try clear c36b0
                                    try clear c38
                                    try clear c38b0
                                    try clear c39
                                    try clear c39b0
                                    try clear c40
                                    try clear c40b0
                                    try clear c42
                                    try clear c43
                                    try clear c43b0
                                    try clear c43b1
                                    try clear c45
                                    try clear c45b0
                                    try clear c46
                                    try clear c46b0
                                    try clear c48
                                    try clear c55
                                    try clear c55b0
                                    try clear c56
                                    try clear c56b0
                                    try clear c57
                                    try clear c57b0
                                    try clear c58
                                    try clear c58b0
                                    try clear c59
                                    try clear c59b0
                                    try clear c61
                                    try clear c61b0
                                    try clear c62
                                    try clear c62b0
                                    try clear c63
                                    try clear c63b0
                                    try clear p64
                                    try clear c65
                                    try clear c67
                                    try clear hcz13_0
                                    try clear hcz16_0
                                    try clear hcz18_0
                                    try clear hcz20_0
                                    try clear hcz68_0
                                    try clear hfz13_0
                                    try clear hfz16_0
                                    try clear hfz18_0
                                    try clear hfz20_0
                                    try clear hfz68_0
                                    try clear hx330_0
                                    try clear hx331_0
                                    try clear hx332_0
                                    try clear hx334_0
                                    try clear hx336_0
                                    try clear hx337_0
                                    try clear hx338_0
                                    try clear p2
                                    try clear p3
                                    try clear p33
                                    try clear p330
                                    try clear p331
                                    try clear p332
                                    try clear p334
                                    try clear p336
                                    try clear p337
                                    try clear p338
                                    try clear p6
                                    try clear q3
                                    try clear q33
                                    try clear q330
                                    try clear q331
                                    try clear q332
                                    try clear q334
                                    try clear q336
                                    try clear q337
                                    try clear q338
                                    obtain ⟨x157_5, rfl, HA, HK5, HO_7, HO_155, HO_313000, BK312, HB⟩ := hrel
                                    cases gk with
                                    | zero => exact absurd HA.out (by simp [laws_FnFrontiers.l4])
                                    | succ k5 =>
                                      have H := HA.out
                                      clear HA
                                      simp only [laws_FnFrontiers.l4] at H
                                      by_cases c74 : x157_5 < (t343.length : Int)
                                      · rw [if_pos c74] at H
                                        have c74b0 : decide (x157_5 < (t343.length : Int)) = true := decide_eq_true c74
                                        clear c74
                                        by_cases c75 : 0 ≤ x157_5
                                        · rw [if_pos c75] at H
                                          have c75b0 : decide (0 ≤ x157_5) = true := decide_eq_true c75
                                          clear c75
                                          by_cases c76 : x157_5 < (t343.length : Int)
                                          · rw [if_pos c76] at H
                                            have c76b0 : decide (x157_5 < (t343.length : Int)) = true := decide_eq_true c76
                                            clear c76
                                            replace H := Option.bind_eq_some_iff.mp H
                                            obtain ⟨t348, A770, H⟩ := H
                                            replace H : (if t348 = true then (laws_FnFrontiers.l4 k5 l1 t313 t343 (t343.length : Int) (wrap64 (x157_5 + 1))) else (some false)) = some r := H
                                            have A77 := Aside0.mk A770
                                            clear A770
                                            by_cases c78 : t348 = true
                                            · subst c78
                                              have H1 : (laws_FnFrontiers.l4 k5 l1 t313 t343 (t343.length : Int) (wrap64 (x157_5 + 1))) = some r := by rw [if_pos rfl] at H; exact H
                                              clear H
                                              have H := H1
                                              clear H1
                                              have H' := Aside0.mk H
                                              clear H
                                              have p347 : 0 ≤ (x157_5 : Int) := of_decide_eq_true (by first | (with_reducible assumption) | assumption)
                                              have q347 : x157_5 < (t343.length : Int) := of_decide_eq_true (by first | (with_reducible assumption) | assumption)
                                              obtain ⟨ad347, e347, hx347_0⟩ := Kd.at_int (Kd.R_reads' HO_155.out).2.2 x157_5 p347 q347
                                              cases e347
                                              replace p347 := eq_true p347
                                              replace q347 := eq_true q347
                                              go_wp2_with (first | ((with_reducible refine gate_callee (f := 26) rfl ?_); refine goesL_ (some 163) rfl rfl Try.func26 (by kernel_rfl) rfl #[.slice Ao54 t313.length co54, .int .i64 (rd t343 x157_5)] rfl (by (try simp only [List.map_toArray, List.map_cons, List.map_nil]); first | done | rfl | (simp only [List.length_drop, List.length_take]; rfl)) ?_; (with_reducible refine (laws_has.calls k5 _ _ t313 (rd t343 x157_5) true _ ?side1 ?side2 A77.out).mono ?_); (case side1 => repeat (first | exact (Kd.R_reads' HO_7.out).2.2 | (with_reducible refine Kd.C_alloc ?_ _) | (with_reducible refine Kd.C_drewN ?_ _) | (with_reducible refine Kd.C_drew ?_))); (case side2 => exact (Kd.R_reads' HO_7.out).2.1); rintro e w' ⟨rfl, ⟨nd, rfl⟩⟩; refine ⟨_, rfl, ?_⟩))
                                              go_roundg k5
                                              case measure => have := HJ8.out; have := HJ28.out; have := HK3.out; have := HK4.out; have := HK5.out; omega
                                              case rel => exact ⟨(wrap64 (x157_5 + 1)), (by first | rfl | (simp; done) | (simp [*]; done)), H', ⟨by have := HJ8.out; have := HJ28.out; have := HK3.out; have := HK4.out; have := HK5.out; omega⟩, ⟨by (with_reducible repeat (first | apply Kd.R_alloc | apply Kd.R_drewN | apply Kd.R_drew)); exact HO_7.out⟩, ⟨by (with_reducible repeat (first | apply Kd.R_alloc | apply Kd.R_drewN | apply Kd.R_drew)); exact HO_155.out⟩, ⟨by (with_reducible repeat (first | apply Kd.S_alloc | apply Kd.S_drewN | apply Kd.S_drew)); exact HO_313000.out⟩, ⟨by (with_reducible repeat (first | refine blk_drewN ?_ _ | refine blk_drew ?_ | refine blk_alloc ?_ _)); exact BK312.out⟩, ⟨by repeat (first | (with_reducible first | exact HB.out | apply below_alloc | apply pw_below_drewN | apply below_drew1 | refine below_set ?_ GE312.out) | exact HB.out)⟩⟩
                                            · replace c78 := Bool.eq_false_iff.mpr c78
                                              subst c78
                                              have H1 : (some false) = some r := by rw [if_neg (show ¬ (false = true) by decide)] at H; exact H
                                              clear H
                                              have H := H1
                                              clear H1
                                              exact absurd (Option.some.inj H) (by rw [hrt.out]; decide)
                                          · rw [if_neg c76] at H
                                            exact absurd H (by simp)
                                        · rw [if_neg c75] at H
                                          exact absurd H (by simp)
                                      · rw [if_neg c74] at H
                                        have c74b0 : decide (x157_5 < (t343.length : Int)) = false := decide_eq_false c74
                                        clear c74
                                        have H' := Aside0.mk H
                                        clear H
                                        go_wp2
                                        go_meet
                                        case rel => exact ⟨_, H', ⟨by have := HJ8.out; have := HJ28.out; have := HK3.out; have := HK4.out; have := HK5.out; first | omega | exact Nat.le_refl _⟩, ⟨by (with_reducible repeat (first | apply Kd.S_alloc | apply Kd.S_drewN | apply Kd.S_drew)); exact Kd.S_mono HO_313000.out (fun _ hk => trivial)⟩, ⟨by (with_reducible repeat (first | refine blk_drewN ?_ _ | refine blk_drew ?_ | refine blk_alloc ?_ _)); exact BK312.out⟩, ⟨by repeat (first | (with_reducible first | exact HB.out | apply below_alloc | apply pw_below_drewN | apply below_drew1 | refine below_set ?_ GE312.out) | exact HB.out)⟩⟩
                                · replace c67 := Bool.eq_false_iff.mpr c67
                                  subst c67
                                  have H1 : (some false) = some r := by rw [if_neg (show ¬ (false = true) by decide)] at H; exact H
                                  clear H
                                  have H := H1
                                  clear H1
                                  exact absurd (Option.some.inj H) (by rw [hrt.out]; decide)
            · replace c28 := Bool.eq_false_iff.mpr c28
              subst c28
              have H1 : (laws_FnFrontiers.j7 kj8 l1) = some r := by rw [if_neg (show ¬ (false = true) by decide)] at H; exact H
              clear H
              have H := H1
              clear H1
              have H' := Aside0.mk H
              clear H
              go_wp2
              go_meet
              case rel => exact ⟨_, H', ⟨by have := HJ8.out; first | omega | exact Nat.le_refl _⟩, ⟨by (with_reducible repeat (first | apply Kd.S_alloc | apply Kd.S_drewN | apply Kd.S_drew)); exact Kd.S_mono HO_313000.out (fun _ hk => trivial)⟩, ⟨by (with_reducible repeat (first | refine blk_drewN ?_ _ | refine blk_drew ?_ | refine blk_alloc ?_ _)); exact BK312.out⟩, ⟨by repeat (first | (with_reducible first | exact HB.out | apply below_alloc | apply pw_below_drewN | apply below_drew1 | refine below_set ?_ GE312.out) | exact HB.out)⟩⟩
          case rest =>
            clear HC27
            try clear c1
            try clear c2
            try clear p2
            try clear c3
            try clear c3b0
            try clear p3
            try clear q3
            try clear hx3
            try clear c4
            try clear c5
            try clear c6
            try clear p6
            try clear c7
            try clear c13
            try clear c15
            try clear c22
            try clear c22b0
            try clear c22b1
            try clear c22b2
            try clear c23
            try clear c24
            try clear c26
            try clear c28
            try clear c30
            try clear c31
            try clear c32
            try clear c32b0
            try clear c33
            try clear c33b0
            try clear p33
            try clear q33
            try clear hx33
            try clear c34
            try clear c34b0
            try clear p34
            try clear q34
            try clear hx34
            try clear c35
            try clear c35b0
            try clear c36
            try clear c36b0
            try clear c38
            try clear c38b0
            try clear c39
            try clear c39b0
            try clear c40
            try clear c40b0
            try clear c42
            try clear c43
            try clear c43b0
            try clear c43b1
            try clear c45
            try clear c45b0
            try clear c46
            try clear c46b0
            try clear c48
            try clear c55
            try clear c55b0
            try clear c56
            try clear c56b0
            try clear c57
            try clear c57b0
            try clear c58
            try clear c58b0
            try clear c59
            try clear c59b0
            try clear c61
            try clear c61b0
            try clear c62
            try clear c62b0
            try clear c63
            try clear c63b0
            try clear p64
            try clear c65
            try clear c67
            try clear c74
            try clear c74b0
            try clear c75
            try clear c75b0
            try clear c76
            try clear c76b0
            try clear c78
            try clear hcz13_0
            try clear hcz16_0
            try clear hcz18_0
            try clear hcz20_0
            try clear hcz68_0
            try clear hcz79_0
            try clear hfz13_0
            try clear hfz16_0
            try clear hfz18_0
            try clear hfz20_0
            try clear hfz68_0
            try clear hfz79_0
            try clear hx330_0
            try clear hx331_0
            try clear hx332_0
            try clear hx334_0
            try clear hx336_0
            try clear hx337_0
            try clear hx338_0
            try clear hx347_0
            try clear p2
            try clear p3
            try clear p33
            try clear p330
            try clear p331
            try clear p332
            try clear p334
            try clear p336
            try clear p337
            try clear p338
            try clear p347
            try clear p6
            try clear p64
            try clear q3
            try clear q33
            try clear q330
            try clear q331
            try clear q332
            try clear q334
            try clear q336
            try clear q337
            try clear q338
            try clear q347
            obtain ⟨kq, HA, HJ26, HO_313000, BK312, HB⟩ := hcut
            cases kq with
            | zero => exact absurd HA.out (by simp [laws_FnFrontiers.j7])
            | succ kj26 =>
              have H := HA.out
              clear HA
              simp only [laws_FnFrontiers.j7] at H
              replace H := Option.bind_eq_some_iff.mp H
              obtain ⟨⟨t349, t352, t353⟩, A840, H⟩ := H
              replace H : ((impl_MeetingOf.f t349 t352 t353).bind fun bt355 => ((spec_MeetingOf.f kj26 t349 t352 t353).bind fun bt357 => ((spec_DrawIsStrict.f kj26 l1).bind fun bt359 => ((impl_IsStrict.f bt359.1 bt359.2.1 bt359.2.2).bind fun bt369 => ((spec_IsStrict.f kj26 bt359.1 bt359.2.1 bt359.2.2).bind fun bt371 => (if (bt355.2 != bt357.2) = true then (some false) else (if (bt355.1 != bt357.1) = true then (some false) else (if (bt369.2 != bt371.2) = true then (some false) else (if (bt369.1 != bt371.1) = true then (some false) else ((impl_MeetingOf.f t349 t353 t352).bind fun bt373 => (if (bt373.2 == bt355.2) = true then (some (bt373.1 == bt355.1)) else (some false)))))))))))) = some r := H
              have A84 := Aside0.mk A840
              clear A840
              replace H := Option.bind_eq_some_iff.mp H
              obtain ⟨⟨t355, t356⟩, A850, H⟩ := H
              replace H : ((spec_MeetingOf.f kj26 t349 t352 t353).bind fun bt357 => ((spec_DrawIsStrict.f kj26 l1).bind fun bt359 => ((impl_IsStrict.f bt359.1 bt359.2.1 bt359.2.2).bind fun bt369 => ((spec_IsStrict.f kj26 bt359.1 bt359.2.1 bt359.2.2).bind fun bt371 => (if (t356 != bt357.2) = true then (some false) else (if (t355 != bt357.1) = true then (some false) else (if (bt369.2 != bt371.2) = true then (some false) else (if (bt369.1 != bt371.1) = true then (some false) else ((impl_MeetingOf.f t349 t353 t352).bind fun bt373 => (if (bt373.2 == t356) = true then (some (bt373.1 == t355)) else (some false))))))))))) = some r := H
              have A85 := Aside0.mk A850
              clear A850
              replace H := Option.bind_eq_some_iff.mp H
              obtain ⟨⟨t357, t358⟩, A860, H⟩ := H
              replace H : ((spec_DrawIsStrict.f kj26 l1).bind fun bt359 => ((impl_IsStrict.f bt359.1 bt359.2.1 bt359.2.2).bind fun bt369 => ((spec_IsStrict.f kj26 bt359.1 bt359.2.1 bt359.2.2).bind fun bt371 => (if (t356 != t358) = true then (some false) else (if (t355 != t357) = true then (some false) else (if (bt369.2 != bt371.2) = true then (some false) else (if (bt369.1 != bt371.1) = true then (some false) else ((impl_MeetingOf.f t349 t353 t352).bind fun bt373 => (if (bt373.2 == t356) = true then (some (bt373.1 == t355)) else (some false)))))))))) = some r := H
              have A86 := Aside0.mk A860
              clear A860
              replace H := Option.bind_eq_some_iff.mp H
              obtain ⟨⟨t359, t362, t365⟩, A870, H⟩ := H
              replace H : ((impl_IsStrict.f t359 t362 t365).bind fun bt369 => ((spec_IsStrict.f kj26 t359 t362 t365).bind fun bt371 => (if (t356 != t358) = true then (some false) else (if (t355 != t357) = true then (some false) else (if (bt369.2 != bt371.2) = true then (some false) else (if (bt369.1 != bt371.1) = true then (some false) else ((impl_MeetingOf.f t349 t353 t352).bind fun bt373 => (if (bt373.2 == t356) = true then (some (bt373.1 == t355)) else (some false))))))))) = some r := H
              have A87 := Aside0.mk A870
              clear A870
              replace H := Option.bind_eq_some_iff.mp H
              obtain ⟨⟨t369, t370⟩, A880, H⟩ := H
              replace H : ((spec_IsStrict.f kj26 t359 t362 t365).bind fun bt371 => (if (t356 != t358) = true then (some false) else (if (t355 != t357) = true then (some false) else (if (t370 != bt371.2) = true then (some false) else (if (t369 != bt371.1) = true then (some false) else ((impl_MeetingOf.f t349 t353 t352).bind fun bt373 => (if (bt373.2 == t356) = true then (some (bt373.1 == t355)) else (some false)))))))) = some r := H
              have A88 := Aside0.mk A880
              clear A880
              replace H := Option.bind_eq_some_iff.mp H
              obtain ⟨⟨t371, t372⟩, A890, H⟩ := H
              replace H : (if (t356 != t358) = true then (some false) else (if (t355 != t357) = true then (some false) else (if (t370 != t372) = true then (some false) else (if (t369 != t371) = true then (some false) else ((impl_MeetingOf.f t349 t353 t352).bind fun bt373 => (if (bt373.2 == t356) = true then (some (bt373.1 == t355)) else (some false))))))) = some r := H
              have A89 := Aside0.mk A890
              clear A890
              by_cases c90 : (t356 != t358) = true
              · rw [if_pos c90] at H
                have c90b0 : (t356 != t358) = true := c90
                (try (have c90b1 : decide (t356 = t358) = false := by simpa using c90))
                (try (have c90b2 : (t356 == t358) = false := by simpa using c90))
                (try (have c90b3 : ¬ (t356 = t358) := by simpa using c90))
                clear c90
                exact absurd (Option.some.inj H) (by rw [hrt.out]; decide)
              · rw [if_neg c90] at H
                have c90b0 : (t356 != t358) = false := by simpa using c90
                (try (have c90b1 : decide (t356 = t358) = true := by simpa using c90))
                (try (have c90b2 : (t356 == t358) = true := by simpa using c90))
                clear c90
                by_cases c110 : (t355 != t357) = true
                · rw [if_pos c110] at H
                  have c110b0 : (t355 != t357) = true := c110
                  (try (have c110b1 : decide (t355 = t357) = false := by simpa using c110))
                  (try (have c110b2 : (t355 == t357) = false := by simpa using c110))
                  (try (have c110b3 : ¬ (t355 = t357) := by simpa using c110))
                  clear c110
                  exact absurd (Option.some.inj H) (by rw [hrt.out]; decide)
                · rw [if_neg c110] at H
                  have c110b0 : (t355 != t357) = false := by simpa using c110
                  (try (have c110b1 : decide (t355 = t357) = true := by simpa using c110))
                  (try (have c110b2 : (t355 == t357) = true := by simpa using c110))
                  clear c110
                  by_cases c130 : (t370 != t372) = true
                  · rw [if_pos c130] at H
                    have c130b0 : (t370 != t372) = true := c130
                    (try (have c130b1 : decide (t370 = t372) = false := by simpa using c130))
                    (try (have c130b2 : (t370 == t372) = false := by simpa using c130))
                    (try (have c130b3 : ¬ (t370 = t372) := by simpa using c130))
                    clear c130
                    exact absurd (Option.some.inj H) (by rw [hrt.out]; decide)
                  · rw [if_neg c130] at H
                    have c130b0 : (t370 != t372) = false := by simpa using c130
                    (try (have c130b1 : decide (t370 = t372) = true := by simpa using c130))
                    (try (have c130b2 : (t370 == t372) = true := by simpa using c130))
                    clear c130
                    by_cases c150 : (t369 != t371) = true
                    · rw [if_pos c150] at H
                      have c150b0 : (t369 != t371) = true := c150
                      (try (have c150b1 : decide (t369 = t371) = false := by simpa using c150))
                      (try (have c150b2 : (t369 == t371) = false := by simpa using c150))
                      (try (have c150b3 : ¬ (t369 = t371) := by simpa using c150))
                      clear c150
                      exact absurd (Option.some.inj H) (by rw [hrt.out]; decide)
                    · rw [if_neg c150] at H
                      have c150b0 : (t369 != t371) = false := by simpa using c150
                      (try (have c150b1 : decide (t369 = t371) = true := by simpa using c150))
                      (try (have c150b2 : (t369 == t371) = true := by simpa using c150))
                      clear c150
                      replace H := Option.bind_eq_some_iff.mp H
                      obtain ⟨⟨t373, t374⟩, A1700, H⟩ := H
                      replace H : (if (t374 == t356) = true then (some (t373 == t355)) else (some false)) = some r := H
                      have A170 := Aside0.mk A1700
                      clear A1700
                      by_cases c171 : (t374 == t356) = true
                      · rw [if_pos c171] at H
                        have c171b0 : (t374 == t356) = true := c171
                        (try (have c171b1 : decide (t374 = t356) = true := by simpa using c171))
                        (try (have c171b2 : (t374 == t356) = true := by simpa using c171))
                        clear c171
                        obtain rfl := Option.some.inj H
                        go_wp2_with (first | ((with_reducible refine gate_callee (f := 27) rfl ?_); refine goesL_ (some 168) rfl rfl Try.func27 (by kernel_rfl) rfl #[.slice A1 l1.length c1] rfl (by (try simp only [List.map_toArray, List.map_cons, List.map_nil]); first | done | rfl | (simp only [List.length_drop, List.length_take]; rfl)) ?_; (with_reducible refine (spec_DrawMeetingOf.calls kj26 _ _ l1 t349 t352 t353 _ ?side1 ?side2 A84.out).mono ?_); (case side1 => repeat (first | exact (Kd.C_below HR1.out HB.out) | (with_reducible refine Kd.C_alloc ?_ _) | (with_reducible refine Kd.C_drewN ?_ _) | (with_reducible refine Kd.C_drew ?_))); (case side2 => exact HC1.out); rintro e w172 ⟨v350, rfl, ho0, hb⟩; refine ⟨_, rfl, ?_⟩; have n0_ := Aside0.mk (Kd.S_elder' (by (with_reducible repeat (first | apply Kd.S_alloc | apply Kd.S_drewN | apply Kd.S_drew)); exact HO_313000.out) (Kd.S_base ho0) hb); have n1_ := Aside0.mk (Kd.S_lower (Kd.S_new' ho0 (Kd.S_lt (by (with_reducible repeat (first | apply Kd.S_alloc | apply Kd.S_drewN | apply Kd.S_drew)); exact HO_313000.out))) (below_size (by repeat (first | (with_reducible first | exact HB.out | apply below_alloc | apply pw_below_drewN | apply below_drew1 | refine below_set ?_ GE312.out) | exact HB.out)))); have n2_ := Aside0.mk (blk_below (g := gb312) (o := .cells #[.slice Ao12 t306.length co12] 28 (0, 0)) (by (with_reducible repeat (first | refine blk_drewN ?_ _ | refine blk_drew ?_ | refine blk_alloc ?_ _)); exact BK312.out) hb); have n3_ := Aside0.mk (below_step (by repeat (first | (with_reducible first | exact HB.out | apply below_alloc | apply pw_below_drewN | apply below_drew1 | refine below_set ?_ GE312.out) | exact HB.out)) hb); clear HO_313000; clear BK312; clear HB; have HO_313000 := n0_; have HO351 := n1_; have BK312 := n2_; have HB := n3_; clear n0_ n1_ n2_ n3_; (try clear hb); (try clear hb2); (try clear hk); (try clear hi); (try clear ho0)) | ((with_reducible refine gate_dst (N := 27) rfl ?_); refine box_event ?hg (N := 27) ?hd (cs := #[.slice none 0 0]) (t := 28) ?hr ?_; (case hd => rfl); (case hg => rfl); (case hr => first | (go_simp; done) | (go_simp; rfl)); intro gb354 hg w173 hbox hb; have n0_ := Aside0.mk (Kd.S_below (by (with_reducible repeat (first | apply Kd.S_alloc | apply Kd.S_drewN | apply Kd.S_drew)); exact HO_313000.out) hb); have n1_ := Aside0.mk (Kd.S_below (by (with_reducible repeat (first | apply Kd.S_alloc | apply Kd.S_drewN | apply Kd.S_drew)); exact HO351.out) hb); have n2_ := Aside0.mk (blk_below (g := gb312) (o := .cells #[.slice Ao12 t306.length co12] 28 (0, 0)) (by (with_reducible repeat (first | refine blk_drewN ?_ _ | refine blk_drew ?_ | refine blk_alloc ?_ _)); exact BK312.out) hb); have n3_ := Aside0.mk (below_step (by repeat (first | (with_reducible first | exact HB.out | apply below_alloc | apply pw_below_drewN | apply below_drew1 | refine below_set ?_ GE312.out) | exact HB.out)) hb); have n4_ := Aside0.mk (hbox); have n5_ := Aside0.mk ((by rw [hg]; exact (below_size (by repeat (first | (with_reducible first | exact HB.out | apply below_alloc | apply pw_below_drewN | apply below_drew1 | refine below_set ?_ GE312.out) | exact HB.out))) : w.heap.size ≤ gb354)); have n6_ := Aside0.mk ((by rw [hg]; exact (below_size (by repeat (first | (with_reducible first | exact HB.out | apply below_alloc | apply pw_below_drewN | apply below_drew1 | refine below_set ?_ GE312.out) | exact HB.out))) : w.heap.size ≤ gb354)); have n7_ := Aside0.mk ((by rw [hg]; exact Nat.ne_of_lt (blk_lt (g := gb312) (o := .cells #[.slice Ao12 t306.length co12] 28 (0, 0)) (by (with_reducible repeat (first | refine blk_drewN ?_ _ | refine blk_drew ?_ | refine blk_alloc ?_ _)); exact BK312.out)) : gb312 ≠ gb354)); have n8_ := Aside0.mk ((by rw [hg]; exact Nat.ne_of_gt (blk_lt (g := gb312) (o := .cells #[.slice Ao12 t306.length co12] 28 (0, 0)) (by (with_reducible repeat (first | refine blk_drewN ?_ _ | refine blk_drew ?_ | refine blk_alloc ?_ _)); exact BK312.out)) : gb354 ≠ gb312)); clear HO_313000; clear HO351; clear BK312; clear HB; have HO_313000 := n0_; have HO351 := n1_; have BK312 := n2_; have HB := n3_; have BK354 := n4_; have GW354 := n5_; have GE354 := n6_; have NB312_354 := n7_; have NB354_312 := n8_; clear n0_ n1_ n2_ n3_ n4_ n5_ n6_ n7_ n8_; clear hb hbox hg; obtain ⟨Ao174, co174, eo174⟩ := Kd.S_slice HO351.out; subst eo174; have hnb175 := NB354_312.out; have hnc175 := NB312_354.out; have hcz176_0 : w173.cell? ⟨gb354, 0, none⟩ = some (.slice none 0 0) := (blk_cell BK354.out 0).trans rfl; have hfz176_0 := blk_frozen BK354.out 0) | ((with_reducible refine gate_callee (f := 11) rfl ?_); refine goesL_ (some 176) rfl rfl Try.func11 (by kernel_rfl) rfl #[.agg #[.slice Ao174 t349.length co174], .int .i64 t352, .int .i64 t353] rfl (by (try simp only [List.map_toArray, List.map_cons, List.map_nil]); first | done | rfl | (simp only [List.length_drop, List.length_take]; rfl)) ?_; (with_reducible refine (impl_MeetingOf.calls _ _ t349 t352 t353 t355 t356 _ ?side1 ?side2 A85.out).mono ?_); (case side1 => refine (Kd.S_reads' (e := 32) (base := w.heap.size) (ok := fun k_ => (True ∧ some k_ ≠ (.slice Ao12 t306.length co12 : Value).ownBlock)) (n := t349.length) (c := co174) ?_).2.2; exact (by (with_reducible repeat (first | apply Kd.S_alloc | apply Kd.S_drewN | apply Kd.S_drew)); exact (Kd.S_mono (Kd.S_far (p := ⟨gb354, 0, none⟩) (Kd.S_types HO351.out BK354.out (by decide)) (fun _ hk => hk.2) (.slice Ao174 t349.length co174)) (fun _ h_ => h_.1)))); (case side2 => exact (Kd.S_reads' HO351.out).2.1); rintro e w177 ⟨rfl, hb⟩; refine ⟨_, rfl, ?_⟩; have n0_ := Aside0.mk (Kd.S_below (by (with_reducible repeat (first | apply Kd.S_alloc | apply Kd.S_drewN | apply Kd.S_drew)); exact (Kd.S_mono (Kd.S_far (p := ⟨gb354, 0, none⟩) (Kd.S_types HO_313000.out BK354.out (by decide)) (fun _ hk => hk.2) (.slice Ao174 t349.length co174)) (fun _ h_ => h_.1))) hb); have n1_ := Aside0.mk (Kd.S_below (by (with_reducible repeat (first | apply Kd.S_alloc | apply Kd.S_drewN | apply Kd.S_drew)); exact (Kd.S_mono (Kd.S_far (p := ⟨gb354, 0, none⟩) (Kd.S_types HO351.out BK354.out (by decide)) (fun _ hk => hk.2) (.slice Ao174 t349.length co174)) (fun _ h_ => h_.1))) hb); have n2_ := Aside0.mk (blk_below (g := gb312) (o := .cells #[.slice Ao12 t306.length co12] 28 (0, 0)) (by (with_reducible repeat (first | refine blk_drewN ?_ _ | refine blk_drew ?_ | refine blk_alloc ?_ _)); refine blk_far ?_ NB312_354.out _; (with_reducible repeat (first | refine blk_drewN ?_ _ | refine blk_drew ?_ | refine blk_alloc ?_ _)); exact BK312.out) hb); have n3_ := Aside0.mk (blk_below (g := gb354) (o := .cells #[.slice Ao174 t349.length co174] 28 (0, 0)) (by (with_reducible repeat (first | refine blk_drewN ?_ _ | refine blk_drew ?_ | refine blk_alloc ?_ _)); refine blk_put (cs := #[.slice none 0 0]) ?_ 0 _ rfl; (with_reducible repeat (first | refine blk_drewN ?_ _ | refine blk_drew ?_ | refine blk_alloc ?_ _)); exact BK354.out) hb); have n4_ := Aside0.mk (below_step (by repeat (first | (with_reducible first | exact HB.out | apply below_alloc | apply pw_below_drewN | apply below_drew1 | refine below_set ?_ GE312.out | refine below_set ?_ GE354.out) | exact HB.out)) hb); clear HO_313000; clear HO351; clear BK312; clear BK354; clear HB; have HO_313000 := n0_; have HO351 := n1_; have BK312 := n2_; have BK354 := n3_; have HB := n4_; clear n0_ n1_ n2_ n3_ n4_; (try clear hb); (try clear hb2); (try clear hk); (try clear hi); have hcz178_0 : w177.cell? ⟨gb354, 0, none⟩ = some (.slice Ao174 t349.length co174) := (blk_cell BK354.out 0).trans rfl; have hfz178_0 := blk_frozen BK354.out 0) | ((with_reducible refine gate_callee (f := 9) rfl ?_); refine goesL_ (some 183) rfl rfl Try.func9 (by kernel_rfl) rfl #[.agg #[.slice Ao174 t349.length co174], .int .i64 t352, .int .i64 t353] rfl (by (try simp only [List.map_toArray, List.map_cons, List.map_nil]); first | done | rfl | (simp only [List.length_drop, List.length_take]; rfl)) ?_; (with_reducible refine (spec_MeetingOf.calls kj26 _ _ t349 t352 t353 t357 t358 _ ?side1 ?side2 A86.out).mono ?_); (case side1 => repeat (first | exact (Kd.S_reads' HO351.out).2.2 | (with_reducible refine Kd.C_alloc ?_ _) | (with_reducible refine Kd.C_drewN ?_ _) | (with_reducible refine Kd.C_drew ?_))); (case side2 => exact (Kd.S_reads' HO351.out).2.1); rintro e w179 ⟨rfl, hb⟩; refine ⟨_, rfl, ?_⟩; have n0_ := Aside0.mk (Kd.S_below (by (with_reducible repeat (first | apply Kd.S_alloc | apply Kd.S_drewN | apply Kd.S_drew)); exact HO_313000.out) hb); have n1_ := Aside0.mk (Kd.S_below (by (with_reducible repeat (first | apply Kd.S_alloc | apply Kd.S_drewN | apply Kd.S_drew)); exact HO351.out) hb); have n2_ := Aside0.mk (blk_below (g := gb312) (o := .cells #[.slice Ao12 t306.length co12] 28 (0, 0)) (by (with_reducible repeat (first | refine blk_drewN ?_ _ | refine blk_drew ?_ | refine blk_alloc ?_ _)); exact BK312.out) hb); have n3_ := Aside0.mk (blk_below (g := gb354) (o := .cells #[.slice Ao174 t349.length co174] 28 (0, 0)) (by (with_reducible repeat (first | refine blk_drewN ?_ _ | refine blk_drew ?_ | refine blk_alloc ?_ _)); exact BK354.out) hb); have n4_ := Aside0.mk (below_step (by repeat (first | (with_reducible first | exact HB.out | apply below_alloc | apply pw_below_drewN | apply below_drew1 | refine below_set ?_ GE312.out | refine below_set ?_ GE354.out) | exact HB.out)) hb); clear HO_313000; clear HO351; clear BK312; clear BK354; clear HB; have HO_313000 := n0_; have HO351 := n1_; have BK312 := n2_; have BK354 := n3_; have HB := n4_; clear n0_ n1_ n2_ n3_ n4_; (try clear hb); (try clear hb2); (try clear hk); (try clear hi)) | ((with_reducible refine gate_callee (f := 28) rfl ?_); refine goesL_ (some 188) rfl rfl Try.func28 (by kernel_rfl) rfl #[.slice A1 l1.length c1] rfl (by (try simp only [List.map_toArray, List.map_cons, List.map_nil]); first | done | rfl | (simp only [List.length_drop, List.length_take]; rfl)) ?_; (with_reducible refine (spec_DrawIsStrict.calls kj26 _ _ l1 t359 t362 t365 _ ?side1 ?side2 A87.out).mono ?_); (case side1 => repeat (first | exact (Kd.C_below HR1.out HB.out) | (with_reducible refine Kd.C_alloc ?_ _) | (with_reducible refine Kd.C_drewN ?_ _) | (with_reducible refine Kd.C_drew ?_))); (case side2 => exact HC1.out); rintro e w180 ⟨v360, v363, v366, rfl, ho0, ho1, ho2, hb⟩; refine ⟨_, rfl, ?_⟩; have n0_ := Aside0.mk (Kd.S_mono (Kd.S_told (Kd.S_told (Kd.S_told (Kd.S_old (by (with_reducible repeat (first | apply Kd.S_alloc | apply Kd.S_drewN | apply Kd.S_drew)); exact HO_313000.out) hb) (Kd.S_base ho0)) (Kd.R_base ho1)) (Kd.R_base ho2)) (fun _ h_ => h_.1)); have n1_ := Aside0.mk (Kd.S_mono (Kd.S_told (Kd.S_told (Kd.S_told (Kd.S_old (by (with_reducible repeat (first | apply Kd.S_alloc | apply Kd.S_drewN | apply Kd.S_drew)); exact HO351.out) hb) (Kd.S_base ho0)) (Kd.R_base ho1)) (Kd.R_base ho2)) (fun _ h_ => h_.1)); have n2_ := Aside0.mk (Kd.S_lower (Kd.S_new' (Kd.S_new' ho0 (Kd.S_lt (by (with_reducible repeat (first | apply Kd.S_alloc | apply Kd.S_drewN | apply Kd.S_drew)); exact HO_313000.out))) (Kd.S_lt (by (with_reducible repeat (first | apply Kd.S_alloc | apply Kd.S_drewN | apply Kd.S_drew)); exact HO351.out))) (below_size (by repeat (first | (with_reducible first | exact HB.out | apply below_alloc | apply pw_below_drewN | apply below_drew1 | refine below_set ?_ GE312.out | refine below_set ?_ GE354.out) | exact HB.out)))); have n3_ := Aside0.mk (Kd.R_lower ho1 (below_size (by repeat (first | (with_reducible first | exact HB.out | apply below_alloc | apply pw_below_drewN | apply below_drew1 | refine below_set ?_ GE312.out | refine below_set ?_ GE354.out) | exact HB.out)))); have n4_ := Aside0.mk (Kd.R_lower ho2 (below_size (by repeat (first | (with_reducible first | exact HB.out | apply below_alloc | apply pw_below_drewN | apply below_drew1 | refine below_set ?_ GE312.out | refine below_set ?_ GE354.out) | exact HB.out)))); have n5_ := Aside0.mk (blk_below (g := gb312) (o := .cells #[.slice Ao12 t306.length co12] 28 (0, 0)) (by (with_reducible repeat (first | refine blk_drewN ?_ _ | refine blk_drew ?_ | refine blk_alloc ?_ _)); exact BK312.out) hb); have n6_ := Aside0.mk (blk_below (g := gb354) (o := .cells #[.slice Ao174 t349.length co174] 28 (0, 0)) (by (with_reducible repeat (first | refine blk_drewN ?_ _ | refine blk_drew ?_ | refine blk_alloc ?_ _)); exact BK354.out) hb); have n7_ := Aside0.mk (below_step (by repeat (first | (with_reducible first | exact HB.out | apply below_alloc | apply pw_below_drewN | apply below_drew1 | refine below_set ?_ GE312.out | refine below_set ?_ GE354.out) | exact HB.out)) hb); clear HO_313000; clear HO351; clear BK312; clear BK354; clear HB; have HO_313000 := n0_; have HO351 := n1_; have HO361 := n2_; have HO364 := n3_; have HO367 := n4_; have BK312 := n5_; have BK354 := n6_; have HB := n7_; clear n0_ n1_ n2_ n3_ n4_ n5_ n6_ n7_; (try clear hb); (try clear hb2); (try clear hk); (try clear hi); (try clear ho0); (try clear ho1); (try clear ho2)) | ((with_reducible refine gate_dst (N := 34) rfl ?_); refine box_event ?hg (N := 34) ?hd (cs := #[.slice none 0 0]) (t := 28) ?hr ?_; (case hd => rfl); (case hg => rfl); (case hr => first | (go_simp; done) | (go_simp; rfl)); intro gb368 hg w181 hbox hb; have n0_ := Aside0.mk (Kd.S_below (by (with_reducible repeat (first | apply Kd.S_alloc | apply Kd.S_drewN | apply Kd.S_drew)); exact HO_313000.out) hb); have n1_ := Aside0.mk (Kd.S_below (by (with_reducible repeat (first | apply Kd.S_alloc | apply Kd.S_drewN | apply Kd.S_drew)); exact HO351.out) hb); have n2_ := Aside0.mk (Kd.S_below (by (with_reducible repeat (first | apply Kd.S_alloc | apply Kd.S_drewN | apply Kd.S_drew)); exact HO361.out) hb); have n3_ := Aside0.mk (Kd.R_below (by (with_reducible repeat (first | apply Kd.R_alloc | apply Kd.R_drewN | apply Kd.R_drew)); exact HO364.out) hb); have n4_ := Aside0.mk (Kd.R_below (by (with_reducible repeat (first | apply Kd.R_alloc | apply Kd.R_drewN | apply Kd.R_drew)); exact HO367.out) hb); have n5_ := Aside0.mk (blk_below (g := gb312) (o := .cells #[.slice Ao12 t306.length co12] 28 (0, 0)) (by (with_reducible repeat (first | refine blk_drewN ?_ _ | refine blk_drew ?_ | refine blk_alloc ?_ _)); exact BK312.out) hb); have n6_ := Aside0.mk (blk_below (g := gb354) (o := .cells #[.slice Ao174 t349.length co174] 28 (0, 0)) (by (with_reducible repeat (first | refine blk_drewN ?_ _ | refine blk_drew ?_ | refine blk_alloc ?_ _)); exact BK354.out) hb); have n7_ := Aside0.mk (below_step (by repeat (first | (with_reducible first | exact HB.out | apply below_alloc | apply pw_below_drewN | apply below_drew1 | refine below_set ?_ GE312.out | refine below_set ?_ GE354.out) | exact HB.out)) hb); have n8_ := Aside0.mk (hbox); have n9_ := Aside0.mk ((by rw [hg]; exact (below_size (by repeat (first | (with_reducible first | exact HB.out | apply below_alloc | apply pw_below_drewN | apply below_drew1 | refine below_set ?_ GE312.out | refine below_set ?_ GE354.out) | exact HB.out))) : w.heap.size ≤ gb368)); have n10_ := Aside0.mk ((by rw [hg]; exact (below_size (by repeat (first | (with_reducible first | exact HB.out | apply below_alloc | apply pw_below_drewN | apply below_drew1 | refine below_set ?_ GE312.out | refine below_set ?_ GE354.out) | exact HB.out))) : w.heap.size ≤ gb368)); have n11_ := Aside0.mk ((by rw [hg]; exact Nat.ne_of_lt (blk_lt (g := gb312) (o := .cells #[.slice Ao12 t306.length co12] 28 (0, 0)) (by (with_reducible repeat (first | refine blk_drewN ?_ _ | refine blk_drew ?_ | refine blk_alloc ?_ _)); exact BK312.out)) : gb312 ≠ gb368)); have n12_ := Aside0.mk ((by rw [hg]; exact Nat.ne_of_gt (blk_lt (g := gb312) (o := .cells #[.slice Ao12 t306.length co12] 28 (0, 0)) (by (with_reducible repeat (first | refine blk_drewN ?_ _ | refine blk_drew ?_ | refine blk_alloc ?_ _)); exact BK312.out)) : gb368 ≠ gb312)); have n13_ := Aside0.mk ((by rw [hg]; exact Nat.ne_of_lt (blk_lt (g := gb354) (o := .cells #[.slice Ao174 t349.length co174] 28 (0, 0)) (by (with_reducible repeat (first | refine blk_drewN ?_ _ | refine blk_drew ?_ | refine blk_alloc ?_ _)); exact BK354.out)) : gb354 ≠ gb368)); have n14_ := Aside0.mk ((by rw [hg]; exact Nat.ne_of_gt (blk_lt (g := gb354) (o := .cells #[.slice Ao174 t349.length co174] 28 (0, 0)) (by (with_reducible repeat (first | refine blk_drewN ?_ _ | refine blk_drew ?_ | refine blk_alloc ?_ _)); exact BK354.out)) : gb368 ≠ gb354)); clear HO_313000; clear HO351; clear HO361; clear HO364; clear HO367; clear BK312; clear BK354; clear HB; have HO_313000 := n0_; have HO351 := n1_; have HO361 := n2_; have HO364 := n3_; have HO367 := n4_; have BK312 := n5_; have BK354 := n6_; have HB := n7_; have BK368 := n8_; have GW368 := n9_; have GE368 := n10_; have NB312_368 := n11_; have NB368_312 := n12_; have NB354_368 := n13_; have NB368_354 := n14_; clear n0_ n1_ n2_ n3_ n4_ n5_ n6_ n7_ n8_ n9_ n10_ n11_ n12_ n13_ n14_; clear hb hbox hg; obtain ⟨Ao182, co182, eo182⟩ := Kd.S_slice HO361.out; subst eo182; have hnb183 := NB368_312.out; have hnc183 := NB312_368.out; have hnb184 := NB368_354.out; have hnc184 := NB354_368.out; have hcz185_0 : w181.cell? ⟨gb368, 0, none⟩ = some (.slice none 0 0) := (blk_cell BK368.out 0).trans rfl; have hfz185_0 := blk_frozen BK368.out 0; obtain ⟨Ao186, co186, eo186⟩ := Kd.R_slice HO364.out; subst eo186; obtain ⟨Ao187, co187, eo187⟩ := Kd.R_slice HO367.out; subst eo187) | ((with_reducible refine gate_callee (f := 29) rfl ?_); refine goesL_ (some 196) rfl rfl Try.func29 (by kernel_rfl) rfl #[.agg #[.slice Ao182 t359.length co182], .slice Ao186 t362.length co186, .slice Ao187 t365.length co187] rfl (by (try simp only [List.map_toArray, List.map_cons, List.map_nil]); first | done | rfl | (simp only [List.length_drop, List.length_take]; rfl)) ?_; (with_reducible refine (impl_IsStrict.calls _ _ t359 _ _ t362 _ _ t365 t369 t370 _ ?side1 ?side2 ?side3 ?side4 ?side5 ?side6 A88.out).mono ?_); (case side1 => refine (Kd.S_reads' (e := 32) (base := w.heap.size) (ok := fun k_ => (((some k_ ≠ (.slice Ao186 t362.length co186 : Value).ownBlock ∧ some k_ ≠ (.slice Ao187 t365.length co187 : Value).ownBlock) ∧ some k_ ≠ (.slice Ao12 t306.length co12 : Value).ownBlock) ∧ some k_ ≠ (.slice Ao174 t349.length co174 : Value).ownBlock)) (n := t359.length) (c := co182) ?_).2.2; exact (by (with_reducible repeat (first | apply Kd.S_alloc | apply Kd.S_drewN | apply Kd.S_drew)); exact (Kd.S_mono (Kd.S_far (p := ⟨gb368, 0, none⟩) (Kd.S_types HO361.out BK368.out (by decide)) (fun _ hk => hk.2) (.slice Ao182 t359.length co182)) (fun _ h_ => h_.1)))); (case side2 => exact (Kd.S_reads' HO361.out).2.1); (case side3 => refine (Kd.R_reads' (e := 3) (base := w.heap.size) (ok := fun k_ => some k_ ≠ (.slice Ao187 t365.length co187 : Value).ownBlock) (n := t362.length) (c := co186) ?_).2.2; exact (by (with_reducible repeat (first | apply Kd.R_alloc | apply Kd.R_drewN | apply Kd.R_drew)); exact (Kd.R_mono (Kd.R_far (p := ⟨gb368, 0, none⟩) (Kd.R_types HO364.out BK368.out (by decide)) (fun _ hk => hk.2) (.slice Ao182 t359.length co182)) (fun _ h_ => h_.1)))); (case side4 => exact (Kd.R_reads' HO364.out).2.1); (case side5 => refine (Kd.R_reads' (e := 3) (base := w.heap.size) (ok := fun k_ => some k_ ≠ (.slice Ao186 t362.length co186 : Value).ownBlock) (n := t365.length) (c := co187) ?_).2.2; exact (by (with_reducible repeat (first | apply Kd.R_alloc | apply Kd.R_drewN | apply Kd.R_drew)); exact (Kd.R_mono (Kd.R_far (p := ⟨gb368, 0, none⟩) (Kd.R_types HO367.out BK368.out (by decide)) (fun _ hk => hk.2) (.slice Ao182 t359.length co182)) (fun _ h_ => h_.1)))); (case side6 => exact (Kd.R_reads' HO367.out).2.1); rintro e w188 ⟨rfl, hb⟩; refine ⟨_, rfl, ?_⟩; have n0_ := Aside0.mk (Kd.S_below (by (with_reducible repeat (first | apply Kd.S_alloc | apply Kd.S_drewN | apply Kd.S_drew)); exact (Kd.S_mono (Kd.S_far (p := ⟨gb368, 0, none⟩) (Kd.S_types HO_313000.out BK368.out (by decide)) (fun _ hk => hk.2) (.slice Ao182 t359.length co182)) (fun _ h_ => h_.1))) hb); have n1_ := Aside0.mk (Kd.S_below (by (with_reducible repeat (first | apply Kd.S_alloc | apply Kd.S_drewN | apply Kd.S_drew)); exact (Kd.S_mono (Kd.S_far (p := ⟨gb368, 0, none⟩) (Kd.S_types HO351.out BK368.out (by decide)) (fun _ hk => hk.2) (.slice Ao182 t359.length co182)) (fun _ h_ => h_.1))) hb); have n2_ := Aside0.mk (Kd.S_below (by (with_reducible repeat (first | apply Kd.S_alloc | apply Kd.S_drewN | apply Kd.S_drew)); exact (Kd.S_mono (Kd.S_far (p := ⟨gb368, 0, none⟩) (Kd.S_types HO361.out BK368.out (by decide)) (fun _ hk => hk.2) (.slice Ao182 t359.length co182)) (fun _ h_ => h_.1))) hb); have n3_ := Aside0.mk (Kd.R_below (by (with_reducible repeat (first | apply Kd.R_alloc | apply Kd.R_drewN | apply Kd.R_drew)); exact (Kd.R_mono (Kd.R_far (p := ⟨gb368, 0, none⟩) (Kd.R_types HO364.out BK368.out (by decide)) (fun _ hk => hk.2) (.slice Ao182 t359.length co182)) (fun _ h_ => h_.1))) hb); have n4_ := Aside0.mk (Kd.R_below (by (with_reducible repeat (first | apply Kd.R_alloc | apply Kd.R_drewN | apply Kd.R_drew)); exact (Kd.R_mono (Kd.R_far (p := ⟨gb368, 0, none⟩) (Kd.R_types HO367.out BK368.out (by decide)) (fun _ hk => hk.2) (.slice Ao182 t359.length co182)) (fun _ h_ => h_.1))) hb); have n5_ := Aside0.mk (blk_below (g := gb312) (o := .cells #[.slice Ao12 t306.length co12] 28 (0, 0)) (by (with_reducible repeat (first | refine blk_drewN ?_ _ | refine blk_drew ?_ | refine blk_alloc ?_ _)); refine blk_far ?_ NB312_368.out _; (with_reducible repeat (first | refine blk_drewN ?_ _ | refine blk_drew ?_ | refine blk_alloc ?_ _)); exact BK312.out) hb); have n6_ := Aside0.mk (blk_below (g := gb354) (o := .cells #[.slice Ao174 t349.length co174] 28 (0, 0)) (by (with_reducible repeat (first | refine blk_drewN ?_ _ | refine blk_drew ?_ | refine blk_alloc ?_ _)); refine blk_far ?_ NB354_368.out _; (with_reducible repeat (first | refine blk_drewN ?_ _ | refine blk_drew ?_ | refine blk_alloc ?_ _)); exact BK354.out) hb); have n7_ := Aside0.mk (blk_below (g := gb368) (o := .cells #[.slice Ao182 t359.length co182] 28 (0, 0)) (by (with_reducible repeat (first | refine blk_drewN ?_ _ | refine blk_drew ?_ | refine blk_alloc ?_ _)); refine blk_put (cs := #[.slice none 0 0]) ?_ 0 _ rfl; (with_reducible repeat (first | refine blk_drewN ?_ _ | refine blk_drew ?_ | refine blk_alloc ?_ _)); exact BK368.out) hb); have n8_ := Aside0.mk (below_step (by repeat (first | (with_reducible first | exact HB.out | apply below_alloc | apply pw_below_drewN | apply below_drew1 | refine below_set ?_ GE312.out | refine below_set ?_ GE354.out | refine below_set ?_ GE368.out) | exact HB.out)) hb); clear HO_313000; clear HO351; clear HO361; clear HO364; clear HO367; clear BK312; clear BK354; clear BK368; clear HB; have HO_313000 := n0_; have HO351 := n1_; have HO361 := n2_; have HO364 := n3_; have HO367 := n4_; have BK312 := n5_; have BK354 := n6_; have BK368 := n7_; have HB := n8_; clear n0_ n1_ n2_ n3_ n4_ n5_ n6_ n7_ n8_; (try clear hb); (try clear hb2); (try clear hk); (try clear hi); have hcz189_0 : w188.cell? ⟨gb368, 0, none⟩ = some (.slice Ao182 t359.length co182) := (blk_cell BK368.out 0).trans rfl; have hfz189_0 := blk_frozen BK368.out 0) | ((with_reducible refine gate_callee (f := 30) rfl ?_); refine goesL_ (some 203) rfl rfl Try.func30 (by kernel_rfl) rfl #[.agg #[.slice Ao182 t359.length co182], .slice Ao186 t362.length co186, .slice Ao187 t365.length co187] rfl (by (try simp only [List.map_toArray, List.map_cons, List.map_nil]); first | done | rfl | (simp only [List.length_drop, List.length_take]; rfl)) ?_; (with_reducible refine (spec_IsStrict.calls kj26 _ _ t359 _ _ t362 _ _ t365 t371 t372 _ ?side1 ?side2 ?side3 ?side4 ?side5 ?side6 A89.out).mono ?_); (case side1 => repeat (first | exact (Kd.S_reads' HO361.out).2.2 | (with_reducible refine Kd.C_alloc ?_ _) | (with_reducible refine Kd.C_drewN ?_ _) | (with_reducible refine Kd.C_drew ?_))); (case side2 => exact (Kd.S_reads' HO361.out).2.1); (case side3 => repeat (first | exact (Kd.R_reads' HO364.out).2.2 | (with_reducible refine Kd.C_alloc ?_ _) | (with_reducible refine Kd.C_drewN ?_ _) | (with_reducible refine Kd.C_drew ?_))); (case side4 => exact (Kd.R_reads' HO364.out).2.1); (case side5 => repeat (first | exact (Kd.R_reads' HO367.out).2.2 | (with_reducible refine Kd.C_alloc ?_ _) | (with_reducible refine Kd.C_drewN ?_ _) | (with_reducible refine Kd.C_drew ?_))); (case side6 => exact (Kd.R_reads' HO367.out).2.1); rintro e w190 ⟨rfl, hb⟩; refine ⟨_, rfl, ?_⟩; have n0_ := Aside0.mk (Kd.S_below (by (with_reducible repeat (first | apply Kd.S_alloc | apply Kd.S_drewN | apply Kd.S_drew)); exact HO_313000.out) hb); have n1_ := Aside0.mk (Kd.S_below (by (with_reducible repeat (first | apply Kd.S_alloc | apply Kd.S_drewN | apply Kd.S_drew)); exact HO351.out) hb); have n2_ := Aside0.mk (Kd.S_below (by (with_reducible repeat (first | apply Kd.S_alloc | apply Kd.S_drewN | apply Kd.S_drew)); exact HO361.out) hb); have n3_ := Aside0.mk (Kd.R_below (by (with_reducible repeat (first | apply Kd.R_alloc | apply Kd.R_drewN | apply Kd.R_drew)); exact HO364.out) hb); have n4_ := Aside0.mk (Kd.R_below (by (with_reducible repeat (first | apply Kd.R_alloc | apply Kd.R_drewN | apply Kd.R_drew)); exact HO367.out) hb); have n5_ := Aside0.mk (blk_below (g := gb312) (o := .cells #[.slice Ao12 t306.length co12] 28 (0, 0)) (by (with_reducible repeat (first | refine blk_drewN ?_ _ | refine blk_drew ?_ | refine blk_alloc ?_ _)); exact BK312.out) hb); have n6_ := Aside0.mk (blk_below (g := gb354) (o := .cells #[.slice Ao174 t349.length co174] 28 (0, 0)) (by (with_reducible repeat (first | refine blk_drewN ?_ _ | refine blk_drew ?_ | refine blk_alloc ?_ _)); exact BK354.out) hb); have n7_ := Aside0.mk (blk_below (g := gb368) (o := .cells #[.slice Ao182 t359.length co182] 28 (0, 0)) (by (with_reducible repeat (first | refine blk_drewN ?_ _ | refine blk_drew ?_ | refine blk_alloc ?_ _)); exact BK368.out) hb); have n8_ := Aside0.mk (below_step (by repeat (first | (with_reducible first | exact HB.out | apply below_alloc | apply pw_below_drewN | apply below_drew1 | refine below_set ?_ GE312.out | refine below_set ?_ GE354.out | refine below_set ?_ GE368.out) | exact HB.out)) hb); clear HO_313000; clear HO351; clear HO361; clear HO364; clear HO367; clear BK312; clear BK354; clear BK368; clear HB; have HO_313000 := n0_; have HO351 := n1_; have HO361 := n2_; have HO364 := n3_; have HO367 := n4_; have BK312 := n5_; have BK354 := n6_; have BK368 := n7_; have HB := n8_; clear n0_ n1_ n2_ n3_ n4_ n5_ n6_ n7_ n8_; (try clear hb); (try clear hb2); (try clear hk); (try clear hi); have hcz191_0 : w190.cell? ⟨gb354, 0, none⟩ = some (.slice Ao174 t349.length co174) := (blk_cell BK354.out 0).trans rfl; have hfz191_0 := blk_frozen BK354.out 0) | ((with_reducible refine gate_callee (f := 11) rfl ?_); refine goesL_ (some 228) rfl rfl Try.func11 (by kernel_rfl) rfl #[.agg #[.slice Ao174 t349.length co174], .int .i64 t353, .int .i64 t352] rfl (by (try simp only [List.map_toArray, List.map_cons, List.map_nil]); first | done | rfl | (simp only [List.length_drop, List.length_take]; rfl)) ?_; (with_reducible refine (impl_MeetingOf.calls _ _ t349 t353 t352 t373 t374 _ ?side1 ?side2 A170.out).mono ?_); (case side1 => repeat (first | exact (Kd.S_reads' HO351.out).2.2 | (with_reducible refine Kd.C_alloc ?_ _) | (with_reducible refine Kd.C_drewN ?_ _) | (with_reducible refine Kd.C_drew ?_))); (case side2 => exact (Kd.S_reads' HO351.out).2.1); rintro e w192 ⟨rfl, hb⟩; refine ⟨_, rfl, ?_⟩; have n0_ := Aside0.mk (Kd.S_below (by (with_reducible repeat (first | apply Kd.S_alloc | apply Kd.S_drewN | apply Kd.S_drew)); exact HO_313000.out) hb); have n1_ := Aside0.mk (Kd.S_below (by (with_reducible repeat (first | apply Kd.S_alloc | apply Kd.S_drewN | apply Kd.S_drew)); exact HO351.out) hb); have n2_ := Aside0.mk (Kd.S_below (by (with_reducible repeat (first | apply Kd.S_alloc | apply Kd.S_drewN | apply Kd.S_drew)); exact HO361.out) hb); have n3_ := Aside0.mk (Kd.R_below (by (with_reducible repeat (first | apply Kd.R_alloc | apply Kd.R_drewN | apply Kd.R_drew)); exact HO364.out) hb); have n4_ := Aside0.mk (Kd.R_below (by (with_reducible repeat (first | apply Kd.R_alloc | apply Kd.R_drewN | apply Kd.R_drew)); exact HO367.out) hb); have n5_ := Aside0.mk (blk_below (g := gb312) (o := .cells #[.slice Ao12 t306.length co12] 28 (0, 0)) (by (with_reducible repeat (first | refine blk_drewN ?_ _ | refine blk_drew ?_ | refine blk_alloc ?_ _)); exact BK312.out) hb); have n6_ := Aside0.mk (blk_below (g := gb354) (o := .cells #[.slice Ao174 t349.length co174] 28 (0, 0)) (by (with_reducible repeat (first | refine blk_drewN ?_ _ | refine blk_drew ?_ | refine blk_alloc ?_ _)); exact BK354.out) hb); have n7_ := Aside0.mk (blk_below (g := gb368) (o := .cells #[.slice Ao182 t359.length co182] 28 (0, 0)) (by (with_reducible repeat (first | refine blk_drewN ?_ _ | refine blk_drew ?_ | refine blk_alloc ?_ _)); exact BK368.out) hb); have n8_ := Aside0.mk (below_step (by repeat (first | (with_reducible first | exact HB.out | apply below_alloc | apply pw_below_drewN | apply below_drew1 | refine below_set ?_ GE312.out | refine below_set ?_ GE354.out | refine below_set ?_ GE368.out) | exact HB.out)) hb); clear HO_313000; clear HO351; clear HO361; clear HO364; clear HO367; clear BK312; clear BK354; clear BK368; clear HB; have HO_313000 := n0_; have HO351 := n1_; have HO361 := n2_; have HO364 := n3_; have HO367 := n4_; have BK312 := n5_; have BK354 := n6_; have BK368 := n7_; have HB := n8_; clear n0_ n1_ n2_ n3_ n4_ n5_ n6_ n7_ n8_; (try clear hb); (try clear hb2); (try clear hk); (try clear hi)))
                        go_ret
                        exact ⟨by first | rfl | (simp [errW_none, errW_some] <;> rfl) | (simp [*, errW_none, errW_some] <;> rfl), by repeat (first | (with_reducible first | exact HB.out | apply below_alloc | apply pw_below_drewN | apply below_drew1 | refine below_set ?_ GE312.out | refine below_set ?_ GE354.out | refine below_set ?_ GE368.out) | exact HB.out)⟩
                      · rw [if_neg c171] at H
                        have c171b0 : (t374 == t356) = false := by simpa using c171
                        (try (have c171b1 : decide (t374 = t356) = false := by simpa using c171))
                        (try (have c171b2 : (t374 == t356) = false := by simpa using c171))
                        (try (have c171b3 : ¬ (t374 = t356) := by simpa using c171))
                        clear c171
                        exact absurd (Option.some.inj H) (by rw [hrt.out]; decide)
def laws_FnFrontiers.Pure : Prop := ∀ (l0 : List Int) (l1 : List Int), l0.length ≤ maxLen → l0.length * 1 ≤ 140737488351232 → (∀ x ∈ l0, (Lit.int .u8 x).wf = true) → l1.length ≤ maxLen → l1.length * 1 ≤ 140737488351232 → (∀ x ∈ l1, (Lit.int .u8 x).wf = true) → ∃ k, laws_FnFrontiers.f k l0 l1 = some true
theorem laws_FnFrontiers.walk (P : laws_FnFrontiers.Pure) (a0 : Option Addr) (len0 cap0 : Nat) (z0 : List Int) (a1 : Option Addr) (len1 cap1 : Nat) (z1 : List Int) (w : World) (w0 : (a0 = none ∧ len0 = 0 ∧ cap0 = 0 ∧ z0 = []) ∨ ∃ x, a0 = some x ∧ len0 ≤ cap0 ∧ cap0 ≤ maxLen ∧ z0.length = cap0 ∧ (∀ i, i < z0.length → w.cell? (x.add i) = some (.int .u8 (z0.getD i 0))) ∧ ∀ n ∈ z0, (Lit.int .u8 n).wf = true) (y0 : len0 * 1 ≤ 140737488351232) (w1 : (a1 = none ∧ len1 = 0 ∧ cap1 = 0 ∧ z1 = []) ∨ ∃ x, a1 = some x ∧ len1 ≤ cap1 ∧ cap1 ≤ maxLen ∧ z1.length = cap1 ∧ (∀ i, i < z1.length → w.cell? (x.add i) = some (.int .u8 (z1.getD i 0))) ∧ ∀ n ∈ z1, (Lit.int .u8 n).wf = true) (y1 : len1 * 1 ≤ 140737488351232) :
    Calls Try.prog 6 #[.slice a0 len0 cap0, .slice a1 len1 cap1] w fun e w' => e = .returned (.bool true) ∧ Below w.heap.size w w' := by
  obtain ⟨l0, rfl, hr0, hm0, hw0, hc0⟩ := ReadsInt.ofRowC w0
  obtain ⟨l1, rfl, hr1, hm1, hw1, hc1⟩ := ReadsInt.ofRowC w1
  obtain ⟨k, h⟩ := P l0 l1 hm0 y0 hw0 hm1 y1 hw1
  refine (laws_FnFrontiers.calls k _ _ l0 _ _ l1 true w (Kd.C_of_reads (d := (0 : Int)) (h1 := fun _ => rfl) hr0) hc0 (Kd.C_of_reads (d := (0 : Int)) (h1 := fun _ => rfl) hr1) hc1 h ⟨rfl⟩).mono ?_
  rintro e w' ⟨rfl, hd⟩
  exact ⟨rfl, hd⟩
end Go.Proofs.Ytndkblahnihhjaa.P

namespace Go.Proofs.Ytndkblahnihhjaa.Q
open Go.RowKit Go.Proofs.Ytndkblahnihhjaa.P Go.Proofs.Ytndkblahnihhjaa.H Go.Proofs.YtndkblahnihhjaaW.PrintWords
variable {g : List (List Int)}
structure DM (g : List (List Int)) (b x : Int) : Prop where
  rx : Rch g (-1) 0 x
  rb : Rch g (-1) 0 b
  no : ¬ Rch g x 0 b
theorem DM.trans {b m x : Int} (h1 : DM g b m) (h2 : DM g m x) : DM g b x := by
  refine ⟨h2.rx, h1.rb, fun h => ?_⟩
  have key : ∀ z, Rch g x 0 z → Rch g m 0 z ∨ Rch g x 0 m := by
    intro z hz
    induction hz with
    | here hz =>
      by_cases e0 : (0 : Int) = m
      · exact .inr (e0 ▸ .here hz)
      · exact .inl (.here e0)
    | @on a b hx hm hw ih =>
      rcases ih with ih | ih
      · by_cases e0 : b = m
        · subst e0; exact .inr (.on hx hm hw)
        · exact .inl (.on ih hm e0)
      · exact .inr ih
  rcases key b h with h | h
  · exact h1.no h
  · exact h2.no h
end Go.Proofs.Ytndkblahnihhjaa.Q

namespace Go.Proofs.Ytndkblahnihhjaa.P
open Go.RowKit Go.Proofs.YtndkblahnihhjaaW.PrintWords Go.Proofs.YtndkblahnihhjaaW.PrintLast Go.Proofs.YtndkblahnihhjaaW.PrintMore
attribute [local go_sem] max2_int min2_int max_two min_two max_three min_three max_four min_four
def nrTo (D : List (List Bool)) (s : List Bool) : Nat → Int × Nat
  | 0 => (-1, 0)
  | i + 1 => if s.getD i false && decide ((nrTo D s i).2 < (listTo (D.getD i []) 12).length) then ((i : Int), (listTo (D.getD i []) 12).length) else nrTo D s i
def nearestF (D : List (List Bool)) (s : List Bool) : Int := (nrTo D s 12).1
end Go.Proofs.Ytndkblahnihhjaa.P

namespace Go.Proofs.Ytndkblahnihhjaa.P
open Go.RowKit Go.Proofs.YtndkblahnihhjaaW.PrintWords Go.Proofs.YtndkblahnihhjaaW.PrintLast Go.Proofs.YtndkblahnihhjaaW.PrintMore
attribute [local go_sem] max2_int min2_int max_two min_two max_three min_three max_four min_four
def ownB (D : List (List Bool)) (O : List Bool) (b : Nat) : Int := nearestF D (H.rowF (fun k => (D.getD b []).getD k false && O.getD k false))
def ownTo (D : List (List Bool)) (O : List Bool) (n i : Nat) : List Int := (List.range n).map (fun b => if b < i then ownB D O b else 0)
def impl_OwnerAt.f (l0_0 : List (List Int)) (l1 : List Int) : Option (List Int × Bool) := some (if setsB l0_0 l1 then (ownTo (H.domF l0_0) (andF (Q.joinsF (Q.froL l0_0) l1) l1) l0_0.length l0_0.length, true) else ([], false))
end Go.Proofs.Ytndkblahnihhjaa.P

namespace Go.Proofs.Ytndkblahnihhjaa.Q
open Go.RowKit Go.Proofs.Ytndkblahnihhjaa.P Go.Proofs.Ytndkblahnihhjaa.H Go.Proofs.YtndkblahnihhjaaW.PrintWords
section
variable {g : List (List Int)} (hG : goodG g = true)
include hG
theorem DM.lt {b d : Int} (h : DM g b d) : 0 ≤ d ∧ d < (g.length : Int) := h.rx.rng hG (by decide) (by have := goodG_rows hG; omega)
end
end Go.Proofs.Ytndkblahnihhjaa.Q

namespace Go.Proofs.Ytndkblahnihhjaa.Q
open Go.RowKit Go.Proofs.Ytndkblahnihhjaa.P Go.Proofs.Ytndkblahnihhjaa.H Go.Proofs.YtndkblahnihhjaaW.PrintWords
theorem srt_first {l : List Int} (h : Srt l) (h0 : ∀ y ∈ l, 0 ≤ y) : (decide ((0 : Int) ∈ l)) = (decide (0 < l.length) && decide (l.getD 0 0 = 0)) := by
  cases l with
  | nil => simp
  | cons y l =>
    rw [Bool.eq_iff_iff]
    simp only [Bool.and_eq_true, decide_eq_true_eq, List.length_cons, List.getD_cons_zero, List.mem_cons]
    constructor
    · rintro (h1 | h1)
      · exact ⟨by omega, h1.symm⟩
      · have h2 := (List.pairwise_cons.1 h).1 0 h1
        have h3 := h0 y (by simp)
        omega
    · intro h1
      exact .inl h1.2.symm
theorem specJoins_ev {g : List (List Int)} {l : List Int} (hG : goodG g = true) (hr : ∀ y ∈ l, 0 ≤ y ∧ y < (g.length : Int)) (hn : l.length ≤ 12) : spec_l11Joins.f g l = some (listTo (joinsF (froL g) l) 12) := by
  unfold spec_l11Joins.f
  rw [hG, inRow_yes hr hn]
  rfl
theorem joinsOf_core (g : List (List Int)) (l : List Int) (hg : Small g) (hl : l.length ≤ 1048576) : ∃ (s1 : List Int) (s2 : Bool), Ev (fun k => spec_JoinsOf.f k g l) (s1, s2) ∧ impl_JoinsOf.f g l = some (s1, s2) ∧ s1.length ≤ 1048576 ∧ s2 = setsB g l := by
  unfold impl_JoinsOf.f spec_JoinsOf.f
  cases hG : goodG g with
  | false =>
    have hs : setsB g l = false := by unfold setsB; rw [hG, Bool.false_and]
    refine ⟨[], false, (specGoodGraph_ev g hg).bind ?_, by rw [hs, if_neg (by simp)], by simp, hs.symm⟩
    rw [hG]
    exact ev_is fun k => by rw [if_neg (by simp)]
  | true =>
    have hr := goodG_rows hG
    cases hb : rlF g l with
    | false =>
      have hs : setsB g l = false := by unfold setsB; rw [hG, hb]; rfl
      refine ⟨[], false, (specGoodGraph_ev g hg).bind ?_, by rw [hs, if_neg (by simp)], by simp, hs.symm⟩
      rw [hG]
      refine Ev.congr (fun k => by rw [if_pos rfl]) ((B.blocks_ev hG l hl).bind ?_)
      rw [hb]
      exact ev_is fun k => by rw [if_neg (by simp)]
    | true =>
      have hrn := B.rl_rng hb
      have hf := srt_first (B.rl_srt hb) (fun y hy => (hrn y hy).1)
      have hln := B.rl_len12 hr.1.2 hb
      cases h0 : decide ((0 : Int) ∈ l) with
      | false =>
        have hs : setsB g l = false := by unfold setsB; rw [hG, hb, ← hf, h0]; rfl
        refine ⟨[], false, (specGoodGraph_ev g hg).bind ?_, by rw [hs, if_neg (by simp)], by simp, hs.symm⟩
        rw [hG]
        refine Ev.congr (fun k => by rw [if_pos rfl]) ((B.blocks_ev hG l hl).bind ?_)
        rw [hb]
        refine Ev.congr (fun k => by rw [if_pos rfl]) ((has_ev l 0 hl).bind ?_)
        rw [h0]
        exact ev_is fun k => by rw [if_neg (by simp)]
      | true =>
        have hs : setsB g l = true := by unfold setsB; rw [hG, hb, ← hf, h0]; rfl
        refine ⟨_, true, (specGoodGraph_ev g hg).bind ?_, by rw [hs, if_pos rfl], listTo_small _, hs.symm⟩
        rw [hG]
        refine Ev.congr (fun k => by rw [if_pos rfl]) ((B.blocks_ev hG l hl).bind ?_)
        rw [hb]
        refine Ev.congr (fun k => by rw [if_pos rfl]) ((has_ev l 0 hl).bind ?_)
        rw [h0]
        exact ev_is fun k => by rw [if_pos rfl, specJoins_ev hG hrn hln]; rfl
end Go.Proofs.Ytndkblahnihhjaa.Q

namespace Go.Proofs.Ytndkblahnihhjaa.Q
open Go.RowKit Go.Proofs.Ytndkblahnihhjaa.P Go.Proofs.Ytndkblahnihhjaa.H Go.Proofs.YtndkblahnihhjaaW.PrintWords
def mF (g : List (List Int)) (a1 a2 : Int) : Bool × Bool := if goodG g && (!decide (a1 = a2) && (rlF g [a1] && rlF g [a2])) then (meetB (jnB g a1) (jnB g a2), true) else (false, false)
theorem drop_getDM {l : List Int} {m : Nat} (h : m < l.length) : l.drop m = l.getD m 0 :: l.drop (m + 1) := by
  rw [List.drop_eq_getElem_cons h, List.getD_eq_getElem?_getD, List.getElem?_eq_getElem h]
  rfl
theorem meet_loop (x l : List Int) (hx : x.length ≤ 1048576) (hl : l.length ≤ 1048576) : Ev (fun k => spec_MeetingOf.l0 k x l (l.length : Int) 0) (l.any (fun y => decide (y ∈ x)), true) := by
  have key := down0 (n := l.length) (p := fun i => Ev (fun k => spec_MeetingOf.l0 k x l (l.length : Int) (i : Int)) ((l.drop i).any (fun y => decide (y ∈ x)), true)) ?h0 ?hs
  · exact key
  case h0 =>
    rw [List.drop_length, List.any_nil]
    exact Ev.step (f := fun _ => some (false, true)) (fun k => by simp only [spec_MeetingOf.l0]; rw [if_neg (by omega)]) (Ev.now _)
  case hs =>
    intro i hi ih
    rw [drop_getDM hi, List.any_cons]
    have hrd : rd l (i : Int) = l.getD i 0 := rfl
    refine Ev.step (fun k => ?_) ((has_ev x (l.getD i 0) hx).bind (f := fun k t => if t = true then some (true, true) else spec_MeetingOf.l0 k x l (l.length : Int) ((i + 1 : Nat) : Int)) ?_)
    · simp only [spec_MeetingOf.l0]
      rw [if_pos (by omega), if_pos (by omega), if_pos (by omega), hrd, w64 (by omega) (by omega)]
      rfl
    · cases decide (l.getD i 0 ∈ x) with
      | true => exact ev_is fun k => by rw [if_pos rfl]; rfl
      | false => exact Ev.congr (fun k => by rw [if_neg (by simp)]) ih
theorem meet_same {J1 J2 : List Bool} {a1 a2 : Int} (h1 : J1.length = 12) (h2 : J2.length = 12) (ha1 : 0 ≤ a1 ∧ a1 < 12) (ha2 : 0 ≤ a2 ∧ a2 < 12) : (putL (listTo J2 12) a2).any (fun y => decide (y ∈ putL (listTo J1 12) a1)) = meetB (andF J1 [a1]) (andF J2 [a2]) := by
  have key : ∀ (J : List Bool) (a : Int), J.length = 12 → 0 ≤ a ∧ a < 12 → ∀ y : Int, y ∈ putL (listTo J 12) a ↔ ∃ k : Nat, k < 12 ∧ y = (k : Int) ∧ (andF J [a]).getD k false = true := by
    intro J a hJ ha y
    rw [putL_mem, listTo_mem]
    constructor
    · rintro (⟨k, h1, h2, h3⟩ | h)
      · exact ⟨k, h1, h2, (andF_get [a] J k (by omega) (fun y hy => by rw [List.mem_singleton.1 hy]; exact ha.1)).2 (.inl h3)⟩
      · refine ⟨a.toNat, by omega, by omega, (andF_get [a] J a.toNat (by omega) (fun y hy => by rw [List.mem_singleton.1 hy]; exact ha.1)).2 (.inr ?_)⟩
        rw [Int.toNat_of_nonneg ha.1]
        simp
    · rintro ⟨k, h1, h2, h3⟩
      rcases (andF_get [a] J k (by omega) (fun y hy => by rw [List.mem_singleton.1 hy]; exact ha.1)).1 h3 with h | h
      · exact .inl ⟨k, h1, h2, h⟩
      · exact .inr (by rw [h2]; exact List.mem_singleton.1 h)
  unfold meetB
  rw [Bool.eq_iff_iff, List.any_eq_true, List.any_eq_true]
  constructor
  · rintro ⟨y, hy, hx⟩
    rw [decide_eq_true_eq] at hx
    obtain ⟨k, h3, h4, h5⟩ := (key J2 a2 h2 ha2 y).1 hy
    obtain ⟨k', h6, h7, h8⟩ := (key J1 a1 h1 ha1 y).1 hx
    obtain rfl : k' = k := by omega
    exact ⟨k', List.mem_range.2 h6, by rw [h8, h5]; rfl⟩
  · rintro ⟨k, hk, hb⟩
    rw [Bool.and_eq_true] at hb
    have hk' := List.mem_range.1 hk
    exact ⟨(k : Int), (key J2 a2 h2 ha2 _).2 ⟨k, hk', rfl, hb.2⟩, decide_eq_true ((key J1 a1 h1 ha1 _).2 ⟨k, hk', rfl, hb.1⟩)⟩
theorem meetingOf_ev (g : List (List Int)) (a1 a2 : Int) (hg : Small g) : Ev (fun k => spec_MeetingOf.f k g a1 a2) (mF g a1 a2) := by
  have hj : Ev (fun k => spec_MeetingOf.j0 k a1 a2 true g) (false, false) := Ev.step (f := fun _ => some (false, false)) (fun k => by simp [spec_MeetingOf.j0]) (Ev.now _)
  unfold spec_MeetingOf.f mF
  refine (specGoodGraph_ev g hg).bind ?_
  cases hG : goodG g with
  | false =>
    rw [Bool.false_and, if_neg (by simp)]
    exact Ev.congr (fun k => by rw [if_neg (by simp)]) hj
  | true =>
    rw [Bool.true_and]
    by_cases he : a1 = a2
    · rw [decide_eq_true he, Bool.not_true, Bool.false_and, if_neg (by simp)]
      exact Ev.congr (fun k => by rw [if_pos rfl, if_pos he]) hj
    · rw [decide_eq_false he, Bool.not_false, Bool.true_and]
      refine Ev.congr (fun k => by rw [if_pos rfl, if_neg he]) ((B.blocks_ev hG [a1] (by simp)).bind ?_)
      cases ha : rlF g [a1] with
      | false =>
        rw [Bool.false_and, if_neg (by simp)]
        exact Ev.congr (fun k => by rw [if_neg (by simp)]) hj
      | true =>
        refine Ev.congr (fun k => by rw [if_pos rfl]) ((B.blocks_ev hG [a2] (by simp)).bind ?_)
        cases hb : rlF g [a2] with
        | false =>
          rw [Bool.and_false, if_neg (by simp)]
          exact Ev.congr (fun k => by rw [Bool.not_false]) hj
        | true =>
          rw [Bool.true_and, if_pos rfl, Bool.not_true]
          have hr := goodG_rows hG
          have hn2 : g.length ≤ 12 := hr.1.2
          have h1 := B.rl_rng ha
          have h2 := B.rl_rng hb
          have h1' := h1 a1 (by simp)
          have h2' := h2 a2 (by simp)
          have hl1 := (joins_some (fl := froL g) (l := [a1]) (froL_row12 hn2) (fun y hy => ⟨(h1 y hy).1, by have := (h1 y hy).2; omega⟩) (by simp)).2.len
          have hl2 := (joins_some (fl := froL g) (l := [a2]) (froL_row12 hn2) (fun y hy => ⟨(h2 y hy).1, by have := (h2 y hy).2; omega⟩) (by simp)).2.len
          have e1 := specJoins_ev hG h1 (by simp)
          have e2 := specJoins_ev hG h2 (by simp)
          unfold jnB
          generalize joinsF (froL g) [a1] = J1 at e1 hl1 ⊢
          generalize joinsF (froL g) [a2] = J2 at e2 hl2 ⊢
          rw [← meet_same hl1 hl2 ⟨h1'.1, by omega⟩ ⟨h2'.1, by omega⟩]
          have hs1 := listTo_len J1 12
          have hs2 := listTo_len J2 12
          have hp1 := putL_len a1 (listTo J1 12)
          have hp2 := putL_len a2 (listTo J2 12)
          refine Ev.step (fun k => ?_) ((put_ev (listTo J1 12) a1 (by omega)).bind (f := fun k t => (spec_l1Put.f k (listTo J2 12) a2).bind fun t2 => spec_MeetingOf.l0 k t t2 (t2.length : Int) 0) ((put_ev (listTo J2 12) a2 (by omega)).bind (f := fun k t2 => spec_MeetingOf.l0 k (putL (listTo J1 12) a1) t2 (t2.length : Int) 0) (meet_loop _ _ (by omega) (by omega))))
          simp only [spec_MeetingOf.j0]
          rw [if_neg (by simp), e1, Option.bind_some, e2]
          rfl
end Go.Proofs.Ytndkblahnihhjaa.Q

namespace Go.Proofs.Ytndkblahnihhjaa.Q
open Go.RowKit Go.Proofs.Ytndkblahnihhjaa.P Go.Proofs.Ytndkblahnihhjaa.H Go.Proofs.YtndkblahnihhjaaW.PrintWords
theorem getD_memI {l : List Int} {m : Nat} (h : m < l.length) : l.getD m 0 ∈ l := by
  rw [List.getD_eq_getElem?_getD, List.getElem?_eq_getElem h]
  exact List.getElem_mem h
theorem drop_getD {l : List Int} {m : Nat} (h : m < l.length) : l.drop m = l.getD m 0 :: l.drop (m + 1) := by
  rw [List.drop_eq_getElem_cons h, List.getD_eq_getElem?_getD, List.getElem?_eq_getElem h]
  rfl
def blk (R l : List Int) (j : Nat) : Bool := decide (l.getD j 0 ∈ R) && (decide (j = 0) || decide (l.getD (j - 1) 0 < l.getD j 0))
def blkAll (R l : List Int) (i : Nat) : Bool := decide (∀ j, j < l.length → i ≤ j → blk R l j = true)
theorem blkAll_end (R l : List Int) : blkAll R l l.length = true := by
  unfold blkAll
  exact decide_eq_true (fun j h1 h2 => by omega)
theorem blkAll_step (R l : List Int) {i : Nat} (h : i < l.length) : blkAll R l i = (blk R l i && blkAll R l (i + 1)) := by
  unfold blkAll
  rw [Bool.eq_iff_iff]
  simp only [Bool.and_eq_true, decide_eq_true_eq]
  constructor
  · intro a
    exact ⟨a i h (Nat.le_refl _), fun j h1 h2 => a j h1 (by omega)⟩
  · rintro ⟨a, b⟩ j h1 h2
    by_cases e : j = i
    · subst e
      exact a
    · exact b j h1 (by omega)
section
variable {g : List (List Int)}
theorem rlAt_mem (hG : goodG g = true) (y : Int) : rlAt g y = true ↔ y ∈ listTo (reachF g 0 (-1)) 12 := by
  have hr := goodG_rows hG
  have hn1 : 1 ≤ g.length := hr.1.1
  have hn2 : g.length ≤ 12 := hr.1.2
  unfold rlAt inB
  simp only [Bool.and_eq_true, decide_eq_true_eq]
  constructor
  · rintro ⟨⟨h1, h2⟩, h3⟩
    rw [show y = ((y.toNat : Nat) : Int) by omega]
    exact (reach_bit hG (-1) (by omega)).2 h3
  · intro h
    have hy := ((listTo_reach hG y).1 h).rng hG (by decide) (by omega)
    rw [show y = ((y.toNat : Nat) : Int) by omega] at h
    exact ⟨by omega, (reach_bit hG (-1) (by omega)).1 h⟩
theorem rlF_blk (hG : goodG g = true) (l : List Int) : rlF g l = blkAll (listTo (reachF g 0 (-1)) 12) l 0 := by
  unfold rlF blkAll upB
  rw [Bool.eq_iff_iff]
  simp only [Bool.and_eq_true, decide_eq_true_eq, List.all_eq_true]
  constructor
  · rintro ⟨h1, h2⟩ j hj _
    have h3 := h2 j hj (Nat.zero_le _)
    unfold upAt at h3
    unfold blk
    rw [Bool.and_eq_true] at h3 ⊢
    exact ⟨decide_eq_true ((rlAt_mem hG _).1 (h1 _ (getD_memI hj))), h3.2⟩
  · intro h
    refine ⟨fun y hy => ?_, fun j hj _ => ?_⟩
    · obtain ⟨j, hj, e⟩ := List.getElem_of_mem hy
      have h3 := h j hj (Nat.zero_le _)
      unfold blk at h3
      rw [Bool.and_eq_true, decide_eq_true_eq, List.getD_eq_getElem?_getD, List.getElem?_eq_getElem hj] at h3
      rw [← e]
      exact (rlAt_mem hG _).2 h3.1
    · have h3 := h j hj (Nat.zero_le _)
      unfold blk at h3
      rw [Bool.and_eq_true, decide_eq_true_eq] at h3
      have h4 := (rlAt_mem hG _).2 h3.1
      unfold rlAt at h4
      rw [Bool.and_eq_true] at h4
      unfold upAt
      rw [Bool.and_eq_true]
      exact ⟨h4.1, h3.2⟩
theorem blocks_ev (hG : goodG g = true) (l : List Int) (hl : l.length ≤ 1048576) : Ev (fun k => spec_l11Blocks.f k g l) (rlF g l) := by
  rw [rlF_blk hG]
  unfold spec_l11Blocks.f
  refine (specReach_ev hG (-1)).bind ?_
  have hRl := listTo_small (reachF g 0 (-1))
  generalize listTo (reachF g 0 (-1)) 12 = R at hRl
  refine down0 (n := l.length) (p := fun i => Ev (fun k => spec_l11Blocks.l0 k l R l (l.length : Int) (i : Int)) (blkAll R l i)) ?h0 ?hs
  case h0 =>
    rw [blkAll_end]
    exact Ev.step (f := fun _ => some true) (fun k => by simp only [spec_l11Blocks.l0]; rw [if_neg (by omega)]) (Ev.now _)
  case hs =>
    intro i hi ih
    rw [blkAll_step R l hi]
    have hrd : rd l (i : Int) = l.getD i 0 := rfl
    unfold blk
    by_cases h0 : i = 0
    · subst h0
      refine Ev.step (fun k => ?_) ((has_ev R (l.getD 0 0) hRl).bind (f := fun k t => if t = true then spec_l11Blocks.l0 k l R l (l.length : Int) ((0 : Int) + 1) else some false) ?_)
      · simp only [spec_l11Blocks.l0]
        rw [if_pos (by omega), if_pos (by omega), if_pos (by omega), hrd, if_neg (by omega), w64 (by omega) (by omega)]
        rfl
      · cases decide (l.getD 0 0 ∈ R) with
        | true => exact Ev.congr (fun k => by rw [if_pos rfl]; rfl) ih
        | false => exact ev_is fun k => by rw [if_neg (by simp)]; rfl
    · have ew : wrap64 ((i : Int) - 1) = ((i - 1 : Nat) : Int) := by rw [w64 (by omega) (by omega)]; omega
      have hrd1 : rd l (wrap64 ((i : Int) - 1)) = l.getD (i - 1) 0 := by rw [ew]; rfl
      refine Ev.step (fun k => ?_) ((has_ev R (l.getD i 0) hRl).bind (f := fun k t => if t = true then (if l.getD (i - 1) 0 ≥ l.getD i 0 then some false else spec_l11Blocks.l0 k l R l (l.length : Int) ((i : Int) + 1)) else some false) ?_)
      · simp only [spec_l11Blocks.l0]
        rw [if_pos (by omega), if_pos (by omega), if_pos (by omega), hrd, if_pos (by omega), if_pos (by rw [ew]; omega), if_pos (by rw [ew]; omega), hrd1, w64 (show -9223372036854775808 ≤ (i : Int) + 1 by omega) (by omega)]
      · rw [decide_eq_false h0, Bool.false_or]
        cases decide (l.getD i 0 ∈ R) with
        | true =>
          by_cases c : l.getD (i - 1) 0 < l.getD i 0
          · rw [decide_eq_true c]
            exact Ev.congr (fun k => by rw [if_pos rfl, if_neg (by omega)]; rfl) ih
          · rw [decide_eq_false c]
            exact ev_is fun k => by rw [if_pos rfl, if_pos (by omega)]; rfl
        | false => exact ev_is fun k => by rw [if_neg (by simp)]; rfl
theorem dom_bit (hG : goodG g = true) {b x : Nat} (hb : b < g.length) (hx : x < 12) : ((x : Int) ∈ (domL g).getD b []) ↔ ((domF g).getD b []).getD x false = true := by
  have hbl : b < (domF g).length := by unfold domF; rw [matF_len]; exact hb
  have he : (domL g).getD b [] = listTo ((domF g).getD b []) 12 := by
    unfold domL
    rw [List.getD_eq_getElem?_getD, List.getElem?_map, List.getD_eq_getElem?_getD, List.getElem?_eq_getElem hbl]
    rfl
  rw [he, listTo_mem]
  constructor
  · rintro ⟨j, _, e, h⟩
    rwa [show x = j by omega]
  · intro h
    exact ⟨x, hx, rfl, h⟩
theorem domL_len (hG : goodG g = true) {b : Nat} (hb : b < g.length) : ((domL g).getD b []).length ≤ 1048576 := by
  have hr := goodG_rows hG
  have hn2 : g.length ≤ 12 := hr.1.2
  have := (domL_rel hG).len12 (fun b hb y h => by
    have := ((listTo_reach hG y).1 h.1).rng hG (by decide) (by have := hr.1.1; omega)
    omega) hb
  omega
theorem strict_inner (hG : goodG g = true) {sets uses : List Int} (hin : ∀ y ∈ sets, 0 ≤ y ∧ y < (g.length : Int)) (hl : sets.length ≤ 1048576) (hl2 : uses.length ≤ 1048576) {u i : Nat} (hu : u < g.length) (hi : i < uses.length) {r : Bool × Bool} :
    ∀ m, m ≤ sets.length → ∀ ok : Bool, Ev (fun k => if (ok || (sets.drop m).any (fun s => ((domF g).getD u []).getD s.toNat false)) = true then spec_IsStrict.l0 k sets (domL g) uses (uses.length : Int) ((i : Int) + 1) else some (false, true)) r → Ev (fun k => spec_IsStrict.l1 k sets (domL g) (u : Int) ok uses (uses.length : Int) (i : Int) sets (sets.length : Int) (m : Int)) r := by
  have hr := goodG_rows hG
  have hn2 : g.length ≤ 12 := hr.1.2
  have hdl : (domL g).length = g.length := (domL_rel hG).len
  refine down (n := sets.length) (p := fun m => ∀ ok : Bool, Ev (fun k => if (ok || (sets.drop m).any (fun s => ((domF g).getD u []).getD s.toNat false)) = true then spec_IsStrict.l0 k sets (domL g) uses (uses.length : Int) ((i : Int) + 1) else some (false, true)) r → Ev (fun k => spec_IsStrict.l1 k sets (domL g) (u : Int) ok uses (uses.length : Int) (i : Int) sets (sets.length : Int) (m : Int)) r) ?h0 ?hs
  case h0 =>
    intro ok h
    rw [List.drop_length, List.any_nil, Bool.or_false] at h
    refine Ev.step (fun k => ?_) h
    simp only [spec_IsStrict.l1]
    rw [if_neg (by omega), w64 (by omega) (by omega)]
  case hs =>
    intro m hm ih ok h
    rw [drop_getD hm, List.any_cons] at h
    have hx := hin _ (getD_memI hm)
    obtain ⟨s, hxe⟩ : ∃ s : Nat, sets.getD m 0 = (s : Int) := ⟨(sets.getD m 0).toNat, by omega⟩
    have hrd : rd sets (m : Int) = (s : Int) := hxe
    rw [hxe] at h hx
    rw [Int.toNat_natCast] at h
    have HW : Aside0 (wrap64 ((m : Int) + 1) = ((m + 1 : Nat) : Int)) := ⟨by rw [w64 (by omega) (by omega)]; rfl⟩
    cases ok with
    | true =>
      simp only [Bool.true_or] at h
      have h2 := ih true (by simp only [Bool.true_or]; exact h)
      refine Ev.step (fun k => ?_) h2
      simp only [spec_IsStrict.l1]
      rw [if_pos (by omega), if_pos (by omega), if_pos (by omega), if_pos trivial, HW.out]
    | false =>
      have hb := dom_bit hG hu (x := s) (by omega)
      have e : decide ((s : Int) ∈ (domL g).getD u []) = ((domF g).getD u []).getD s false := by
        rw [Bool.eq_iff_iff, decide_eq_true_eq]
        exact hb
      have hrl : rd_L1 (domL g) (u : Int) = (domL g).getD u [] := rfl
      refine Ev.step (fun k => ?_) ((has_ev ((domL g).getD u []) (s : Int) (domL_len hG hu)).bind (f := fun k t => spec_IsStrict.l1 k sets (domL g) (u : Int) t uses (uses.length : Int) (i : Int) sets (sets.length : Int) ((m + 1 : Nat) : Int)) ?_)
      · simp only [spec_IsStrict.l1]
        rw [if_pos (by omega), if_pos (by omega), if_pos (by omega), if_neg (show ¬ (false = true) by simp), if_pos (by omega), if_pos (by omega), hrd, hrl, HW.out]
      · rw [e]
        simp only [Bool.false_or] at h
        exact ih _ h
theorem strict_ev (hG : goodG g = true) {sets uses : List Int} (hin : ∀ y ∈ sets, 0 ≤ y ∧ y < (g.length : Int)) (hin2 : ∀ y ∈ uses, 0 ≤ y ∧ y < (g.length : Int)) (hl : sets.length ≤ 1048576) (hl2 : uses.length ≤ 1048576) :
    Ev (fun k => spec_IsStrict.l0 k sets (domL g) uses (uses.length : Int) 0) (uses.all (stAt (domF g) sets), true) := by
  refine ev_eq (down0 (n := uses.length) (p := fun i => Ev (fun k => spec_IsStrict.l0 k sets (domL g) uses (uses.length : Int) (i : Int)) ((uses.drop i).all (stAt (domF g) sets), true)) ?h0 ?hs) (by rw [List.drop_zero])
  case h0 =>
    rw [List.drop_length]
    exact Ev.step (f := fun _ => some (true, true)) (fun k => by simp only [spec_IsStrict.l0]; rw [if_neg (by omega)]) (Ev.now _)
  case hs =>
    intro i hi ih
    have hx := hin2 _ (getD_memI hi)
    obtain ⟨u, hxe⟩ : ∃ s : Nat, uses.getD i 0 = (s : Int) := ⟨(uses.getD i 0).toNat, by omega⟩
    have hrd : rd uses (i : Int) = (u : Int) := hxe
    rw [drop_getD hi, List.all_cons, hxe]
    rw [hxe] at hx
    have hst : stAt (domF g) sets (u : Int) = sets.any (fun s => ((domF g).getD u []).getD s.toNat false) := by unfold stAt; rw [Int.toNat_natCast]
    refine Ev.step (fun k => ?_) (strict_inner hG hin hl hl2 (u := u) (i := i) (by omega) hi 0 (Nat.zero_le _) false ?_)
    · simp only [spec_IsStrict.l0]
      rw [if_pos (by omega), if_pos (by omega), if_pos (by omega), hrd]
      rfl
    · rw [List.drop_zero, Bool.false_or, ← hst]
      cases stAt (domF g) sets (u : Int) with
      | true => exact Ev.congr (fun k => by rw [if_pos rfl]; rfl) ih
      | false => exact ev_is fun k => by rw [if_neg (by simp)]; rfl
theorem isStrict_ev (g : List (List Int)) (sets uses : List Int) (hg : Small g) (hl : sets.length ≤ 1048576) (hl2 : uses.length ≤ 1048576) : Ev (fun k => spec_IsStrict.f k g sets uses) (stF g sets uses) := by
  have hj : Ev (fun k => spec_IsStrict.j0 k sets uses true g) (false, false) := Ev.step (f := fun _ => some (false, false)) (fun k => by simp [spec_IsStrict.j0]) (Ev.now _)
  unfold spec_IsStrict.f stF
  refine (specGoodGraph_ev g hg).bind ?_
  cases hG : goodG g with
  | false =>
    rw [Bool.false_and, if_neg (by simp)]
    exact Ev.congr (fun k => by rw [if_neg (by simp)]) hj
  | true =>
    refine Ev.congr (fun k => by rw [if_pos rfl]) ((blocks_ev hG sets hl).bind ?_)
    cases ha : rlF g sets with
    | false =>
      rw [Bool.false_and, Bool.and_false, if_neg (by simp)]
      exact Ev.congr (fun k => by rw [if_neg (by simp)]) hj
    | true =>
      refine Ev.congr (fun k => by rw [if_pos rfl]) ((blocks_ev hG uses hl2).bind ?_)
      cases hb : rlF g uses with
      | false =>
        rw [Bool.and_false, Bool.and_false, if_neg (by simp)]
        exact Ev.congr (fun k => by rw [Bool.not_false]) hj
      | true =>
        rw [if_pos (by simp), Bool.not_true]
        have e : spec_l10Dominators.f g = some (domL g) := by unfold spec_l10Dominators.f; rw [hG, if_pos rfl]
        exact Ev.step (fun k => by simp only [spec_IsStrict.j0]; rw [if_neg (by simp), e, Option.bind_some]) (strict_ev hG (rlF_rng ha) (rlF_rng hb) hl hl2)
end
end Go.Proofs.Ytndkblahnihhjaa.Q

