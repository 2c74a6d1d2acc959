import Derived.Test.YtndkblahnihhjaaMFnExactJoinsOf1
import Derived.Test.YtndkblahnihhjaaMFnExactJoinsOf2
import Derived.Test.YtndkblahnihhjaaMFnExactJoinsOf3
import Derived.Test.YtndkblahnihhjaaMFnExactJoinsOf4
set_option linter.unusedVariables false
set_option linter.unusedSimpArgs false
namespace Go.Proofs.Ytndkblahnihhjaa.P
open Go.RowKit Go.Proofs.YtndkblahnihhjaaW.PrintWords Go.Proofs.YtndkblahnihhjaaW.PrintLast Go.Proofs.YtndkblahnihhjaaW.PrintMore
attribute [local go_sem] max2_int min2_int max_two min_two max_three min_three max_four min_four
def laws_FnExactJoinsOf.good (k : Nat) (l0_0 : List (List Int)) (l1 : List Int) : Prop := ∃ z0 : Int, ∃ y0_0 : List (List Int), ∃ y1 : List Int, ∃ (s1 : List Int) (s2 : Bool), laws_szGraph.f k l0_0 1048576 = some z0 ∧ 0 ≤ z0 ∧ l1.length ≤ 1048576 ∧ laws_toGraph.f k l0_0 = some y0_0 ∧ laws_toIntS.f k l1 = some y1 ∧ spec_JoinsOf.f k y0_0 y1 = some (s1, s2) ∧ impl_JoinsOf.f y0_0 y1 = some (s1, s2) ∧ laws_eqIntS.f k s1 s1 = some true ∧ laws_eqGraph.f k y0_0 y0_0 = some true ∧ laws_eqIntS.f k y1 y1 = some true ∧ 1 + (s1.length : Int) ≤ 4611686018427387904 ∧ laws_heldIntS.f k (H.markI s1 1) 1 = some (1 + (s1.length : Int)) ∧ laws_markIntS.f k s1 1 = some (1 + (s1.length : Int), H.markI s1 1) ∧ y0_0.length ≤ 1048576 ∧ 1 + ((H.total y0_0 : Int) + (y1.length : Int) : Int) ≤ 4611686018427387904
def laws_FnExactJoinsOf.skip0 (k : Nat) (l0_0 : List (List Int)) (l1 : List Int) : Prop := 1048576 < l1.length
def laws_FnExactJoinsOf.skip1 (k : Nat) (l0_0 : List (List Int)) (l1 : List Int) : Prop := ∃ z0 : Int, l1.length ≤ 1048576 ∧ laws_szGraph.f k l0_0 1048576 = some z0 ∧ z0 < 0
def laws_FnExactJoinsOf.ok (k : Nat) (l0_0 : List (List Int)) (l1 : List Int) : Prop := laws_FnExactJoinsOf.skip0 k l0_0 l1 ∨ laws_FnExactJoinsOf.skip1 k l0_0 l1 ∨ laws_FnExactJoinsOf.good k l0_0 l1
set_option maxHeartbeats 8000000 in
set_option maxRecDepth 100000 in
theorem laws_FnExactJoinsOf.s0 (k : Nat) (A0_0 : Option Addr) (c0_0 : Nat) (l0_0 : List (List Int)) (A1 : Option Addr) (c1 : Nat) (l1 : List Int) (w : World) (hr0_0 : Kd.C (Kd.slice 3 (Kd.int .i64)) w A0_0 l0_0.length l0_0) (hc0_0 : l0_0.length ≤ c0_0) (hr1 : Kd.C (Kd.int .i64) w A1 l1.length l1) (hc1 : l1.length ≤ c1) (h : laws_FnExactJoinsOf.skip0 k l0_0 l1) :
    Calls Try.prog 4 #[.agg #[.slice A0_0 l0_0.length c0_0], .slice A1 l1.length c1] w fun e w' => e = .returned (.bool true) ∧ Below w.heap.size w w' := by
  have HR0_0 := Aside0.mk hr0_0
  have HC0_0 := Aside0.mk hc0_0
  have HR1 := Aside0.mk hr1
  have HC1 := Aside0.mk hc1
  clear hr0_0 hc0_0 hr1 hc1
  have HO := Aside0.mk (H.Own.nil w)
  unfold laws_FnExactJoinsOf.skip0 at h
  have hl1 := h
  have hll1 : (1048576 : Int) < (l1.length : Int) := by omega
  go_enter Try.func4, Try.ntmps4
  go_wp2_with (first | ((with_reducible refine gate_dst (N := 2) rfl ?_); refine H.own_box HO.out ?hg (N := 2) ?hd (cs := #[Value.slice A0_0 l0_0.length c0_0]) (t := 24) ?hr ?_; (case hd => rfl); (case hg => rfl); (case hr => first | (go_simp; done) | (go_simp; rfl)); intro gb0 w_ ho_ hb_; replace HO := Aside0.mk ho_; clear ho_ hb_) | ((with_reducible refine gate_dst (N := 20) rfl ?_); refine wpList_load_row rfl 24 (.tmp 2) rfl _ rfl 24 _ (0, 0) _ (HO.out.get 0 rfl) Try.underlying24 rfl (by kernel_rfl) ?_) | ((with_reducible refine gate_dst (N := 26) rfl ?_); refine wpList_load_row rfl 24 (.tmp 2) rfl _ rfl 24 _ (0, 0) _ (HO.out.get 0 rfl) Try.underlying24 rfl (by kernel_rfl) ?_) | ((with_reducible refine gate_dst (N := 33) rfl ?_); refine wpList_load_row rfl 24 (.tmp 2) rfl _ rfl 24 _ (0, 0) _ (HO.out.get 0 rfl) Try.underlying24 rfl (by kernel_rfl) ?_) | ((with_reducible refine gate_dst (N := 38) rfl ?_); refine wpList_load_row rfl 28 (.tmp 8) rfl _ rfl 28 _ (0, 0) _ (HO.out.get 1 rfl) Try.underlying28 rfl (by kernel_rfl) ?_) | ((with_reducible refine gate_dst (N := 62) rfl ?_); refine wpList_load_row rfl 28 (.tmp 8) rfl _ rfl 28 _ (0, 0) _ (HO.out.get 1 rfl) Try.underlying28 rfl (by kernel_rfl) ?_) | ((with_reducible refine gate_dst (N := 93) rfl ?_); refine wpList_load_row rfl 24 (.tmp 2) rfl _ rfl 24 _ (0, 0) _ (HO.out.get 0 rfl) Try.underlying24 rfl (by kernel_rfl) ?_))
  go_ret
  exact ⟨rfl, HO.out.below⟩
set_option maxHeartbeats 8000000 in
set_option maxRecDepth 100000 in
theorem laws_FnExactJoinsOf.s1 (k : Nat) (A0_0 : Option Addr) (c0_0 : Nat) (l0_0 : List (List Int)) (A1 : Option Addr) (c1 : Nat) (l1 : List Int) (w : World) (hr0_0 : Kd.C (Kd.slice 3 (Kd.int .i64)) w A0_0 l0_0.length l0_0) (hc0_0 : l0_0.length ≤ c0_0) (hr1 : Kd.C (Kd.int .i64) w A1 l1.length l1) (hc1 : l1.length ≤ c1) (h : laws_FnExactJoinsOf.skip1 k l0_0 l1) :
    Calls Try.prog 4 #[.agg #[.slice A0_0 l0_0.length c0_0], .slice A1 l1.length c1] w fun e w' => e = .returned (.bool true) ∧ Below w.heap.size w w' := by
  have HR0_0 := Aside0.mk hr0_0
  have HC0_0 := Aside0.mk hc0_0
  have HR1 := Aside0.mk hr1
  have HC1 := Aside0.mk hc1
  clear hr0_0 hc0_0 hr1 hc1
  have HO := Aside0.mk (H.Own.nil w)
  unfold laws_FnExactJoinsOf.skip1 at h
  obtain ⟨z0, hl1, ⟨hsz0, hz0⟩⟩ := h
  have hll1 : ¬ (1048576 : Int) < (l1.length : Int) := by omega
  have HSZ0 := Aside0.mk hsz0
  clear hsz0
  go_enter Try.func4, Try.ntmps4
  go_wp2_with (first | ((with_reducible refine gate_dst (N := 2) rfl ?_); refine H.own_box HO.out ?hg (N := 2) ?hd (cs := #[Value.slice A0_0 l0_0.length c0_0]) (t := 24) ?hr ?_; (case hd => rfl); (case hg => rfl); (case hr => first | (go_simp; done) | (go_simp; rfl)); intro gb0 w_ ho_ hb_; replace HO := Aside0.mk ho_; clear ho_ hb_) | ((with_reducible refine gate_dst (N := 20) rfl ?_); refine wpList_load_row rfl 24 (.tmp 2) rfl _ rfl 24 _ (0, 0) _ (HO.out.get 0 rfl) Try.underlying24 rfl (by kernel_rfl) ?_) | ((with_reducible refine gate_dst (N := 26) rfl ?_); refine wpList_load_row rfl 24 (.tmp 2) rfl _ rfl 24 _ (0, 0) _ (HO.out.get 0 rfl) Try.underlying24 rfl (by kernel_rfl) ?_) | ((with_reducible refine gate_dst (N := 33) rfl ?_); refine wpList_load_row rfl 24 (.tmp 2) rfl _ rfl 24 _ (0, 0) _ (HO.out.get 0 rfl) Try.underlying24 rfl (by kernel_rfl) ?_) | ((with_reducible refine gate_dst (N := 38) rfl ?_); refine wpList_load_row rfl 28 (.tmp 8) rfl _ rfl 28 _ (0, 0) _ (HO.out.get 1 rfl) Try.underlying28 rfl (by kernel_rfl) ?_) | ((with_reducible refine gate_dst (N := 62) rfl ?_); refine wpList_load_row rfl 28 (.tmp 8) rfl _ rfl 28 _ (0, 0) _ (HO.out.get 1 rfl) Try.underlying28 rfl (by kernel_rfl) ?_) | ((with_reducible refine gate_dst (N := 93) rfl ?_); refine wpList_load_row rfl 24 (.tmp 2) rfl _ rfl 24 _ (0, 0) _ (HO.out.get 0 rfl) Try.underlying24 rfl (by kernel_rfl) ?_))
  refine (laws_szGraph.calls k _ _ l0_0 1048576 z0 _ (Kd.C_below HR0_0.out HO.out.below) HC0_0.out HSZ0.out).mono ?_
  rintro e w_ ⟨rfl, hb⟩
  replace HO := Aside0.mk (HO.out.step hb)
  clear hb
  go_wp2_with (first | ((with_reducible refine gate_dst (N := 2) rfl ?_); refine H.own_box HO.out ?hg (N := 2) ?hd (cs := #[Value.slice A0_0 l0_0.length c0_0]) (t := 24) ?hr ?_; (case hd => rfl); (case hg => rfl); (case hr => first | (go_simp; done) | (go_simp; rfl)); intro gb0 w_ ho_ hb_; replace HO := Aside0.mk ho_; clear ho_ hb_) | ((with_reducible refine gate_dst (N := 20) rfl ?_); refine wpList_load_row rfl 24 (.tmp 2) rfl _ rfl 24 _ (0, 0) _ (HO.out.get 0 rfl) Try.underlying24 rfl (by kernel_rfl) ?_) | ((with_reducible refine gate_dst (N := 26) rfl ?_); refine wpList_load_row rfl 24 (.tmp 2) rfl _ rfl 24 _ (0, 0) _ (HO.out.get 0 rfl) Try.underlying24 rfl (by kernel_rfl) ?_) | ((with_reducible refine gate_dst (N := 33) rfl ?_); refine wpList_load_row rfl 24 (.tmp 2) rfl _ rfl 24 _ (0, 0) _ (HO.out.get 0 rfl) Try.underlying24 rfl (by kernel_rfl) ?_) | ((with_reducible refine gate_dst (N := 38) rfl ?_); refine wpList_load_row rfl 28 (.tmp 8) rfl _ rfl 28 _ (0, 0) _ (HO.out.get 1 rfl) Try.underlying28 rfl (by kernel_rfl) ?_) | ((with_reducible refine gate_dst (N := 62) rfl ?_); refine wpList_load_row rfl 28 (.tmp 8) rfl _ rfl 28 _ (0, 0) _ (HO.out.get 1 rfl) Try.underlying28 rfl (by kernel_rfl) ?_) | ((with_reducible refine gate_dst (N := 93) rfl ?_); refine wpList_load_row rfl 24 (.tmp 2) rfl _ rfl 24 _ (0, 0) _ (HO.out.get 0 rfl) Try.underlying24 rfl (by kernel_rfl) ?_))
  go_ret
  exact ⟨rfl, HO.out.below⟩
set_option maxHeartbeats 8000000 in
set_option maxRecDepth 100000 in
theorem laws_FnExactJoinsOf.whole (k : Nat) (A0_0 : Option Addr) (c0_0 : Nat) (l0_0 : List (List Int)) (A1 : Option Addr) (c1 : Nat) (l1 : List Int) (w : World) (hr0_0 : Kd.C (Kd.slice 3 (Kd.int .i64)) w A0_0 l0_0.length l0_0) (hc0_0 : l0_0.length ≤ c0_0) (hr1 : Kd.C (Kd.int .i64) w A1 l1.length l1) (hc1 : l1.length ≤ c1) (h : laws_FnExactJoinsOf.good k l0_0 l1) :
    Calls Try.prog 4 #[.agg #[.slice A0_0 l0_0.length c0_0], .slice A1 l1.length c1] w fun e w' => e = .returned (.bool true) ∧ Below w.heap.size w w' := by
  have HR0_0 := Aside0.mk hr0_0
  have HC0_0 := Aside0.mk hc0_0
  have HR1 := Aside0.mk hr1
  have HC1 := Aside0.mk hc1
  clear hr0_0 hc0_0 hr1 hc1
  have HO := Aside0.mk (H.Own.nil w)
  unfold laws_FnExactJoinsOf.good at h
  obtain ⟨z0, y0_0, y1, s1, s2, hsz0, hz0, hl1, hto0, hto1, hspec, himpl, heqr, heq0, heq1, htot, hheld, hmki, hyl0, hb0⟩ := h
  have hll1 : ¬ (1048576 : Int) < (l1.length : Int) := by omega
  have HSZ0 := Aside0.mk hsz0
  have HTO0 := Aside0.mk hto0
  have HTO1 := Aside0.mk hto1
  have HSPEC := Aside0.mk hspec
  have HIMPL := Aside0.mk himpl
  have HEQR := Aside0.mk heqr
  have HEQ0 := Aside0.mk heq0
  have HEQ1 := Aside0.mk heq1
  have HTOT := Aside0.mk htot
  have HHELD := Aside0.mk hheld
  have HMKI := Aside0.mk hmki
  have HB0 := Aside0.mk hb0
  clear hsz0 hto0 hto1 hspec himpl heqr heq0 heq1 htot hheld hmki hb0
  obtain ⟨K2, hK2⟩ : ∃ K2 : Int, 1 + (s1.length : Int) = K2 := ⟨_, rfl⟩
  have hk2 : 0 ≤ K2 := by omega
  have HK2 := Aside0.mk hK2
  clear hK2
  have HSZW := Aside0.mk (rfl : w.heap.size = w.heap.size)
  go_enter Try.func4, Try.ntmps4
  go_wp2_with (first | ((with_reducible refine gate_dst (N := 2) rfl ?_); refine H.own_box HO.out ?hg (N := 2) ?hd (cs := #[Value.slice A0_0 l0_0.length c0_0]) (t := 24) ?hr ?_; (case hd => rfl); (case hg => rfl); (case hr => first | (go_simp; done) | (go_simp; rfl)); intro gb0 w_ ho_ hb_; replace HO := Aside0.mk ho_; clear ho_ hb_) | ((with_reducible refine gate_dst (N := 20) rfl ?_); refine wpList_load_row rfl 24 (.tmp 2) rfl _ rfl 24 _ (0, 0) _ (HO.out.get 0 rfl) Try.underlying24 rfl (by kernel_rfl) ?_) | ((with_reducible refine gate_dst (N := 26) rfl ?_); refine wpList_load_row rfl 24 (.tmp 2) rfl _ rfl 24 _ (0, 0) _ (HO.out.get 0 rfl) Try.underlying24 rfl (by kernel_rfl) ?_) | ((with_reducible refine gate_dst (N := 33) rfl ?_); refine wpList_load_row rfl 24 (.tmp 2) rfl _ rfl 24 _ (0, 0) _ (HO.out.get 0 rfl) Try.underlying24 rfl (by kernel_rfl) ?_) | ((with_reducible refine gate_dst (N := 38) rfl ?_); refine wpList_load_row rfl 28 (.tmp 8) rfl _ rfl 28 _ (0, 0) _ (HO.out.get 1 rfl) Try.underlying28 rfl (by kernel_rfl) ?_) | ((with_reducible refine gate_dst (N := 62) rfl ?_); refine wpList_load_row rfl 28 (.tmp 8) rfl _ rfl 28 _ (0, 0) _ (HO.out.get 1 rfl) Try.underlying28 rfl (by kernel_rfl) ?_) | ((with_reducible refine gate_dst (N := 93) rfl ?_); refine wpList_load_row rfl 24 (.tmp 2) rfl _ rfl 24 _ (0, 0) _ (HO.out.get 0 rfl) Try.underlying24 rfl (by kernel_rfl) ?_))
  refine (laws_szGraph.calls k _ _ l0_0 1048576 z0 _ (Kd.C_below HR0_0.out HO.out.below) HC0_0.out HSZ0.out).mono ?_
  rintro e w_ ⟨rfl, hb⟩
  replace HO := Aside0.mk (HO.out.step hb)
  clear hb
  go_wp2_with (first | ((with_reducible refine gate_dst (N := 2) rfl ?_); refine H.own_box HO.out ?hg (N := 2) ?hd (cs := #[Value.slice A0_0 l0_0.length c0_0]) (t := 24) ?hr ?_; (case hd => rfl); (case hg => rfl); (case hr => first | (go_simp; done) | (go_simp; rfl)); intro gb0 w_ ho_ hb_; replace HO := Aside0.mk ho_; clear ho_ hb_) | ((with_reducible refine gate_dst (N := 20) rfl ?_); refine wpList_load_row rfl 24 (.tmp 2) rfl _ rfl 24 _ (0, 0) _ (HO.out.get 0 rfl) Try.underlying24 rfl (by kernel_rfl) ?_) | ((with_reducible refine gate_dst (N := 26) rfl ?_); refine wpList_load_row rfl 24 (.tmp 2) rfl _ rfl 24 _ (0, 0) _ (HO.out.get 0 rfl) Try.underlying24 rfl (by kernel_rfl) ?_) | ((with_reducible refine gate_dst (N := 33) rfl ?_); refine wpList_load_row rfl 24 (.tmp 2) rfl _ rfl 24 _ (0, 0) _ (HO.out.get 0 rfl) Try.underlying24 rfl (by kernel_rfl) ?_) | ((with_reducible refine gate_dst (N := 38) rfl ?_); refine wpList_load_row rfl 28 (.tmp 8) rfl _ rfl 28 _ (0, 0) _ (HO.out.get 1 rfl) Try.underlying28 rfl (by kernel_rfl) ?_) | ((with_reducible refine gate_dst (N := 62) rfl ?_); refine wpList_load_row rfl 28 (.tmp 8) rfl _ rfl 28 _ (0, 0) _ (HO.out.get 1 rfl) Try.underlying28 rfl (by kernel_rfl) ?_) | ((with_reducible refine gate_dst (N := 93) rfl ?_); refine wpList_load_row rfl 24 (.tmp 2) rfl _ rfl 24 _ (0, 0) _ (HO.out.get 0 rfl) Try.underlying24 rfl (by kernel_rfl) ?_))
  refine (laws_toGraph.calls k _ _ l0_0 y0_0 _ (Kd.C_below HR0_0.out HO.out.below) HC0_0.out HTO0.out).mono ?_
  rintro e w_ ⟨vTy0_0, rfl, hTy0_0, hb⟩
  obtain ⟨ATy0_0, cTy0_0, rfl⟩ := Kd.S_slice hTy0_0
  replace HO := Aside0.mk (HO.out.step hb)
  have HTy0_0 := Aside0.mk (H.S_upto hTy0_0)
  clear hb hTy0_0
  go_wp2_with (first | ((with_reducible refine gate_dst (N := 2) rfl ?_); refine H.own_box HO.out ?hg (N := 2) ?hd (cs := #[Value.slice A0_0 l0_0.length c0_0]) (t := 24) ?hr ?_; (case hd => rfl); (case hg => rfl); (case hr => first | (go_simp; done) | (go_simp; rfl)); intro gb0 w_ ho_ hb_; replace HO := Aside0.mk ho_; clear ho_ hb_) | ((with_reducible refine gate_dst (N := 20) rfl ?_); refine wpList_load_row rfl 24 (.tmp 2) rfl _ rfl 24 _ (0, 0) _ (HO.out.get 0 rfl) Try.underlying24 rfl (by kernel_rfl) ?_) | ((with_reducible refine gate_dst (N := 26) rfl ?_); refine wpList_load_row rfl 24 (.tmp 2) rfl _ rfl 24 _ (0, 0) _ (HO.out.get 0 rfl) Try.underlying24 rfl (by kernel_rfl) ?_) | ((with_reducible refine gate_dst (N := 33) rfl ?_); refine wpList_load_row rfl 24 (.tmp 2) rfl _ rfl 24 _ (0, 0) _ (HO.out.get 0 rfl) Try.underlying24 rfl (by kernel_rfl) ?_) | ((with_reducible refine gate_dst (N := 38) rfl ?_); refine wpList_load_row rfl 28 (.tmp 8) rfl _ rfl 28 _ (0, 0) _ (HO.out.get 1 rfl) Try.underlying28 rfl (by kernel_rfl) ?_) | ((with_reducible refine gate_dst (N := 62) rfl ?_); refine wpList_load_row rfl 28 (.tmp 8) rfl _ rfl 28 _ (0, 0) _ (HO.out.get 1 rfl) Try.underlying28 rfl (by kernel_rfl) ?_) | ((with_reducible refine gate_dst (N := 93) rfl ?_); refine wpList_load_row rfl 24 (.tmp 2) rfl _ rfl 24 _ (0, 0) _ (HO.out.get 0 rfl) Try.underlying24 rfl (by kernel_rfl) ?_))
  refine (laws_toIntS.calls k _ _ l1 y1 _ (Kd.C_below HR1.out HO.out.below) HC1.out HTO1.out).mono ?_
  rintro e w_ ⟨vTy1, rfl, hTy1, hb⟩
  obtain ⟨ATy1, cTy1, rfl⟩ := Kd.R_slice hTy1
  replace HO := Aside0.mk (HO.out.step hb)
  replace HTy0_0 := Aside0.mk (Kd.S_below HTy0_0.out hb);
  have HTy1 := Aside0.mk (H.R_upto hTy1)
  clear hb hTy1
  go_wp2_with (first | ((with_reducible refine gate_dst (N := 2) rfl ?_); refine H.own_box HO.out ?hg (N := 2) ?hd (cs := #[Value.slice A0_0 l0_0.length c0_0]) (t := 24) ?hr ?_; (case hd => rfl); (case hg => rfl); (case hr => first | (go_simp; done) | (go_simp; rfl)); intro gb0 w_ ho_ hb_; replace HO := Aside0.mk ho_; clear ho_ hb_) | ((with_reducible refine gate_dst (N := 20) rfl ?_); refine wpList_load_row rfl 24 (.tmp 2) rfl _ rfl 24 _ (0, 0) _ (HO.out.get 0 rfl) Try.underlying24 rfl (by kernel_rfl) ?_) | ((with_reducible refine gate_dst (N := 26) rfl ?_); refine wpList_load_row rfl 24 (.tmp 2) rfl _ rfl 24 _ (0, 0) _ (HO.out.get 0 rfl) Try.underlying24 rfl (by kernel_rfl) ?_) | ((with_reducible refine gate_dst (N := 33) rfl ?_); refine wpList_load_row rfl 24 (.tmp 2) rfl _ rfl 24 _ (0, 0) _ (HO.out.get 0 rfl) Try.underlying24 rfl (by kernel_rfl) ?_) | ((with_reducible refine gate_dst (N := 38) rfl ?_); refine wpList_load_row rfl 28 (.tmp 8) rfl _ rfl 28 _ (0, 0) _ (HO.out.get 1 rfl) Try.underlying28 rfl (by kernel_rfl) ?_) | ((with_reducible refine gate_dst (N := 62) rfl ?_); refine wpList_load_row rfl 28 (.tmp 8) rfl _ rfl 28 _ (0, 0) _ (HO.out.get 1 rfl) Try.underlying28 rfl (by kernel_rfl) ?_) | ((with_reducible refine gate_dst (N := 93) rfl ?_); refine wpList_load_row rfl 24 (.tmp 2) rfl _ rfl 24 _ (0, 0) _ (HO.out.get 0 rfl) Try.underlying24 rfl (by kernel_rfl) ?_))
  have HWB := Aside0.mk HO.out.size
  refine (spec_JoinsOf.calls k _ _ y0_0 _ _ y1 s1 s2 _ (Kd.S_reads' HTy0_0.out).2.2 (Kd.S_reads' HTy0_0.out).2.1 (Kd.R_reads' HTy1.out).2.2 (Kd.R_reads' HTy1.out).2.1 HSPEC.out).mono ?_
  rintro e w_ ⟨vW, rfl, hs, hb⟩
  obtain ⟨AW, cW, rfl⟩ := Kd.R_slice hs
  replace HO := Aside0.mk (HO.out.step hb)
  replace HTy0_0 := Aside0.mk (Kd.S_below HTy0_0.out hb)
  replace HTy1 := Aside0.mk (Kd.R_below HTy1.out hb);
  have HW := Aside0.mk (H.R_upto hs)
  clear hs hb
  clear HTy0_0 HTy1
  go_wp2_with (first | ((with_reducible refine gate_dst (N := 2) rfl ?_); refine H.own_box HO.out ?hg (N := 2) ?hd (cs := #[Value.slice A0_0 l0_0.length c0_0]) (t := 24) ?hr ?_; (case hd => rfl); (case hg => rfl); (case hr => first | (go_simp; done) | (go_simp; rfl)); intro gb0 w_ ho_ hb_; replace HO := Aside0.mk ho_; clear ho_ hb_) | ((with_reducible refine gate_dst (N := 20) rfl ?_); refine wpList_load_row rfl 24 (.tmp 2) rfl _ rfl 24 _ (0, 0) _ (HO.out.get 0 rfl) Try.underlying24 rfl (by kernel_rfl) ?_) | ((with_reducible refine gate_dst (N := 26) rfl ?_); refine wpList_load_row rfl 24 (.tmp 2) rfl _ rfl 24 _ (0, 0) _ (HO.out.get 0 rfl) Try.underlying24 rfl (by kernel_rfl) ?_) | ((with_reducible refine gate_dst (N := 33) rfl ?_); refine wpList_load_row rfl 24 (.tmp 2) rfl _ rfl 24 _ (0, 0) _ (HO.out.get 0 rfl) Try.underlying24 rfl (by kernel_rfl) ?_) | ((with_reducible refine gate_dst (N := 38) rfl ?_); refine wpList_load_row rfl 28 (.tmp 8) rfl _ rfl 28 _ (0, 0) _ (HO.out.get 1 rfl) Try.underlying28 rfl (by kernel_rfl) ?_) | ((with_reducible refine gate_dst (N := 62) rfl ?_); refine wpList_load_row rfl 28 (.tmp 8) rfl _ rfl 28 _ (0, 0) _ (HO.out.get 1 rfl) Try.underlying28 rfl (by kernel_rfl) ?_) | ((with_reducible refine gate_dst (N := 93) rfl ?_); refine wpList_load_row rfl 24 (.tmp 2) rfl _ rfl 24 _ (0, 0) _ (HO.out.get 0 rfl) Try.underlying24 rfl (by kernel_rfl) ?_) | ((with_reducible refine gate_dst (N := 8) rfl ?_); refine H.own_box HO.out ?hg (N := 8) ?hd (cs := #[Value.slice none 0 0]) (t := 28) ?hr ?_; (case hd => rfl); (case hg => rfl); (case hr => first | (go_simp; done) | (go_simp; rfl)); intro gx0 w_ ho_ hb_; replace HW := Aside0.mk (Kd.R_below HW.out hb_); replace HLE := Aside0.mk (Nat.le_trans HLE.out hb_.size); replace HO := Aside0.mk ho_; clear ho_ hb_) | ((with_reducible refine gate_store (t := 28) (p := 8) rfl ?_); refine H.own_store HO.out 1 rfl rfl rfl rfl rfl (u := .agg #[Value.slice AXy0_0 y0_0.length cXy0_0]) (seg := [Value.slice AXy0_0 y0_0.length cXy0_0]) rfl rfl (by kernel_rfl) (by simp [Value.oneCell']) (by simp) (cs' := #[Value.slice AXy0_0 y0_0.length cXy0_0]) rfl ?_; intro w_ ho_ hg_; replace HW := Aside0.mk (HO.out.keep 1 rfl HW.out hg_ (by decide)); replace HLE := Aside0.mk (Nat.le_trans HLE.out hg_.size); replace HO := Aside0.mk ho_; clear ho_ hg_))
  obtain ⟨N1, hN1⟩ : ∃ N1, _ = N1 := ⟨w_.heap.size, rfl⟩
  have HN1 := Aside0.mk (show w.heap.size ≤ N1 by rw [← hN1]; exact HO.out.size)
  replace HW := Aside0.mk (Kd.R_mono (ok' := fun k_ => w.heap.size ≤ k_ ∧ k_ < N1) (H.R_upto (Kd.R_lower HW.out HWB.out)) (fun k_ hk_ => by rw [← hN1]; exact hk_))
  clear HWB
  refine (laws_toGraph.calls k _ _ l0_0 y0_0 _ (Kd.C_below HR0_0.out HO.out.below) HC0_0.out HTO0.out).mono ?_
  rintro e w_ ⟨vXy0_0, rfl, hXy0_0, hb⟩
  obtain ⟨AXy0_0, cXy0_0, rfl⟩ := Kd.S_slice hXy0_0
  have HXy0_0 := Aside0.mk (H.S_upto (Kd.S_lower hXy0_0 (show N1 ≤ _ from by rw [← hN1]; exact Nat.le_refl _)))
  replace HO := Aside0.mk (HO.out.step hb)
  replace HW := Aside0.mk (Kd.R_below HW.out hb);
  have HLE := Aside0.mk (show N1 ≤ _ from Nat.le_trans (Nat.le_of_eq hN1.symm) hb.size)
  clear hN1
  clear hb hXy0_0
  go_wp2_with (first | ((with_reducible refine gate_dst (N := 2) rfl ?_); refine H.own_box HO.out ?hg (N := 2) ?hd (cs := #[Value.slice A0_0 l0_0.length c0_0]) (t := 24) ?hr ?_; (case hd => rfl); (case hg => rfl); (case hr => first | (go_simp; done) | (go_simp; rfl)); intro gb0 w_ ho_ hb_; replace HO := Aside0.mk ho_; clear ho_ hb_) | ((with_reducible refine gate_dst (N := 20) rfl ?_); refine wpList_load_row rfl 24 (.tmp 2) rfl _ rfl 24 _ (0, 0) _ (HO.out.get 0 rfl) Try.underlying24 rfl (by kernel_rfl) ?_) | ((with_reducible refine gate_dst (N := 26) rfl ?_); refine wpList_load_row rfl 24 (.tmp 2) rfl _ rfl 24 _ (0, 0) _ (HO.out.get 0 rfl) Try.underlying24 rfl (by kernel_rfl) ?_) | ((with_reducible refine gate_dst (N := 33) rfl ?_); refine wpList_load_row rfl 24 (.tmp 2) rfl _ rfl 24 _ (0, 0) _ (HO.out.get 0 rfl) Try.underlying24 rfl (by kernel_rfl) ?_) | ((with_reducible refine gate_dst (N := 38) rfl ?_); refine wpList_load_row rfl 28 (.tmp 8) rfl _ rfl 28 _ (0, 0) _ (HO.out.get 1 rfl) Try.underlying28 rfl (by kernel_rfl) ?_) | ((with_reducible refine gate_dst (N := 62) rfl ?_); refine wpList_load_row rfl 28 (.tmp 8) rfl _ rfl 28 _ (0, 0) _ (HO.out.get 1 rfl) Try.underlying28 rfl (by kernel_rfl) ?_) | ((with_reducible refine gate_dst (N := 93) rfl ?_); refine wpList_load_row rfl 24 (.tmp 2) rfl _ rfl 24 _ (0, 0) _ (HO.out.get 0 rfl) Try.underlying24 rfl (by kernel_rfl) ?_) | ((with_reducible refine gate_dst (N := 8) rfl ?_); refine H.own_box HO.out ?hg (N := 8) ?hd (cs := #[Value.slice none 0 0]) (t := 28) ?hr ?_; (case hd => rfl); (case hg => rfl); (case hr => first | (go_simp; done) | (go_simp; rfl)); intro gx0 w_ ho_ hb_; replace HW := Aside0.mk (Kd.R_below HW.out hb_); replace HXy0_0 := Aside0.mk (Kd.S_below HXy0_0.out hb_); replace HLE := Aside0.mk (Nat.le_trans HLE.out hb_.size); replace HO := Aside0.mk ho_; clear ho_ hb_) | ((with_reducible refine gate_store (t := 28) (p := 8) rfl ?_); refine H.own_store HO.out 1 rfl rfl rfl rfl rfl (u := .agg #[Value.slice AXy0_0 y0_0.length cXy0_0]) (seg := [Value.slice AXy0_0 y0_0.length cXy0_0]) rfl rfl (by kernel_rfl) (by simp [Value.oneCell']) (by simp) (cs' := #[Value.slice AXy0_0 y0_0.length cXy0_0]) rfl ?_; intro w_ ho_ hg_; replace HW := Aside0.mk (HO.out.keep 1 rfl HW.out hg_ (by decide)); replace HXy0_0 := Aside0.mk (HO.out.keepS 1 rfl HXy0_0.out hg_ (by decide)); replace HLE := Aside0.mk (Nat.le_trans HLE.out hg_.size); replace HO := Aside0.mk ho_; clear ho_ hg_))
  refine (laws_toIntS.calls k _ _ l1 y1 _ (Kd.C_below HR1.out HO.out.below) HC1.out HTO1.out).mono ?_
  rintro e w_ ⟨vXy1, rfl, hXy1, hb⟩
  obtain ⟨AXy1, cXy1, rfl⟩ := Kd.R_slice hXy1
  have HXy1 := Aside0.mk (H.R_upto (Kd.R_lower hXy1 (show N1 ≤ _ from HLE.out)))
  replace HO := Aside0.mk (HO.out.step hb)
  replace HW := Aside0.mk (Kd.R_below HW.out hb)
  replace HXy0_0 := Aside0.mk (Kd.S_below HXy0_0.out hb);
  replace HLE := Aside0.mk (show N1 ≤ _ from Nat.le_trans (HLE.out) hb.size)
  clear hb hXy1
  go_wp2_with (first | ((with_reducible refine gate_dst (N := 2) rfl ?_); refine H.own_box HO.out ?hg (N := 2) ?hd (cs := #[Value.slice A0_0 l0_0.length c0_0]) (t := 24) ?hr ?_; (case hd => rfl); (case hg => rfl); (case hr => first | (go_simp; done) | (go_simp; rfl)); intro gb0 w_ ho_ hb_; replace HO := Aside0.mk ho_; clear ho_ hb_) | ((with_reducible refine gate_dst (N := 20) rfl ?_); refine wpList_load_row rfl 24 (.tmp 2) rfl _ rfl 24 _ (0, 0) _ (HO.out.get 0 rfl) Try.underlying24 rfl (by kernel_rfl) ?_) | ((with_reducible refine gate_dst (N := 26) rfl ?_); refine wpList_load_row rfl 24 (.tmp 2) rfl _ rfl 24 _ (0, 0) _ (HO.out.get 0 rfl) Try.underlying24 rfl (by kernel_rfl) ?_) | ((with_reducible refine gate_dst (N := 33) rfl ?_); refine wpList_load_row rfl 24 (.tmp 2) rfl _ rfl 24 _ (0, 0) _ (HO.out.get 0 rfl) Try.underlying24 rfl (by kernel_rfl) ?_) | ((with_reducible refine gate_dst (N := 38) rfl ?_); refine wpList_load_row rfl 28 (.tmp 8) rfl _ rfl 28 _ (0, 0) _ (HO.out.get 1 rfl) Try.underlying28 rfl (by kernel_rfl) ?_) | ((with_reducible refine gate_dst (N := 62) rfl ?_); refine wpList_load_row rfl 28 (.tmp 8) rfl _ rfl 28 _ (0, 0) _ (HO.out.get 1 rfl) Try.underlying28 rfl (by kernel_rfl) ?_) | ((with_reducible refine gate_dst (N := 93) rfl ?_); refine wpList_load_row rfl 24 (.tmp 2) rfl _ rfl 24 _ (0, 0) _ (HO.out.get 0 rfl) Try.underlying24 rfl (by kernel_rfl) ?_) | ((with_reducible refine gate_dst (N := 8) rfl ?_); refine H.own_box HO.out ?hg (N := 8) ?hd (cs := #[Value.slice none 0 0]) (t := 28) ?hr ?_; (case hd => rfl); (case hg => rfl); (case hr => first | (go_simp; done) | (go_simp; rfl)); intro gx0 w_ ho_ hb_; replace HW := Aside0.mk (Kd.R_below HW.out hb_); replace HXy0_0 := Aside0.mk (Kd.S_below HXy0_0.out hb_); replace HXy1 := Aside0.mk (Kd.R_below HXy1.out hb_); replace HLE := Aside0.mk (Nat.le_trans HLE.out hb_.size); replace HO := Aside0.mk ho_; clear ho_ hb_) | ((with_reducible refine gate_store (t := 28) (p := 8) rfl ?_); refine H.own_store HO.out 1 rfl rfl rfl rfl rfl (u := .agg #[Value.slice AXy0_0 y0_0.length cXy0_0]) (seg := [Value.slice AXy0_0 y0_0.length cXy0_0]) rfl rfl (by kernel_rfl) (by simp [Value.oneCell']) (by simp) (cs' := #[Value.slice AXy0_0 y0_0.length cXy0_0]) rfl ?_; intro w_ ho_ hg_; replace HW := Aside0.mk (HO.out.keep 1 rfl HW.out hg_ (by decide)); replace HXy0_0 := Aside0.mk (HO.out.keepS 1 rfl HXy0_0.out hg_ (by decide)); replace HXy1 := Aside0.mk (HO.out.keep 1 rfl HXy1.out hg_ (by decide)); replace HLE := Aside0.mk (Nat.le_trans HLE.out hg_.size); replace HO := Aside0.mk ho_; clear ho_ hg_))
  obtain ⟨N2, hN2⟩ : ∃ N2, _ = N2 := ⟨w_.heap.size, rfl⟩
  replace HXy0_0 := Aside0.mk (Kd.S_mono (ok' := fun k_ => N1 ≤ k_ ∧ k_ < N2) (H.S_upto HXy0_0.out) (fun k_ hk_ => by rw [← hN2]; exact hk_))
  replace HXy1 := Aside0.mk (Kd.R_mono (ok' := fun k_ => N1 ≤ k_ ∧ k_ < N2) (H.R_upto HXy1.out) (fun k_ hk_ => by rw [← hN2]; exact hk_))
  have HLT := Aside0.mk HO.out.lt
  rw [hN2] at HLT
  have HN2 := Aside0.mk (show w.heap.size ≤ N2 by rw [← hN2]; exact HO.out.size)
  have HN12 := Aside0.mk (show N1 ≤ N2 by rw [← hN2]; exact HLE.out)
  refine (impl_JoinsOf.calls _ _ y0_0 _ _ y1 s1 s2 _ (Kd.S_reads' HXy0_0.out).2.2 (Kd.S_reads' HXy0_0.out).2.1 (Kd.R_reads' HXy1.out).2.2 (Kd.R_reads' HXy1.out).2.1 HIMPL.out).mono ?_
  rintro e w_ ⟨vG, rfl, hs, hb⟩
  obtain ⟨AG, cG, rfl⟩ := Kd.R_slice hs
  replace HO := Aside0.mk (HO.out.step hb)
  replace HW := Aside0.mk (Kd.R_below HW.out hb)
  replace HXy0_0 := Aside0.mk (Kd.S_below HXy0_0.out hb)
  replace HXy1 := Aside0.mk (Kd.R_below HXy1.out hb);
  have HG := Aside0.mk (H.R_upto hs)
  rw [hN2] at HG
  obtain ⟨N3, hN3⟩ : ∃ N3, w_.heap.size = N3 := ⟨_, rfl⟩
  rw [hN3] at HG
  clear hs hb hN2 hN3
  go_wp2_with (first | ((with_reducible refine gate_dst (N := 2) rfl ?_); refine H.own_box HO.out ?hg (N := 2) ?hd (cs := #[Value.slice A0_0 l0_0.length c0_0]) (t := 24) ?hr ?_; (case hd => rfl); (case hg => rfl); (case hr => first | (go_simp; done) | (go_simp; rfl)); intro gb0 w_ ho_ hb_; replace HO := Aside0.mk ho_; clear ho_ hb_) | ((with_reducible refine gate_dst (N := 20) rfl ?_); refine wpList_load_row rfl 24 (.tmp 2) rfl _ rfl 24 _ (0, 0) _ (HO.out.get 0 rfl) Try.underlying24 rfl (by kernel_rfl) ?_) | ((with_reducible refine gate_dst (N := 26) rfl ?_); refine wpList_load_row rfl 24 (.tmp 2) rfl _ rfl 24 _ (0, 0) _ (HO.out.get 0 rfl) Try.underlying24 rfl (by kernel_rfl) ?_) | ((with_reducible refine gate_dst (N := 33) rfl ?_); refine wpList_load_row rfl 24 (.tmp 2) rfl _ rfl 24 _ (0, 0) _ (HO.out.get 0 rfl) Try.underlying24 rfl (by kernel_rfl) ?_) | ((with_reducible refine gate_dst (N := 38) rfl ?_); refine wpList_load_row rfl 28 (.tmp 8) rfl _ rfl 28 _ (0, 0) _ (HO.out.get 1 rfl) Try.underlying28 rfl (by kernel_rfl) ?_) | ((with_reducible refine gate_dst (N := 62) rfl ?_); refine wpList_load_row rfl 28 (.tmp 8) rfl _ rfl 28 _ (0, 0) _ (HO.out.get 1 rfl) Try.underlying28 rfl (by kernel_rfl) ?_) | ((with_reducible refine gate_dst (N := 93) rfl ?_); refine wpList_load_row rfl 24 (.tmp 2) rfl _ rfl 24 _ (0, 0) _ (HO.out.get 0 rfl) Try.underlying24 rfl (by kernel_rfl) ?_))
  refine (laws_eqIntS.calls k _ _ s1 _ _ s1 true _ (Kd.R_reads' HG.out).2.2 (Kd.R_reads' HG.out).2.1 (Kd.R_reads' HW.out).2.2 (Kd.R_reads' HW.out).2.1 HEQR.out).mono ?_
  rintro e w_ ⟨rfl, hd⟩
  replace HO := Aside0.mk (HO.out.step hd.below)
  replace HW := Aside0.mk (Kd.R_below HW.out hd.below)
  replace HXy0_0 := Aside0.mk (Kd.S_below HXy0_0.out hd.below)
  replace HXy1 := Aside0.mk (Kd.R_below HXy1.out hd.below)
  replace HG := Aside0.mk (Kd.R_below HG.out hd.below);
  clear hd
  go_wp2_with (first | ((with_reducible refine gate_dst (N := 2) rfl ?_); refine H.own_box HO.out ?hg (N := 2) ?hd (cs := #[Value.slice A0_0 l0_0.length c0_0]) (t := 24) ?hr ?_; (case hd => rfl); (case hg => rfl); (case hr => first | (go_simp; done) | (go_simp; rfl)); intro gb0 w_ ho_ hb_; replace HO := Aside0.mk ho_; clear ho_ hb_) | ((with_reducible refine gate_dst (N := 20) rfl ?_); refine wpList_load_row rfl 24 (.tmp 2) rfl _ rfl 24 _ (0, 0) _ (HO.out.get 0 rfl) Try.underlying24 rfl (by kernel_rfl) ?_) | ((with_reducible refine gate_dst (N := 26) rfl ?_); refine wpList_load_row rfl 24 (.tmp 2) rfl _ rfl 24 _ (0, 0) _ (HO.out.get 0 rfl) Try.underlying24 rfl (by kernel_rfl) ?_) | ((with_reducible refine gate_dst (N := 33) rfl ?_); refine wpList_load_row rfl 24 (.tmp 2) rfl _ rfl 24 _ (0, 0) _ (HO.out.get 0 rfl) Try.underlying24 rfl (by kernel_rfl) ?_) | ((with_reducible refine gate_dst (N := 38) rfl ?_); refine wpList_load_row rfl 28 (.tmp 8) rfl _ rfl 28 _ (0, 0) _ (HO.out.get 1 rfl) Try.underlying28 rfl (by kernel_rfl) ?_) | ((with_reducible refine gate_dst (N := 62) rfl ?_); refine wpList_load_row rfl 28 (.tmp 8) rfl _ rfl 28 _ (0, 0) _ (HO.out.get 1 rfl) Try.underlying28 rfl (by kernel_rfl) ?_) | ((with_reducible refine gate_dst (N := 93) rfl ?_); refine wpList_load_row rfl 24 (.tmp 2) rfl _ rfl 24 _ (0, 0) _ (HO.out.get 0 rfl) Try.underlying24 rfl (by kernel_rfl) ?_))
  replace HO := Aside0.mk HO.out.drew
  replace HW := Aside0.mk (Kd.R_drew HW.out)
  replace HXy0_0 := Aside0.mk (Kd.S_drew HXy0_0.out)
  replace HXy1 := Aside0.mk (Kd.R_drew HXy1.out)
  replace HG := Aside0.mk (Kd.R_drew HG.out)
  refine start_ (n := 5) (S := fun w' => w'.rangeAt gx0 0 [Value.slice AXy0_0 y0_0.length cXy0_0] ∧ w'.rangeAt gb0 0 [Value.slice A0_0 l0_0.length c0_0]) (ds := []) #[false, false, false, false, false] (by kernel_rfl) rfl rfl ⟨(HO.out.range 1 rfl), (HO.out.range 0 rfl)⟩ (fun hHeld => ?_)
  refine take_ (i := 0) (N := some 52) (v := .agg #[Value.slice AXy0_0 y0_0.length cXy0_0]) (a' := ?_) #[true, false, false, false, false] rfl rfl (by kernel_rfl) (fun _ _ _ h => h) (yieldsIf_load_mid (by rfl) 28 (.tmp 8) rfl gx0 0 rfl [Value.slice AXy0_0 y0_0.length cXy0_0] _ (fun W h => h.1) Try.underlying28 rfl (by kernel_rfl)) hHeld ?_ ?_
  rotate_left
  · simp only [Act.put, List.setIfInBounds_toArray, List.set_cons_zero, List.set_cons_succ, i64_w, i32_w]
    rfl
  refine take_ (i := 1) (N := some 53) (v := .agg #[Value.slice A0_0 l0_0.length c0_0]) (a' := ?_) #[true, true, false, false, false] rfl rfl (by kernel_rfl) (fun _ _ _ h => h) (yieldsIf_load_mid (by rfl) 24 (.tmp 2) rfl gb0 0 rfl [Value.slice A0_0 l0_0.length c0_0] _ (fun W h => h.2) Try.underlying24 rfl (by kernel_rfl)) hHeld ?_ ?_
  rotate_left
  · simp only [Act.put, List.setIfInBounds_toArray, List.set_cons_zero, List.set_cons_succ, i64_w, i32_w]
    rfl
  refine one_ (i := 2) (N := some 54) #[true, true, true, false, false] rfl rfl (by kernel_rfl) (by decide) (fun K hK => ?_)
  refine goes_ Try.func10 (by kernel_rfl) rfl #[.agg #[.slice A0_0 l0_0.length c0_0]] (by rfl) rfl rfl (by simp only [List.map_toArray, List.map_cons, List.map_nil]; rfl) ?_
  with_reducible refine (laws_toGraph.calls k _ _ l0_0 y0_0 _ (Kd.C_below HR0_0.out HO.out.below) HC0_0.out HTO0.out).mono ?_
  rintro e w_ ⟨vEy0_0, rfl, hEy0_0, hb⟩
  refine ⟨_, rfl, ?_⟩
  obtain ⟨AEy0_0, cEy0_0, rfl⟩ := Kd.S_slice hEy0_0
  replace HO := Aside0.mk (HO.out.step hb)
  replace HW := Aside0.mk (Kd.R_below HW.out hb)
  replace HXy0_0 := Aside0.mk (Kd.S_below HXy0_0.out hb)
  replace HXy1 := Aside0.mk (Kd.R_below HXy1.out hb)
  replace HG := Aside0.mk (Kd.R_below HG.out hb);
  have HEy0_0 := Aside0.mk hEy0_0
  clear hb hEy0_0
  refine hK.out _ _ ⟨(HO.out.range 1 rfl), (HO.out.range 0 rfl)⟩ (fun hHeld => ?_)
  clear hK K
  refine norm_ (a' := ?_) ?_ ?_
  rotate_left
  · show Act.put _ (some 54) _ = _
    simp only [Act.put, List.setIfInBounds_toArray, List.set_cons_zero, List.set_cons_succ, i64_w, i32_w]
    rfl
  refine one_ (i := 3) (N := some 55) #[true, true, true, true, false] rfl rfl (by kernel_rfl) (by decide) (fun K hK => ?_)
  refine goes_ Try.func12 (by kernel_rfl) rfl #[.agg #[Value.slice AXy0_0 y0_0.length cXy0_0], .agg #[Value.slice AEy0_0 y0_0.length cEy0_0]] (by rfl) rfl rfl (by simp only [List.map_toArray, List.map_cons, List.map_nil]; rfl) ?_
  with_reducible refine (laws_eqGraph.calls k _ _ y0_0 _ _ y0_0 true _ (Kd.S_reads' HXy0_0.out).2.2 (Kd.S_reads' HXy0_0.out).2.1 (Kd.S_reads' HEy0_0.out).2.2 (Kd.S_reads' HEy0_0.out).2.1 HEQ0.out).mono ?_
  rintro e w_ ⟨rfl, hb⟩
  refine ⟨_, rfl, ?_⟩
  replace HO := Aside0.mk (HO.out.step hb)
  replace HW := Aside0.mk (Kd.R_below HW.out hb)
  replace HXy0_0 := Aside0.mk (Kd.S_below HXy0_0.out hb)
  replace HXy1 := Aside0.mk (Kd.R_below HXy1.out hb)
  replace HG := Aside0.mk (Kd.R_below HG.out hb);
  clear hb
  refine hK.out _ _ ⟨(HO.out.range 1 rfl), (HO.out.range 0 rfl)⟩ (fun hHeld => ?_)
  clear hK K
  refine norm_ (a' := ?_) ?_ ?_
  rotate_left
  · show Act.put _ (some 55) _ = _
    simp only [Act.put, List.setIfInBounds_toArray, List.set_cons_zero, List.set_cons_succ, i64_w, i32_w]
    rfl
  refine pure_ (i := 4) (N := some 56) (v := ?_) (a' := ?_) #[true, true, true, true, true] rfl rfl (by kernel_rfl) (fun _ _ _ h => h) (Or.inl ⟨by rfl, ?_⟩) ?_ ?_
  rotate_left
  · intro w'
    go_simp
    with_reducible rfl
  rotate_left
  · simp only [Act.put, List.setIfInBounds_toArray, List.set_cons_zero, List.set_cons_succ, i64_w, i32_w]
    rfl
  refine done_ (by kernel_rfl) ?_
  clear HEy0_0
  go_wp2_with (first | ((with_reducible refine gate_dst (N := 2) rfl ?_); refine H.own_box HO.out ?hg (N := 2) ?hd (cs := #[Value.slice A0_0 l0_0.length c0_0]) (t := 24) ?hr ?_; (case hd => rfl); (case hg => rfl); (case hr => first | (go_simp; done) | (go_simp; rfl)); intro gb0 w_ ho_ hb_; replace HO := Aside0.mk ho_; clear ho_ hb_) | ((with_reducible refine gate_dst (N := 20) rfl ?_); refine wpList_load_row rfl 24 (.tmp 2) rfl _ rfl 24 _ (0, 0) _ (HO.out.get 0 rfl) Try.underlying24 rfl (by kernel_rfl) ?_) | ((with_reducible refine gate_dst (N := 26) rfl ?_); refine wpList_load_row rfl 24 (.tmp 2) rfl _ rfl 24 _ (0, 0) _ (HO.out.get 0 rfl) Try.underlying24 rfl (by kernel_rfl) ?_) | ((with_reducible refine gate_dst (N := 33) rfl ?_); refine wpList_load_row rfl 24 (.tmp 2) rfl _ rfl 24 _ (0, 0) _ (HO.out.get 0 rfl) Try.underlying24 rfl (by kernel_rfl) ?_) | ((with_reducible refine gate_dst (N := 38) rfl ?_); refine wpList_load_row rfl 28 (.tmp 8) rfl _ rfl 28 _ (0, 0) _ (HO.out.get 1 rfl) Try.underlying28 rfl (by kernel_rfl) ?_) | ((with_reducible refine gate_dst (N := 62) rfl ?_); refine wpList_load_row rfl 28 (.tmp 8) rfl _ rfl 28 _ (0, 0) _ (HO.out.get 1 rfl) Try.underlying28 rfl (by kernel_rfl) ?_) | ((with_reducible refine gate_dst (N := 93) rfl ?_); refine wpList_load_row rfl 24 (.tmp 2) rfl _ rfl 24 _ (0, 0) _ (HO.out.get 0 rfl) Try.underlying24 rfl (by kernel_rfl) ?_))
  refine (laws_toIntS.calls k _ _ l1 y1 _ (Kd.C_below HR1.out HO.out.below) HC1.out HTO1.out).mono ?_
  rintro e w_ ⟨vEy1, rfl, hEy1, hb⟩
  obtain ⟨AEy1, cEy1, rfl⟩ := Kd.R_slice hEy1
  replace HO := Aside0.mk (HO.out.step hb)
  replace HW := Aside0.mk (Kd.R_below HW.out hb)
  replace HXy0_0 := Aside0.mk (Kd.S_below HXy0_0.out hb)
  replace HXy1 := Aside0.mk (Kd.R_below HXy1.out hb)
  replace HG := Aside0.mk (Kd.R_below HG.out hb);
  have HEy1 := Aside0.mk hEy1
  clear hb hEy1
  go_wp2_with (first | ((with_reducible refine gate_dst (N := 2) rfl ?_); refine H.own_box HO.out ?hg (N := 2) ?hd (cs := #[Value.slice A0_0 l0_0.length c0_0]) (t := 24) ?hr ?_; (case hd => rfl); (case hg => rfl); (case hr => first | (go_simp; done) | (go_simp; rfl)); intro gb0 w_ ho_ hb_; replace HO := Aside0.mk ho_; clear ho_ hb_) | ((with_reducible refine gate_dst (N := 20) rfl ?_); refine wpList_load_row rfl 24 (.tmp 2) rfl _ rfl 24 _ (0, 0) _ (HO.out.get 0 rfl) Try.underlying24 rfl (by kernel_rfl) ?_) | ((with_reducible refine gate_dst (N := 26) rfl ?_); refine wpList_load_row rfl 24 (.tmp 2) rfl _ rfl 24 _ (0, 0) _ (HO.out.get 0 rfl) Try.underlying24 rfl (by kernel_rfl) ?_) | ((with_reducible refine gate_dst (N := 33) rfl ?_); refine wpList_load_row rfl 24 (.tmp 2) rfl _ rfl 24 _ (0, 0) _ (HO.out.get 0 rfl) Try.underlying24 rfl (by kernel_rfl) ?_) | ((with_reducible refine gate_dst (N := 38) rfl ?_); refine wpList_load_row rfl 28 (.tmp 8) rfl _ rfl 28 _ (0, 0) _ (HO.out.get 1 rfl) Try.underlying28 rfl (by kernel_rfl) ?_) | ((with_reducible refine gate_dst (N := 62) rfl ?_); refine wpList_load_row rfl 28 (.tmp 8) rfl _ rfl 28 _ (0, 0) _ (HO.out.get 1 rfl) Try.underlying28 rfl (by kernel_rfl) ?_) | ((with_reducible refine gate_dst (N := 93) rfl ?_); refine wpList_load_row rfl 24 (.tmp 2) rfl _ rfl 24 _ (0, 0) _ (HO.out.get 0 rfl) Try.underlying24 rfl (by kernel_rfl) ?_))
  refine (laws_eqIntS.calls k _ _ y1 _ _ y1 true _ (Kd.R_reads' HXy1.out).2.2 (Kd.R_reads' HXy1.out).2.1 (Kd.R_reads' HEy1.out).2.2 (Kd.R_reads' HEy1.out).2.1 HEQ1.out).mono ?_
  rintro e w_ ⟨rfl, hd⟩
  replace HO := Aside0.mk (HO.out.step hd.below)
  replace HW := Aside0.mk (Kd.R_below HW.out hd.below)
  replace HXy0_0 := Aside0.mk (Kd.S_below HXy0_0.out hd.below)
  replace HXy1 := Aside0.mk (Kd.R_below HXy1.out hd.below)
  replace HG := Aside0.mk (Kd.R_below HG.out hd.below);
  clear hd HEy1
  have HRM1 := Aside0.mk (H.Room.of_R HXy1.out (Nat.le_refl _) (fun k_ hk_ _ => hk_.2))
  go_wp2_with (first | ((with_reducible refine gate_dst (N := 2) rfl ?_); refine H.own_box HO.out ?hg (N := 2) ?hd (cs := #[Value.slice A0_0 l0_0.length c0_0]) (t := 24) ?hr ?_; (case hd => rfl); (case hg => rfl); (case hr => first | (go_simp; done) | (go_simp; rfl)); intro gb0 w_ ho_ hb_; replace HO := Aside0.mk ho_; clear ho_ hb_) | ((with_reducible refine gate_dst (N := 20) rfl ?_); refine wpList_load_row rfl 24 (.tmp 2) rfl _ rfl 24 _ (0, 0) _ (HO.out.get 0 rfl) Try.underlying24 rfl (by kernel_rfl) ?_) | ((with_reducible refine gate_dst (N := 26) rfl ?_); refine wpList_load_row rfl 24 (.tmp 2) rfl _ rfl 24 _ (0, 0) _ (HO.out.get 0 rfl) Try.underlying24 rfl (by kernel_rfl) ?_) | ((with_reducible refine gate_dst (N := 33) rfl ?_); refine wpList_load_row rfl 24 (.tmp 2) rfl _ rfl 24 _ (0, 0) _ (HO.out.get 0 rfl) Try.underlying24 rfl (by kernel_rfl) ?_) | ((with_reducible refine gate_dst (N := 38) rfl ?_); refine wpList_load_row rfl 28 (.tmp 8) rfl _ rfl 28 _ (0, 0) _ (HO.out.get 1 rfl) Try.underlying28 rfl (by kernel_rfl) ?_) | ((with_reducible refine gate_dst (N := 62) rfl ?_); refine wpList_load_row rfl 28 (.tmp 8) rfl _ rfl 28 _ (0, 0) _ (HO.out.get 1 rfl) Try.underlying28 rfl (by kernel_rfl) ?_) | ((with_reducible refine gate_dst (N := 93) rfl ?_); refine wpList_load_row rfl 24 (.tmp 2) rfl _ rfl 24 _ (0, 0) _ (HO.out.get 0 rfl) Try.underlying24 rfl (by kernel_rfl) ?_))
  have hm0 : (0 : Int) ≤ 1 := by decide
  have HB := Aside0.mk HB0.out
  obtain ⟨M1, hM1⟩ : ∃ M1 : Int, 1 + (H.total y0_0 : Int) = M1 := ⟨_, rfl⟩
  have hmb1 : M1 + (y1.length : Int) ≤ 4611686018427387904 := by have := HB.out; omega
  have hm1 : 0 ≤ M1 := by omega
  refine (laws_markGraph.tame N1 N2 _ y0_0.length _ 1 _ (H.Rooms.of_S HXy0_0.out (Nat.le_refl _) (fun k_ hk_ _ => hk_.2)) hm0 (by rw [H.sum_total _ _ (Nat.le_refl _), List.take_length]; omega) (by omega)).mono ?_
  rintro e w_ ⟨he, ht⟩
  rw [H.sum_total _ _ (Nat.le_refl _), List.take_length, hM1] at he
  subst he
  replace HRM1 := Aside0.mk (HRM1.out.tame ht)
  replace HO := Aside0.mk (HO.out.tame ht HN1.out (by simp))
  replace HW := Aside0.mk (H.R_tame HW.out ht (.inl (Nat.le_refl _)))
  clear HXy0_0
  replace HG := Aside0.mk (H.R_tame HG.out ht (.inr (Nat.le_refl _)))
  clear ht hM1
  go_wp2_with (first | ((with_reducible refine gate_dst (N := 2) rfl ?_); refine H.own_box HO.out ?hg (N := 2) ?hd (cs := #[Value.slice A0_0 l0_0.length c0_0]) (t := 24) ?hr ?_; (case hd => rfl); (case hg => rfl); (case hr => first | (go_simp; done) | (go_simp; rfl)); intro gb0 w_ ho_ hb_; replace HO := Aside0.mk ho_; clear ho_ hb_) | ((with_reducible refine gate_dst (N := 20) rfl ?_); refine wpList_load_row rfl 24 (.tmp 2) rfl _ rfl 24 _ (0, 0) _ (HO.out.get 0 rfl) Try.underlying24 rfl (by kernel_rfl) ?_) | ((with_reducible refine gate_dst (N := 26) rfl ?_); refine wpList_load_row rfl 24 (.tmp 2) rfl _ rfl 24 _ (0, 0) _ (HO.out.get 0 rfl) Try.underlying24 rfl (by kernel_rfl) ?_) | ((with_reducible refine gate_dst (N := 33) rfl ?_); refine wpList_load_row rfl 24 (.tmp 2) rfl _ rfl 24 _ (0, 0) _ (HO.out.get 0 rfl) Try.underlying24 rfl (by kernel_rfl) ?_) | ((with_reducible refine gate_dst (N := 38) rfl ?_); refine wpList_load_row rfl 28 (.tmp 8) rfl _ rfl 28 _ (0, 0) _ (HO.out.get 1 rfl) Try.underlying28 rfl (by kernel_rfl) ?_) | ((with_reducible refine gate_dst (N := 62) rfl ?_); refine wpList_load_row rfl 28 (.tmp 8) rfl _ rfl 28 _ (0, 0) _ (HO.out.get 1 rfl) Try.underlying28 rfl (by kernel_rfl) ?_) | ((with_reducible refine gate_dst (N := 93) rfl ?_); refine wpList_load_row rfl 24 (.tmp 2) rfl _ rfl 24 _ (0, 0) _ (HO.out.get 0 rfl) Try.underlying24 rfl (by kernel_rfl) ?_))
  obtain ⟨M2, hM2⟩ : ∃ M2 : Int, M1 + (y1.length : Int) = M2 := ⟨_, rfl⟩
  have hmb2 : M2 ≤ 4611686018427387904 := by have := HB.out; omega
  have hm2 : 0 ≤ M2 := by omega
  refine (laws_markIntS.tame N1 N2 _ y1.length M1 _ HRM1.out hm1 (by omega)).mono ?_
  rintro e w_ ⟨he, ht⟩
  rw [hM2] at he
  subst he
  replace HO := Aside0.mk (HO.out.tame ht HN1.out (by simp))
  replace HW := Aside0.mk (H.R_tame HW.out ht (.inl (Nat.le_refl _)))
  clear HXy1
  replace HG := Aside0.mk (H.R_tame HG.out ht (.inr (Nat.le_refl _)))
  clear ht hM2
  go_wp2_with (first | ((with_reducible refine gate_dst (N := 2) rfl ?_); refine H.own_box HO.out ?hg (N := 2) ?hd (cs := #[Value.slice A0_0 l0_0.length c0_0]) (t := 24) ?hr ?_; (case hd => rfl); (case hg => rfl); (case hr => first | (go_simp; done) | (go_simp; rfl)); intro gb0 w_ ho_ hb_; replace HO := Aside0.mk ho_; clear ho_ hb_) | ((with_reducible refine gate_dst (N := 20) rfl ?_); refine wpList_load_row rfl 24 (.tmp 2) rfl _ rfl 24 _ (0, 0) _ (HO.out.get 0 rfl) Try.underlying24 rfl (by kernel_rfl) ?_) | ((with_reducible refine gate_dst (N := 26) rfl ?_); refine wpList_load_row rfl 24 (.tmp 2) rfl _ rfl 24 _ (0, 0) _ (HO.out.get 0 rfl) Try.underlying24 rfl (by kernel_rfl) ?_) | ((with_reducible refine gate_dst (N := 33) rfl ?_); refine wpList_load_row rfl 24 (.tmp 2) rfl _ rfl 24 _ (0, 0) _ (HO.out.get 0 rfl) Try.underlying24 rfl (by kernel_rfl) ?_) | ((with_reducible refine gate_dst (N := 38) rfl ?_); refine wpList_load_row rfl 28 (.tmp 8) rfl _ rfl 28 _ (0, 0) _ (HO.out.get 1 rfl) Try.underlying28 rfl (by kernel_rfl) ?_) | ((with_reducible refine gate_dst (N := 62) rfl ?_); refine wpList_load_row rfl 28 (.tmp 8) rfl _ rfl 28 _ (0, 0) _ (HO.out.get 1 rfl) Try.underlying28 rfl (by kernel_rfl) ?_) | ((with_reducible refine gate_dst (N := 93) rfl ?_); refine wpList_load_row rfl 24 (.tmp 2) rfl _ rfl 24 _ (0, 0) _ (HO.out.get 0 rfl) Try.underlying24 rfl (by kernel_rfl) ?_))
  refine (laws_eqIntS.calls k _ _ s1 _ _ s1 true _ (Kd.R_reads' HG.out).2.2 (Kd.R_reads' HG.out).2.1 (Kd.R_reads' HW.out).2.2 (Kd.R_reads' HW.out).2.1 HEQR.out).mono ?_
  rintro e w_ ⟨rfl, hd⟩
  replace HO := Aside0.mk (HO.out.step hd.below)
  replace HW := Aside0.mk (Kd.R_below HW.out hd.below)
  replace HG := Aside0.mk (Kd.R_below HG.out hd.below);
  clear hd
  go_wp2_with (first | ((with_reducible refine gate_dst (N := 2) rfl ?_); refine H.own_box HO.out ?hg (N := 2) ?hd (cs := #[Value.slice A0_0 l0_0.length c0_0]) (t := 24) ?hr ?_; (case hd => rfl); (case hg => rfl); (case hr => first | (go_simp; done) | (go_simp; rfl)); intro gb0 w_ ho_ hb_; replace HO := Aside0.mk ho_; clear ho_ hb_) | ((with_reducible refine gate_dst (N := 20) rfl ?_); refine wpList_load_row rfl 24 (.tmp 2) rfl _ rfl 24 _ (0, 0) _ (HO.out.get 0 rfl) Try.underlying24 rfl (by kernel_rfl) ?_) | ((with_reducible refine gate_dst (N := 26) rfl ?_); refine wpList_load_row rfl 24 (.tmp 2) rfl _ rfl 24 _ (0, 0) _ (HO.out.get 0 rfl) Try.underlying24 rfl (by kernel_rfl) ?_) | ((with_reducible refine gate_dst (N := 33) rfl ?_); refine wpList_load_row rfl 24 (.tmp 2) rfl _ rfl 24 _ (0, 0) _ (HO.out.get 0 rfl) Try.underlying24 rfl (by kernel_rfl) ?_) | ((with_reducible refine gate_dst (N := 38) rfl ?_); refine wpList_load_row rfl 28 (.tmp 8) rfl _ rfl 28 _ (0, 0) _ (HO.out.get 1 rfl) Try.underlying28 rfl (by kernel_rfl) ?_) | ((with_reducible refine gate_dst (N := 62) rfl ?_); refine wpList_load_row rfl 28 (.tmp 8) rfl _ rfl 28 _ (0, 0) _ (HO.out.get 1 rfl) Try.underlying28 rfl (by kernel_rfl) ?_) | ((with_reducible refine gate_dst (N := 93) rfl ?_); refine wpList_load_row rfl 24 (.tmp 2) rfl _ rfl 24 _ (0, 0) _ (HO.out.get 0 rfl) Try.underlying24 rfl (by kernel_rfl) ?_))
  refine (laws_markIntS.calls k (fun k_ => N2 ≤ k_ ∧ k_ < N3) _ s1 1 _ _ w _ HO.out.below (Kd.R_lower HG.out HN2.out) HMKI.out).mono ?_
  rintro e w_ ⟨he, hs, hb, hk⟩
  rw [HK2.out] at he
  subst he
  replace HO := Aside0.mk (HO.out.kept hk hb (fun x hx hp => by have := HLT.out x hx; omega))
  replace HW := Aside0.mk (H.R_kept2 HW.out hk (.inl HN12.out))
  replace HG := Aside0.mk hs
  clear hs hb hk
  have HG' : Aside0 (∀ W (ok : Nat → Prop), (Kd.int .i64).R 3 W w.heap.size ok (.slice AG s1.length cG) (H.markI s1 1) → (Kd.int .i64).C W AG (H.markI s1 1).length (H.markI s1 1) ∧ (H.markI s1 1).length ≤ cG) := ⟨fun W ok h => by have h2 := Kd.R_reads' h; exact ⟨h2.2.2, by rw [← h2.1]; exact h2.2.1⟩⟩
  go_wp2_with (first | ((with_reducible refine gate_dst (N := 2) rfl ?_); refine H.own_box HO.out ?hg (N := 2) ?hd (cs := #[Value.slice A0_0 l0_0.length c0_0]) (t := 24) ?hr ?_; (case hd => rfl); (case hg => rfl); (case hr => first | (go_simp; done) | (go_simp; rfl)); intro gb0 w_ ho_ hb_; replace HO := Aside0.mk ho_; clear ho_ hb_) | ((with_reducible refine gate_dst (N := 20) rfl ?_); refine wpList_load_row rfl 24 (.tmp 2) rfl _ rfl 24 _ (0, 0) _ (HO.out.get 0 rfl) Try.underlying24 rfl (by kernel_rfl) ?_) | ((with_reducible refine gate_dst (N := 26) rfl ?_); refine wpList_load_row rfl 24 (.tmp 2) rfl _ rfl 24 _ (0, 0) _ (HO.out.get 0 rfl) Try.underlying24 rfl (by kernel_rfl) ?_) | ((with_reducible refine gate_dst (N := 33) rfl ?_); refine wpList_load_row rfl 24 (.tmp 2) rfl _ rfl 24 _ (0, 0) _ (HO.out.get 0 rfl) Try.underlying24 rfl (by kernel_rfl) ?_) | ((with_reducible refine gate_dst (N := 38) rfl ?_); refine wpList_load_row rfl 28 (.tmp 8) rfl _ rfl 28 _ (0, 0) _ (HO.out.get 1 rfl) Try.underlying28 rfl (by kernel_rfl) ?_) | ((with_reducible refine gate_dst (N := 62) rfl ?_); refine wpList_load_row rfl 28 (.tmp 8) rfl _ rfl 28 _ (0, 0) _ (HO.out.get 1 rfl) Try.underlying28 rfl (by kernel_rfl) ?_) | ((with_reducible refine gate_dst (N := 93) rfl ?_); refine wpList_load_row rfl 24 (.tmp 2) rfl _ rfl 24 _ (0, 0) _ (HO.out.get 0 rfl) Try.underlying24 rfl (by kernel_rfl) ?_))
  refine (calls_of_args (by rw [H.markI_len]) (laws_heldIntS.calls k AG cG (H.markI s1 1) 1 _ _ (HG'.out _ _ HG.out).1 (HG'.out _ _ HG.out).2 HHELD.out)).mono ?_
  rintro e w_ ⟨he, hd⟩
  rw [HK2.out] at he
  subst he
  replace HO := Aside0.mk (HO.out.step hd.below)
  replace HW := Aside0.mk (Kd.R_below HW.out hd.below)
  replace HG := Aside0.mk (Kd.R_below HG.out hd.below);
  clear hd
  go_wp2_with (first | ((with_reducible refine gate_dst (N := 2) rfl ?_); refine H.own_box HO.out ?hg (N := 2) ?hd (cs := #[Value.slice A0_0 l0_0.length c0_0]) (t := 24) ?hr ?_; (case hd => rfl); (case hg => rfl); (case hr => first | (go_simp; done) | (go_simp; rfl)); intro gb0 w_ ho_ hb_; replace HO := Aside0.mk ho_; clear ho_ hb_) | ((with_reducible refine gate_dst (N := 20) rfl ?_); refine wpList_load_row rfl 24 (.tmp 2) rfl _ rfl 24 _ (0, 0) _ (HO.out.get 0 rfl) Try.underlying24 rfl (by kernel_rfl) ?_) | ((with_reducible refine gate_dst (N := 26) rfl ?_); refine wpList_load_row rfl 24 (.tmp 2) rfl _ rfl 24 _ (0, 0) _ (HO.out.get 0 rfl) Try.underlying24 rfl (by kernel_rfl) ?_) | ((with_reducible refine gate_dst (N := 33) rfl ?_); refine wpList_load_row rfl 24 (.tmp 2) rfl _ rfl 24 _ (0, 0) _ (HO.out.get 0 rfl) Try.underlying24 rfl (by kernel_rfl) ?_) | ((with_reducible refine gate_dst (N := 38) rfl ?_); refine wpList_load_row rfl 28 (.tmp 8) rfl _ rfl 28 _ (0, 0) _ (HO.out.get 1 rfl) Try.underlying28 rfl (by kernel_rfl) ?_) | ((with_reducible refine gate_dst (N := 62) rfl ?_); refine wpList_load_row rfl 28 (.tmp 8) rfl _ rfl 28 _ (0, 0) _ (HO.out.get 1 rfl) Try.underlying28 rfl (by kernel_rfl) ?_) | ((with_reducible refine gate_dst (N := 93) rfl ?_); refine wpList_load_row rfl 24 (.tmp 2) rfl _ rfl 24 _ (0, 0) _ (HO.out.get 0 rfl) Try.underlying24 rfl (by kernel_rfl) ?_))
  refine (laws_toGraph.calls k _ _ l0_0 y0_0 _ (Kd.C_below HR0_0.out HO.out.below) HC0_0.out HTO0.out).mono ?_
  rintro e w_ ⟨vVy0_0, rfl, hVy0_0, hb⟩
  obtain ⟨AVy0_0, cVy0_0, rfl⟩ := Kd.S_slice hVy0_0
  replace HO := Aside0.mk (HO.out.step hb)
  replace HW := Aside0.mk (Kd.R_below HW.out hb)
  replace HG := Aside0.mk (Kd.R_below HG.out hb);
  have HVy0_0 := Aside0.mk (H.S_upto hVy0_0)
  clear hb hVy0_0
  go_wp2_with (first | ((with_reducible refine gate_dst (N := 2) rfl ?_); refine H.own_box HO.out ?hg (N := 2) ?hd (cs := #[Value.slice A0_0 l0_0.length c0_0]) (t := 24) ?hr ?_; (case hd => rfl); (case hg => rfl); (case hr => first | (go_simp; done) | (go_simp; rfl)); intro gb0 w_ ho_ hb_; replace HO := Aside0.mk ho_; clear ho_ hb_) | ((with_reducible refine gate_dst (N := 20) rfl ?_); refine wpList_load_row rfl 24 (.tmp 2) rfl _ rfl 24 _ (0, 0) _ (HO.out.get 0 rfl) Try.underlying24 rfl (by kernel_rfl) ?_) | ((with_reducible refine gate_dst (N := 26) rfl ?_); refine wpList_load_row rfl 24 (.tmp 2) rfl _ rfl 24 _ (0, 0) _ (HO.out.get 0 rfl) Try.underlying24 rfl (by kernel_rfl) ?_) | ((with_reducible refine gate_dst (N := 33) rfl ?_); refine wpList_load_row rfl 24 (.tmp 2) rfl _ rfl 24 _ (0, 0) _ (HO.out.get 0 rfl) Try.underlying24 rfl (by kernel_rfl) ?_) | ((with_reducible refine gate_dst (N := 38) rfl ?_); refine wpList_load_row rfl 28 (.tmp 8) rfl _ rfl 28 _ (0, 0) _ (HO.out.get 1 rfl) Try.underlying28 rfl (by kernel_rfl) ?_) | ((with_reducible refine gate_dst (N := 62) rfl ?_); refine wpList_load_row rfl 28 (.tmp 8) rfl _ rfl 28 _ (0, 0) _ (HO.out.get 1 rfl) Try.underlying28 rfl (by kernel_rfl) ?_) | ((with_reducible refine gate_dst (N := 93) rfl ?_); refine wpList_load_row rfl 24 (.tmp 2) rfl _ rfl 24 _ (0, 0) _ (HO.out.get 0 rfl) Try.underlying24 rfl (by kernel_rfl) ?_))
  refine (laws_toIntS.calls k _ _ l1 y1 _ (Kd.C_below HR1.out HO.out.below) HC1.out HTO1.out).mono ?_
  rintro e w_ ⟨vVy1, rfl, hVy1, hb⟩
  obtain ⟨AVy1, cVy1, rfl⟩ := Kd.R_slice hVy1
  replace HO := Aside0.mk (HO.out.step hb)
  replace HW := Aside0.mk (Kd.R_below HW.out hb)
  replace HG := Aside0.mk (Kd.R_below HG.out hb)
  replace HVy0_0 := Aside0.mk (Kd.S_below HVy0_0.out hb);
  have HVy1 := Aside0.mk (H.R_upto hVy1)
  clear hb hVy1
  go_wp2_with (first | ((with_reducible refine gate_dst (N := 2) rfl ?_); refine H.own_box HO.out ?hg (N := 2) ?hd (cs := #[Value.slice A0_0 l0_0.length c0_0]) (t := 24) ?hr ?_; (case hd => rfl); (case hg => rfl); (case hr => first | (go_simp; done) | (go_simp; rfl)); intro gb0 w_ ho_ hb_; replace HO := Aside0.mk ho_; clear ho_ hb_) | ((with_reducible refine gate_dst (N := 20) rfl ?_); refine wpList_load_row rfl 24 (.tmp 2) rfl _ rfl 24 _ (0, 0) _ (HO.out.get 0 rfl) Try.underlying24 rfl (by kernel_rfl) ?_) | ((with_reducible refine gate_dst (N := 26) rfl ?_); refine wpList_load_row rfl 24 (.tmp 2) rfl _ rfl 24 _ (0, 0) _ (HO.out.get 0 rfl) Try.underlying24 rfl (by kernel_rfl) ?_) | ((with_reducible refine gate_dst (N := 33) rfl ?_); refine wpList_load_row rfl 24 (.tmp 2) rfl _ rfl 24 _ (0, 0) _ (HO.out.get 0 rfl) Try.underlying24 rfl (by kernel_rfl) ?_) | ((with_reducible refine gate_dst (N := 38) rfl ?_); refine wpList_load_row rfl 28 (.tmp 8) rfl _ rfl 28 _ (0, 0) _ (HO.out.get 1 rfl) Try.underlying28 rfl (by kernel_rfl) ?_) | ((with_reducible refine gate_dst (N := 62) rfl ?_); refine wpList_load_row rfl 28 (.tmp 8) rfl _ rfl 28 _ (0, 0) _ (HO.out.get 1 rfl) Try.underlying28 rfl (by kernel_rfl) ?_) | ((with_reducible refine gate_dst (N := 93) rfl ?_); refine wpList_load_row rfl 24 (.tmp 2) rfl _ rfl 24 _ (0, 0) _ (HO.out.get 0 rfl) Try.underlying24 rfl (by kernel_rfl) ?_))
  refine (impl_JoinsOf.calls _ _ y0_0 _ _ y1 s1 s2 _ (Kd.S_reads' HVy0_0.out).2.2 (Kd.S_reads' HVy0_0.out).2.1 (Kd.R_reads' HVy1.out).2.2 (Kd.R_reads' HVy1.out).2.1 HIMPL.out).mono ?_
  rintro e w_ ⟨vH, rfl, hs, hb⟩
  obtain ⟨AH, cH, rfl⟩ := Kd.R_slice hs
  replace HO := Aside0.mk (HO.out.step hb)
  replace HW := Aside0.mk (Kd.R_below HW.out hb)
  replace HG := Aside0.mk (Kd.R_below HG.out hb)
  replace HVy0_0 := Aside0.mk (Kd.S_below HVy0_0.out hb)
  replace HVy1 := Aside0.mk (Kd.R_below HVy1.out hb);
  have HH := Aside0.mk hs
  clear hs hb
  clear HVy0_0 HVy1
  go_wp2_with (first | ((with_reducible refine gate_dst (N := 2) rfl ?_); refine H.own_box HO.out ?hg (N := 2) ?hd (cs := #[Value.slice A0_0 l0_0.length c0_0]) (t := 24) ?hr ?_; (case hd => rfl); (case hg => rfl); (case hr => first | (go_simp; done) | (go_simp; rfl)); intro gb0 w_ ho_ hb_; replace HO := Aside0.mk ho_; clear ho_ hb_) | ((with_reducible refine gate_dst (N := 20) rfl ?_); refine wpList_load_row rfl 24 (.tmp 2) rfl _ rfl 24 _ (0, 0) _ (HO.out.get 0 rfl) Try.underlying24 rfl (by kernel_rfl) ?_) | ((with_reducible refine gate_dst (N := 26) rfl ?_); refine wpList_load_row rfl 24 (.tmp 2) rfl _ rfl 24 _ (0, 0) _ (HO.out.get 0 rfl) Try.underlying24 rfl (by kernel_rfl) ?_) | ((with_reducible refine gate_dst (N := 33) rfl ?_); refine wpList_load_row rfl 24 (.tmp 2) rfl _ rfl 24 _ (0, 0) _ (HO.out.get 0 rfl) Try.underlying24 rfl (by kernel_rfl) ?_) | ((with_reducible refine gate_dst (N := 38) rfl ?_); refine wpList_load_row rfl 28 (.tmp 8) rfl _ rfl 28 _ (0, 0) _ (HO.out.get 1 rfl) Try.underlying28 rfl (by kernel_rfl) ?_) | ((with_reducible refine gate_dst (N := 62) rfl ?_); refine wpList_load_row rfl 28 (.tmp 8) rfl _ rfl 28 _ (0, 0) _ (HO.out.get 1 rfl) Try.underlying28 rfl (by kernel_rfl) ?_) | ((with_reducible refine gate_dst (N := 93) rfl ?_); refine wpList_load_row rfl 24 (.tmp 2) rfl _ rfl 24 _ (0, 0) _ (HO.out.get 0 rfl) Try.underlying24 rfl (by kernel_rfl) ?_))
  refine (laws_eqIntS.calls k _ _ s1 _ _ s1 true _ (Kd.R_reads' HH.out).2.2 (Kd.R_reads' HH.out).2.1 (Kd.R_reads' HW.out).2.2 (Kd.R_reads' HW.out).2.1 HEQR.out).mono ?_
  rintro e w_ ⟨rfl, hd⟩
  replace HO := Aside0.mk (HO.out.step hd.below)
  replace HW := Aside0.mk (Kd.R_below HW.out hd.below)
  replace HG := Aside0.mk (Kd.R_below HG.out hd.below)
  replace HH := Aside0.mk (Kd.R_below HH.out hd.below);
  clear hd
  go_wp2_with (first | ((with_reducible refine gate_dst (N := 2) rfl ?_); refine H.own_box HO.out ?hg (N := 2) ?hd (cs := #[Value.slice A0_0 l0_0.length c0_0]) (t := 24) ?hr ?_; (case hd => rfl); (case hg => rfl); (case hr => first | (go_simp; done) | (go_simp; rfl)); intro gb0 w_ ho_ hb_; replace HO := Aside0.mk ho_; clear ho_ hb_) | ((with_reducible refine gate_dst (N := 20) rfl ?_); refine wpList_load_row rfl 24 (.tmp 2) rfl _ rfl 24 _ (0, 0) _ (HO.out.get 0 rfl) Try.underlying24 rfl (by kernel_rfl) ?_) | ((with_reducible refine gate_dst (N := 26) rfl ?_); refine wpList_load_row rfl 24 (.tmp 2) rfl _ rfl 24 _ (0, 0) _ (HO.out.get 0 rfl) Try.underlying24 rfl (by kernel_rfl) ?_) | ((with_reducible refine gate_dst (N := 33) rfl ?_); refine wpList_load_row rfl 24 (.tmp 2) rfl _ rfl 24 _ (0, 0) _ (HO.out.get 0 rfl) Try.underlying24 rfl (by kernel_rfl) ?_) | ((with_reducible refine gate_dst (N := 38) rfl ?_); refine wpList_load_row rfl 28 (.tmp 8) rfl _ rfl 28 _ (0, 0) _ (HO.out.get 1 rfl) Try.underlying28 rfl (by kernel_rfl) ?_) | ((with_reducible refine gate_dst (N := 62) rfl ?_); refine wpList_load_row rfl 28 (.tmp 8) rfl _ rfl 28 _ (0, 0) _ (HO.out.get 1 rfl) Try.underlying28 rfl (by kernel_rfl) ?_) | ((with_reducible refine gate_dst (N := 93) rfl ?_); refine wpList_load_row rfl 24 (.tmp 2) rfl _ rfl 24 _ (0, 0) _ (HO.out.get 0 rfl) Try.underlying24 rfl (by kernel_rfl) ?_))
  refine (calls_of_args (by rw [H.markI_len]) (laws_heldIntS.calls k AG cG (H.markI s1 1) 1 _ _ (HG'.out _ _ HG.out).1 (HG'.out _ _ HG.out).2 HHELD.out)).mono ?_
  rintro e w_ ⟨he, hd⟩
  rw [HK2.out] at he
  subst he
  replace HO := Aside0.mk (HO.out.step hd.below)
  replace HW := Aside0.mk (Kd.R_below HW.out hd.below)
  replace HG := Aside0.mk (Kd.R_below HG.out hd.below)
  replace HH := Aside0.mk (Kd.R_below HH.out hd.below);
  clear hd
  go_wp2_with (first | ((with_reducible refine gate_dst (N := 2) rfl ?_); refine H.own_box HO.out ?hg (N := 2) ?hd (cs := #[Value.slice A0_0 l0_0.length c0_0]) (t := 24) ?hr ?_; (case hd => rfl); (case hg => rfl); (case hr => first | (go_simp; done) | (go_simp; rfl)); intro gb0 w_ ho_ hb_; replace HO := Aside0.mk ho_; clear ho_ hb_) | ((with_reducible refine gate_dst (N := 20) rfl ?_); refine wpList_load_row rfl 24 (.tmp 2) rfl _ rfl 24 _ (0, 0) _ (HO.out.get 0 rfl) Try.underlying24 rfl (by kernel_rfl) ?_) | ((with_reducible refine gate_dst (N := 26) rfl ?_); refine wpList_load_row rfl 24 (.tmp 2) rfl _ rfl 24 _ (0, 0) _ (HO.out.get 0 rfl) Try.underlying24 rfl (by kernel_rfl) ?_) | ((with_reducible refine gate_dst (N := 33) rfl ?_); refine wpList_load_row rfl 24 (.tmp 2) rfl _ rfl 24 _ (0, 0) _ (HO.out.get 0 rfl) Try.underlying24 rfl (by kernel_rfl) ?_) | ((with_reducible refine gate_dst (N := 38) rfl ?_); refine wpList_load_row rfl 28 (.tmp 8) rfl _ rfl 28 _ (0, 0) _ (HO.out.get 1 rfl) Try.underlying28 rfl (by kernel_rfl) ?_) | ((with_reducible refine gate_dst (N := 62) rfl ?_); refine wpList_load_row rfl 28 (.tmp 8) rfl _ rfl 28 _ (0, 0) _ (HO.out.get 1 rfl) Try.underlying28 rfl (by kernel_rfl) ?_) | ((with_reducible refine gate_dst (N := 93) rfl ?_); refine wpList_load_row rfl 24 (.tmp 2) rfl _ rfl 24 _ (0, 0) _ (HO.out.get 0 rfl) Try.underlying24 rfl (by kernel_rfl) ?_))
  go_ret
  exact ⟨rfl, HO.out.below⟩
theorem laws_FnExactJoinsOf.calls (k : Nat) (A0_0 : Option Addr) (c0_0 : Nat) (l0_0 : List (List Int)) (A1 : Option Addr) (c1 : Nat) (l1 : List Int) (w : World) (hr0_0 : Kd.C (Kd.slice 3 (Kd.int .i64)) w A0_0 l0_0.length l0_0) (hc0_0 : l0_0.length ≤ c0_0) (hr1 : Kd.C (Kd.int .i64) w A1 l1.length l1) (hc1 : l1.length ≤ c1) (h : laws_FnExactJoinsOf.ok k l0_0 l1) :
    Calls Try.prog 4 #[.agg #[.slice A0_0 l0_0.length c0_0], .slice A1 l1.length c1] w fun e w' => e = .returned (.bool true) ∧ Below w.heap.size w w' := by
  unfold laws_FnExactJoinsOf.ok at h
  rcases h with h | h | h
  · exact laws_FnExactJoinsOf.s0 k A0_0 c0_0 l0_0 A1 c1 l1 w hr0_0 hc0_0 hr1 hc1 h
  · exact laws_FnExactJoinsOf.s1 k A0_0 c0_0 l0_0 A1 c1 l1 w hr0_0 hc0_0 hr1 hc1 h
  · exact laws_FnExactJoinsOf.whole k A0_0 c0_0 l0_0 A1 c1 l1 w hr0_0 hc0_0 hr1 hc1 h
end Go.Proofs.Ytndkblahnihhjaa.P

namespace Go.Proofs.Ytndkblahnihhjaa.Q
open Go.RowKit Go.Proofs.Ytndkblahnihhjaa.P Go.Proofs.Ytndkblahnihhjaa.H Go.Proofs.YtndkblahnihhjaaW.PrintWords
theorem joinsOf_of (l0_0 : List (List Int)) (l1 : List Int) (hl0 : Len (Len I64) l0_0) (core : Small l0_0 → l1.length ≤ 1048576 → ∃ (s1 : List Int) (s2 : Bool), Ev (fun k => spec_JoinsOf.f k l0_0 l1) (s1, s2) ∧ impl_JoinsOf.f l0_0 l1 = some (s1, s2) ∧ s1.length ≤ 1048576) : ∃ k, laws_FnExactJoinsOf.ok k l0_0 l1 := by
  unfold laws_FnExactJoinsOf.ok
  by_cases hc1 : l1.length ≤ 1048576
  case neg =>
    exact ⟨0, .inl (by unfold laws_FnExactJoinsOf.skip0; omega)⟩
  obtain ⟨z0, ⟨Kz0, hz0⟩, hcase0⟩ := szGraph_ev l0_0 1048576 (by decide) (by decide) hl0
  rcases hcase0 with hneg0 | ⟨h00, h10', hs0⟩
  case inl =>
    exact ⟨Kz0, .inr (.inl (by unfold laws_FnExactJoinsOf.skip1; exact ⟨z0, hc1, hz0 _ (by omega), hneg0⟩))⟩
  obtain ⟨s1, s2, ⟨Ksp, hsp⟩, him, hsm⟩ := core hs0 hc1
  obtain ⟨Keq, heq⟩ := eqIntS_ev s1 hsm
  obtain ⟨Khd, hhd⟩ := heldI_ev s1 1 (by decide) (by omega)
  obtain ⟨Kmk, hmk⟩ := markI_ev s1 1 (by decide) (by omega)
  obtain ⟨Kt0, ht0⟩ := toGraph_ev l0_0 hs0
  obtain ⟨Ke0, he0⟩ := eqGraph_ev l0_0 hs0
  have hty0 := total_small hs0
  have hln0 := hs0.1
  obtain ⟨Kt1, ht1⟩ := toIntS_ev l1 hc1
  obtain ⟨Ke1, he1⟩ := eqIntS_ev l1 hc1
  refine ⟨Kz0 + Ksp + Keq + Khd + Kmk + Kt0 + Ke0 + Kt1 + Ke1, .inr (.inr (?_))⟩
  unfold laws_FnExactJoinsOf.good
  exact ⟨z0, l0_0, l1, s1, s2, hz0 _ (by omega), h00, hc1, ht0 _ (by omega), ht1 _ (by omega), hsp _ (by omega), him, heq _ (by omega), he0 _ (by omega), he1 _ (by omega), by omega, hhd _ (by omega), hmk _ (by omega), hln0, by omega⟩
end Go.Proofs.Ytndkblahnihhjaa.Q

namespace Go.Proofs.Ytndkblahnihhjaa.Q
open Go.RowKit Go.Proofs.Ytndkblahnihhjaa.P Go.Proofs.Ytndkblahnihhjaa.H Go.Proofs.YtndkblahnihhjaaW.PrintWords
theorem joinsOf_law (g : List (List Int)) (l : List Int) (hn : g.length ≤ 9223372036854775807) (hl : Len (Len I64) g) (hn1 : l.length ≤ 9223372036854775807) (hl1 : ∀ y ∈ l, I64 y) : ∃ k, laws_FnExactJoinsOf.ok k g l := joinsOf_of g l hl (fun hg h1 => by
  obtain ⟨s1, s2, a, b, c, _⟩ := joinsOf_core g l hg h1
  exact ⟨s1, s2, a, b, c⟩)
theorem opensInt : Opens Try.prog 3 (Kd.int .i64) I64 := Opens.int Try.underlying3
end Go.Proofs.Ytndkblahnihhjaa.Q
