import Derived.Test.YtndkblahnihhjaaMFnExactOwnerAt1
import Derived.Test.YtndkblahnihhjaaMFnExactOwnerAt2
import Derived.Test.YtndkblahnihhjaaMFnExactOwnerAt3
import Derived.Test.YtndkblahnihhjaaMFnExactOwnerAt4
import Derived.Test.YtndkblahnihhjaaMFnExactOwnerAt5
set_option linter.unusedVariables false
set_option linter.unusedSimpArgs false
namespace Go.Proofs.Ytndkblahnihhjaa.P
open Go.RowKit Go.Proofs.YtndkblahnihhjaaW.PrintWords Go.Proofs.YtndkblahnihhjaaW.PrintLast Go.Proofs.YtndkblahnihhjaaW.PrintMore
attribute [local go_sem] max2_int min2_int max_two min_two max_three min_three max_four min_four
def laws_FnExactOwnerAt.good (k : Nat) (l0_0 : List (List Int)) (l1 : List Int) : Prop := ∃ z0 : Int, ∃ y0_0 : List (List Int), ∃ y1 : List Int, ∃ (s1 : List Int) (s2 : Bool), laws_szGraph.f k l0_0 1048576 = some z0 ∧ 0 ≤ z0 ∧ l1.length ≤ 1048576 ∧ laws_toGraph.f k l0_0 = some y0_0 ∧ laws_toIntS.f k l1 = some y1 ∧ spec_OwnerAt.f k y0_0 y1 = some (s1, s2) ∧ impl_OwnerAt.f y0_0 y1 = some (s1, s2) ∧ laws_eqIntS.f k s1 s1 = some true ∧ laws_eqGraph.f k y0_0 y0_0 = some true ∧ laws_eqIntS.f k y1 y1 = some true ∧ 1 + (s1.length : Int) ≤ 4611686018427387904 ∧ laws_heldIntS.f k (H.markI s1 1) 1 = some (1 + (s1.length : Int)) ∧ laws_markIntS.f k s1 1 = some (1 + (s1.length : Int), H.markI s1 1) ∧ y0_0.length ≤ 1048576 ∧ 1 + ((H.total y0_0 : Int) + (y1.length : Int) : Int) ≤ 4611686018427387904
def laws_FnExactOwnerAt.skip0 (k : Nat) (l0_0 : List (List Int)) (l1 : List Int) : Prop := 1048576 < l1.length
def laws_FnExactOwnerAt.skip1 (k : Nat) (l0_0 : List (List Int)) (l1 : List Int) : Prop := ∃ z0 : Int, l1.length ≤ 1048576 ∧ laws_szGraph.f k l0_0 1048576 = some z0 ∧ z0 < 0
def laws_FnExactOwnerAt.ok (k : Nat) (l0_0 : List (List Int)) (l1 : List Int) : Prop := laws_FnExactOwnerAt.skip0 k l0_0 l1 ∨ laws_FnExactOwnerAt.skip1 k l0_0 l1 ∨ laws_FnExactOwnerAt.good k l0_0 l1
set_option maxHeartbeats 8000000 in
set_option maxRecDepth 100000 in
theorem laws_FnExactOwnerAt.s0 (k : Nat) (A0_0 : Option Addr) (c0_0 : Nat) (l0_0 : List (List Int)) (A1 : Option Addr) (c1 : Nat) (l1 : List Int) (w : World) (hr0_0 : Kd.C (Kd.slice 3 (Kd.int .i64)) w A0_0 l0_0.length l0_0) (hc0_0 : l0_0.length ≤ c0_0) (hr1 : Kd.C (Kd.int .i64) w A1 l1.length l1) (hc1 : l1.length ≤ c1) (h : laws_FnExactOwnerAt.skip0 k l0_0 l1) :
    Calls Try.prog 5 #[.agg #[.slice A0_0 l0_0.length c0_0], .slice A1 l1.length c1] w fun e w' => e = .returned (.bool true) ∧ Below w.heap.size w w' := by
  have HR0_0 := Aside0.mk hr0_0
  have HC0_0 := Aside0.mk hc0_0
  have HR1 := Aside0.mk hr1
  have HC1 := Aside0.mk hc1
  clear hr0_0 hc0_0 hr1 hc1
  have HO := Aside0.mk (H.Own.nil w)
  unfold laws_FnExactOwnerAt.skip0 at h
  have hl1 := h
  have hll1 : (1048576 : Int) < (l1.length : Int) := by omega
  go_enter Try.func5, Try.ntmps5
  go_wp2_with (first | ((with_reducible refine gate_dst (N := 2) rfl ?_); refine H.own_box HO.out ?hg (N := 2) ?hd (cs := #[Value.slice A0_0 l0_0.length c0_0]) (t := 24) ?hr ?_; (case hd => rfl); (case hg => rfl); (case hr => first | (go_simp; done) | (go_simp; rfl)); intro gb0 w_ ho_ hb_; replace HO := Aside0.mk ho_; clear ho_ hb_) | ((with_reducible refine gate_dst (N := 20) rfl ?_); refine wpList_load_row rfl 24 (.tmp 2) rfl _ rfl 24 _ (0, 0) _ (HO.out.get 0 rfl) Try.underlying24 rfl (by kernel_rfl) ?_) | ((with_reducible refine gate_dst (N := 26) rfl ?_); refine wpList_load_row rfl 24 (.tmp 2) rfl _ rfl 24 _ (0, 0) _ (HO.out.get 0 rfl) Try.underlying24 rfl (by kernel_rfl) ?_) | ((with_reducible refine gate_dst (N := 33) rfl ?_); refine wpList_load_row rfl 24 (.tmp 2) rfl _ rfl 24 _ (0, 0) _ (HO.out.get 0 rfl) Try.underlying24 rfl (by kernel_rfl) ?_) | ((with_reducible refine gate_dst (N := 38) rfl ?_); refine wpList_load_row rfl 28 (.tmp 8) rfl _ rfl 28 _ (0, 0) _ (HO.out.get 1 rfl) Try.underlying28 rfl (by kernel_rfl) ?_) | ((with_reducible refine gate_dst (N := 62) rfl ?_); refine wpList_load_row rfl 28 (.tmp 8) rfl _ rfl 28 _ (0, 0) _ (HO.out.get 1 rfl) Try.underlying28 rfl (by kernel_rfl) ?_) | ((with_reducible refine gate_dst (N := 93) rfl ?_); refine wpList_load_row rfl 24 (.tmp 2) rfl _ rfl 24 _ (0, 0) _ (HO.out.get 0 rfl) Try.underlying24 rfl (by kernel_rfl) ?_))
  go_ret
  exact ⟨rfl, HO.out.below⟩
set_option maxHeartbeats 8000000 in
set_option maxRecDepth 100000 in
theorem laws_FnExactOwnerAt.s1 (k : Nat) (A0_0 : Option Addr) (c0_0 : Nat) (l0_0 : List (List Int)) (A1 : Option Addr) (c1 : Nat) (l1 : List Int) (w : World) (hr0_0 : Kd.C (Kd.slice 3 (Kd.int .i64)) w A0_0 l0_0.length l0_0) (hc0_0 : l0_0.length ≤ c0_0) (hr1 : Kd.C (Kd.int .i64) w A1 l1.length l1) (hc1 : l1.length ≤ c1) (h : laws_FnExactOwnerAt.skip1 k l0_0 l1) :
    Calls Try.prog 5 #[.agg #[.slice A0_0 l0_0.length c0_0], .slice A1 l1.length c1] w fun e w' => e = .returned (.bool true) ∧ Below w.heap.size w w' := by
  have HR0_0 := Aside0.mk hr0_0
  have HC0_0 := Aside0.mk hc0_0
  have HR1 := Aside0.mk hr1
  have HC1 := Aside0.mk hc1
  clear hr0_0 hc0_0 hr1 hc1
  have HO := Aside0.mk (H.Own.nil w)
  unfold laws_FnExactOwnerAt.skip1 at h
  obtain ⟨z0, hl1, ⟨hsz0, hz0⟩⟩ := h
  have hll1 : ¬ (1048576 : Int) < (l1.length : Int) := by omega
  have HSZ0 := Aside0.mk hsz0
  clear hsz0
  go_enter Try.func5, Try.ntmps5
  go_wp2_with (first | ((with_reducible refine gate_dst (N := 2) rfl ?_); refine H.own_box HO.out ?hg (N := 2) ?hd (cs := #[Value.slice A0_0 l0_0.length c0_0]) (t := 24) ?hr ?_; (case hd => rfl); (case hg => rfl); (case hr => first | (go_simp; done) | (go_simp; rfl)); intro gb0 w_ ho_ hb_; replace HO := Aside0.mk ho_; clear ho_ hb_) | ((with_reducible refine gate_dst (N := 20) rfl ?_); refine wpList_load_row rfl 24 (.tmp 2) rfl _ rfl 24 _ (0, 0) _ (HO.out.get 0 rfl) Try.underlying24 rfl (by kernel_rfl) ?_) | ((with_reducible refine gate_dst (N := 26) rfl ?_); refine wpList_load_row rfl 24 (.tmp 2) rfl _ rfl 24 _ (0, 0) _ (HO.out.get 0 rfl) Try.underlying24 rfl (by kernel_rfl) ?_) | ((with_reducible refine gate_dst (N := 33) rfl ?_); refine wpList_load_row rfl 24 (.tmp 2) rfl _ rfl 24 _ (0, 0) _ (HO.out.get 0 rfl) Try.underlying24 rfl (by kernel_rfl) ?_) | ((with_reducible refine gate_dst (N := 38) rfl ?_); refine wpList_load_row rfl 28 (.tmp 8) rfl _ rfl 28 _ (0, 0) _ (HO.out.get 1 rfl) Try.underlying28 rfl (by kernel_rfl) ?_) | ((with_reducible refine gate_dst (N := 62) rfl ?_); refine wpList_load_row rfl 28 (.tmp 8) rfl _ rfl 28 _ (0, 0) _ (HO.out.get 1 rfl) Try.underlying28 rfl (by kernel_rfl) ?_) | ((with_reducible refine gate_dst (N := 93) rfl ?_); refine wpList_load_row rfl 24 (.tmp 2) rfl _ rfl 24 _ (0, 0) _ (HO.out.get 0 rfl) Try.underlying24 rfl (by kernel_rfl) ?_))
  refine (laws_szGraph.calls k _ _ l0_0 1048576 z0 _ (Kd.C_below HR0_0.out HO.out.below) HC0_0.out HSZ0.out).mono ?_
  rintro e w_ ⟨rfl, hb⟩
  replace HO := Aside0.mk (HO.out.step hb)
  clear hb
  go_wp2_with (first | ((with_reducible refine gate_dst (N := 2) rfl ?_); refine H.own_box HO.out ?hg (N := 2) ?hd (cs := #[Value.slice A0_0 l0_0.length c0_0]) (t := 24) ?hr ?_; (case hd => rfl); (case hg => rfl); (case hr => first | (go_simp; done) | (go_simp; rfl)); intro gb0 w_ ho_ hb_; replace HO := Aside0.mk ho_; clear ho_ hb_) | ((with_reducible refine gate_dst (N := 20) rfl ?_); refine wpList_load_row rfl 24 (.tmp 2) rfl _ rfl 24 _ (0, 0) _ (HO.out.get 0 rfl) Try.underlying24 rfl (by kernel_rfl) ?_) | ((with_reducible refine gate_dst (N := 26) rfl ?_); refine wpList_load_row rfl 24 (.tmp 2) rfl _ rfl 24 _ (0, 0) _ (HO.out.get 0 rfl) Try.underlying24 rfl (by kernel_rfl) ?_) | ((with_reducible refine gate_dst (N := 33) rfl ?_); refine wpList_load_row rfl 24 (.tmp 2) rfl _ rfl 24 _ (0, 0) _ (HO.out.get 0 rfl) Try.underlying24 rfl (by kernel_rfl) ?_) | ((with_reducible refine gate_dst (N := 38) rfl ?_); refine wpList_load_row rfl 28 (.tmp 8) rfl _ rfl 28 _ (0, 0) _ (HO.out.get 1 rfl) Try.underlying28 rfl (by kernel_rfl) ?_) | ((with_reducible refine gate_dst (N := 62) rfl ?_); refine wpList_load_row rfl 28 (.tmp 8) rfl _ rfl 28 _ (0, 0) _ (HO.out.get 1 rfl) Try.underlying28 rfl (by kernel_rfl) ?_) | ((with_reducible refine gate_dst (N := 93) rfl ?_); refine wpList_load_row rfl 24 (.tmp 2) rfl _ rfl 24 _ (0, 0) _ (HO.out.get 0 rfl) Try.underlying24 rfl (by kernel_rfl) ?_))
  go_ret
  exact ⟨rfl, HO.out.below⟩
set_option maxHeartbeats 8000000 in
set_option maxRecDepth 100000 in
theorem laws_FnExactOwnerAt.whole (k : Nat) (A0_0 : Option Addr) (c0_0 : Nat) (l0_0 : List (List Int)) (A1 : Option Addr) (c1 : Nat) (l1 : List Int) (w : World) (hr0_0 : Kd.C (Kd.slice 3 (Kd.int .i64)) w A0_0 l0_0.length l0_0) (hc0_0 : l0_0.length ≤ c0_0) (hr1 : Kd.C (Kd.int .i64) w A1 l1.length l1) (hc1 : l1.length ≤ c1) (h : laws_FnExactOwnerAt.good k l0_0 l1) :
    Calls Try.prog 5 #[.agg #[.slice A0_0 l0_0.length c0_0], .slice A1 l1.length c1] w fun e w' => e = .returned (.bool true) ∧ Below w.heap.size w w' := by
  have HR0_0 := Aside0.mk hr0_0
  have HC0_0 := Aside0.mk hc0_0
  have HR1 := Aside0.mk hr1
  have HC1 := Aside0.mk hc1
  clear hr0_0 hc0_0 hr1 hc1
  have HO := Aside0.mk (H.Own.nil w)
  unfold laws_FnExactOwnerAt.good at h
  obtain ⟨z0, y0_0, y1, s1, s2, hsz0, hz0, hl1, hto0, hto1, hspec, himpl, heqr, heq0, heq1, htot, hheld, hmki, hyl0, hb0⟩ := h
  have hll1 : ¬ (1048576 : Int) < (l1.length : Int) := by omega
  have HSZ0 := Aside0.mk hsz0
  have HTO0 := Aside0.mk hto0
  have HTO1 := Aside0.mk hto1
  have HSPEC := Aside0.mk hspec
  have HIMPL := Aside0.mk himpl
  have HEQR := Aside0.mk heqr
  have HEQ0 := Aside0.mk heq0
  have HEQ1 := Aside0.mk heq1
  have HTOT := Aside0.mk htot
  have HHELD := Aside0.mk hheld
  have HMKI := Aside0.mk hmki
  have HB0 := Aside0.mk hb0
  clear hsz0 hto0 hto1 hspec himpl heqr heq0 heq1 htot hheld hmki hb0
  obtain ⟨K2, hK2⟩ : ∃ K2 : Int, 1 + (s1.length : Int) = K2 := ⟨_, rfl⟩
  have hk2 : 0 ≤ K2 := by omega
  have HK2 := Aside0.mk hK2
  clear hK2
  have HSZW := Aside0.mk (rfl : w.heap.size = w.heap.size)
  go_enter Try.func5, Try.ntmps5
  go_wp2_with (first | ((with_reducible refine gate_dst (N := 2) rfl ?_); refine H.own_box HO.out ?hg (N := 2) ?hd (cs := #[Value.slice A0_0 l0_0.length c0_0]) (t := 24) ?hr ?_; (case hd => rfl); (case hg => rfl); (case hr => first | (go_simp; done) | (go_simp; rfl)); intro gb0 w_ ho_ hb_; replace HO := Aside0.mk ho_; clear ho_ hb_) | ((with_reducible refine gate_dst (N := 20) rfl ?_); refine wpList_load_row rfl 24 (.tmp 2) rfl _ rfl 24 _ (0, 0) _ (HO.out.get 0 rfl) Try.underlying24 rfl (by kernel_rfl) ?_) | ((with_reducible refine gate_dst (N := 26) rfl ?_); refine wpList_load_row rfl 24 (.tmp 2) rfl _ rfl 24 _ (0, 0) _ (HO.out.get 0 rfl) Try.underlying24 rfl (by kernel_rfl) ?_) | ((with_reducible refine gate_dst (N := 33) rfl ?_); refine wpList_load_row rfl 24 (.tmp 2) rfl _ rfl 24 _ (0, 0) _ (HO.out.get 0 rfl) Try.underlying24 rfl (by kernel_rfl) ?_) | ((with_reducible refine gate_dst (N := 38) rfl ?_); refine wpList_load_row rfl 28 (.tmp 8) rfl _ rfl 28 _ (0, 0) _ (HO.out.get 1 rfl) Try.underlying28 rfl (by kernel_rfl) ?_) | ((with_reducible refine gate_dst (N := 62) rfl ?_); refine wpList_load_row rfl 28 (.tmp 8) rfl _ rfl 28 _ (0, 0) _ (HO.out.get 1 rfl) Try.underlying28 rfl (by kernel_rfl) ?_) | ((with_reducible refine gate_dst (N := 93) rfl ?_); refine wpList_load_row rfl 24 (.tmp 2) rfl _ rfl 24 _ (0, 0) _ (HO.out.get 0 rfl) Try.underlying24 rfl (by kernel_rfl) ?_))
  refine (laws_szGraph.calls k _ _ l0_0 1048576 z0 _ (Kd.C_below HR0_0.out HO.out.below) HC0_0.out HSZ0.out).mono ?_
  rintro e w_ ⟨rfl, hb⟩
  replace HO := Aside0.mk (HO.out.step hb)
  clear hb
  go_wp2_with (first | ((with_reducible refine gate_dst (N := 2) rfl ?_); refine H.own_box HO.out ?hg (N := 2) ?hd (cs := #[Value.slice A0_0 l0_0.length c0_0]) (t := 24) ?hr ?_; (case hd => rfl); (case hg => rfl); (case hr => first | (go_simp; done) | (go_simp; rfl)); intro gb0 w_ ho_ hb_; replace HO := Aside0.mk ho_; clear ho_ hb_) | ((with_reducible refine gate_dst (N := 20) rfl ?_); refine wpList_load_row rfl 24 (.tmp 2) rfl _ rfl 24 _ (0, 0) _ (HO.out.get 0 rfl) Try.underlying24 rfl (by kernel_rfl) ?_) | ((with_reducible refine gate_dst (N := 26) rfl ?_); refine wpList_load_row rfl 24 (.tmp 2) rfl _ rfl 24 _ (0, 0) _ (HO.out.get 0 rfl) Try.underlying24 rfl (by kernel_rfl) ?_) | ((with_reducible refine gate_dst (N := 33) rfl ?_); refine wpList_load_row rfl 24 (.tmp 2) rfl _ rfl 24 _ (0, 0) _ (HO.out.get 0 rfl) Try.underlying24 rfl (by kernel_rfl) ?_) | ((with_reducible refine gate_dst (N := 38) rfl ?_); refine wpList_load_row rfl 28 (.tmp 8) rfl _ rfl 28 _ (0, 0) _ (HO.out.get 1 rfl) Try.underlying28 rfl (by kernel_rfl) ?_) | ((with_reducible refine gate_dst (N := 62) rfl ?_); refine wpList_load_row rfl 28 (.tmp 8) rfl _ rfl 28 _ (0, 0) _ (HO.out.get 1 rfl) Try.underlying28 rfl (by kernel_rfl) ?_) | ((with_reducible refine gate_dst (N := 93) rfl ?_); refine wpList_load_row rfl 24 (.tmp 2) rfl _ rfl 24 _ (0, 0) _ (HO.out.get 0 rfl) Try.underlying24 rfl (by kernel_rfl) ?_))
  refine (laws_toGraph.calls k _ _ l0_0 y0_0 _ (Kd.C_below HR0_0.out HO.out.below) HC0_0.out HTO0.out).mono ?_
  rintro e w_ ⟨vTy0_0, rfl, hTy0_0, hb⟩
  obtain ⟨ATy0_0, cTy0_0, rfl⟩ := Kd.S_slice hTy0_0
  replace HO := Aside0.mk (HO.out.step hb)
  have HTy0_0 := Aside0.mk (H.S_upto hTy0_0)
  clear hb hTy0_0
  go_wp2_with (first | ((with_reducible refine gate_dst (N := 2) rfl ?_); refine H.own_box HO.out ?hg (N := 2) ?hd (cs := #[Value.slice A0_0 l0_0.length c0_0]) (t := 24) ?hr ?_; (case hd => rfl); (case hg => rfl); (case hr => first | (go_simp; done) | (go_simp; rfl)); intro gb0 w_ ho_ hb_; replace HO := Aside0.mk ho_; clear ho_ hb_) | ((with_reducible refine gate_dst (N := 20) rfl ?_); refine wpList_load_row rfl 24 (.tmp 2) rfl _ rfl 24 _ (0, 0) _ (HO.out.get 0 rfl) Try.underlying24 rfl (by kernel_rfl) ?_) | ((with_reducible refine gate_dst (N := 26) rfl ?_); refine wpList_load_row rfl 24 (.tmp 2) rfl _ rfl 24 _ (0, 0) _ (HO.out.get 0 rfl) Try.underlying24 rfl (by kernel_rfl) ?_) | ((with_reducible refine gate_dst (N := 33) rfl ?_); refine wpList_load_row rfl 24 (.tmp 2) rfl _ rfl 24 _ (0, 0) _ (HO.out.get 0 rfl) Try.underlying24 rfl (by kernel_rfl) ?_) | ((with_reducible refine gate_dst (N := 38) rfl ?_); refine wpList_load_row rfl 28 (.tmp 8) rfl _ rfl 28 _ (0, 0) _ (HO.out.get 1 rfl) Try.underlying28 rfl (by kernel_rfl) ?_) | ((with_reducible refine gate_dst (N := 62) rfl ?_); refine wpList_load_row rfl 28 (.tmp 8) rfl _ rfl 28 _ (0, 0) _ (HO.out.get 1 rfl) Try.underlying28 rfl (by kernel_rfl) ?_) | ((with_reducible refine gate_dst (N := 93) rfl ?_); refine wpList_load_row rfl 24 (.tmp 2) rfl _ rfl 24 _ (0, 0) _ (HO.out.get 0 rfl) Try.underlying24 rfl (by kernel_rfl) ?_))
  refine (laws_toIntS.calls k _ _ l1 y1 _ (Kd.C_below HR1.out HO.out.below) HC1.out HTO1.out).mono ?_
  rintro e w_ ⟨vTy1, rfl, hTy1, hb⟩
  obtain ⟨ATy1, cTy1, rfl⟩ := Kd.R_slice hTy1
  replace HO := Aside0.mk (HO.out.step hb)
  replace HTy0_0 := Aside0.mk (Kd.S_below HTy0_0.out hb);
  have HTy1 := Aside0.mk (H.R_upto hTy1)
  clear hb hTy1
  go_wp2_with (first | ((with_reducible refine gate_dst (N := 2) rfl ?_); refine H.own_box HO.out ?hg (N := 2) ?hd (cs := #[Value.slice A0_0 l0_0.length c0_0]) (t := 24) ?hr ?_; (case hd => rfl); (case hg => rfl); (case hr => first | (go_simp; done) | (go_simp; rfl)); intro gb0 w_ ho_ hb_; replace HO := Aside0.mk ho_; clear ho_ hb_) | ((with_reducible refine gate_dst (N := 20) rfl ?_); refine wpList_load_row rfl 24 (.tmp 2) rfl _ rfl 24 _ (0, 0) _ (HO.out.get 0 rfl) Try.underlying24 rfl (by kernel_rfl) ?_) | ((with_reducible refine gate_dst (N := 26) rfl ?_); refine wpList_load_row rfl 24 (.tmp 2) rfl _ rfl 24 _ (0, 0) _ (HO.out.get 0 rfl) Try.underlying24 rfl (by kernel_rfl) ?_) | ((with_reducible refine gate_dst (N := 33) rfl ?_); refine wpList_load_row rfl 24 (.tmp 2) rfl _ rfl 24 _ (0, 0) _ (HO.out.get 0 rfl) Try.underlying24 rfl (by kernel_rfl) ?_) | ((with_reducible refine gate_dst (N := 38) rfl ?_); refine wpList_load_row rfl 28 (.tmp 8) rfl _ rfl 28 _ (0, 0) _ (HO.out.get 1 rfl) Try.underlying28 rfl (by kernel_rfl) ?_) | ((with_reducible refine gate_dst (N := 62) rfl ?_); refine wpList_load_row rfl 28 (.tmp 8) rfl _ rfl 28 _ (0, 0) _ (HO.out.get 1 rfl) Try.underlying28 rfl (by kernel_rfl) ?_) | ((with_reducible refine gate_dst (N := 93) rfl ?_); refine wpList_load_row rfl 24 (.tmp 2) rfl _ rfl 24 _ (0, 0) _ (HO.out.get 0 rfl) Try.underlying24 rfl (by kernel_rfl) ?_))
  have HWB := Aside0.mk HO.out.size
  refine (spec_OwnerAt.calls k _ _ y0_0 _ _ y1 s1 s2 _ (Kd.S_reads' HTy0_0.out).2.2 (Kd.S_reads' HTy0_0.out).2.1 (Kd.R_reads' HTy1.out).2.2 (Kd.R_reads' HTy1.out).2.1 HSPEC.out).mono ?_
  rintro e w_ ⟨vW, rfl, hs, hb⟩
  obtain ⟨AW, cW, rfl⟩ := Kd.R_slice hs
  replace HO := Aside0.mk (HO.out.step hb)
  replace HTy0_0 := Aside0.mk (Kd.S_below HTy0_0.out hb)
  replace HTy1 := Aside0.mk (Kd.R_below HTy1.out hb);
  have HW := Aside0.mk (H.R_upto hs)
  clear hs hb
  clear HTy0_0 HTy1
  go_wp2_with (first | ((with_reducible refine gate_dst (N := 2) rfl ?_); refine H.own_box HO.out ?hg (N := 2) ?hd (cs := #[Value.slice A0_0 l0_0.length c0_0]) (t := 24) ?hr ?_; (case hd => rfl); (case hg => rfl); (case hr => first | (go_simp; done) | (go_simp; rfl)); intro gb0 w_ ho_ hb_; replace HO := Aside0.mk ho_; clear ho_ hb_) | ((with_reducible refine gate_dst (N := 20) rfl ?_); refine wpList_load_row rfl 24 (.tmp 2) rfl _ rfl 24 _ (0, 0) _ (HO.out.get 0 rfl) Try.underlying24 rfl (by kernel_rfl) ?_) | ((with_reducible refine gate_dst (N := 26) rfl ?_); refine wpList_load_row rfl 24 (.tmp 2) rfl _ rfl 24 _ (0, 0) _ (HO.out.get 0 rfl) Try.underlying24 rfl (by kernel_rfl) ?_) | ((with_reducible refine gate_dst (N := 33) rfl ?_); refine wpList_load_row rfl 24 (.tmp 2) rfl _ rfl 24 _ (0, 0) _ (HO.out.get 0 rfl) Try.underlying24 rfl (by kernel_rfl) ?_) | ((with_reducible refine gate_dst (N := 38) rfl ?_); refine wpList_load_row rfl 28 (.tmp 8) rfl _ rfl 28 _ (0, 0) _ (HO.out.get 1 rfl) Try.underlying28 rfl (by kernel_rfl) ?_) | ((with_reducible refine gate_dst (N := 62) rfl ?_); refine wpList_load_row rfl 28 (.tmp 8) rfl _ rfl 28 _ (0, 0) _ (HO.out.get 1 rfl) Try.underlying28 rfl (by kernel_rfl) ?_) | ((with_reducible refine gate_dst (N := 93) rfl ?_); refine wpList_load_row rfl 24 (.tmp 2) rfl _ rfl 24 _ (0, 0) _ (HO.out.get 0 rfl) Try.underlying24 rfl (by kernel_rfl) ?_) | ((with_reducible refine gate_dst (N := 8) rfl ?_); refine H.own_box HO.out ?hg (N := 8) ?hd (cs := #[Value.slice none 0 0]) (t := 28) ?hr ?_; (case hd => rfl); (case hg => rfl); (case hr => first | (go_simp; done) | (go_simp; rfl)); intro gx0 w_ ho_ hb_; replace HW := Aside0.mk (Kd.R_below HW.out hb_); replace HLE := Aside0.mk (Nat.le_trans HLE.out hb_.size); replace HO := Aside0.mk ho_; clear ho_ hb_) | ((with_reducible refine gate_store (t := 28) (p := 8) rfl ?_); refine H.own_store HO.out 1 rfl rfl rfl rfl rfl (u := .agg #[Value.slice AXy0_0 y0_0.length cXy0_0]) (seg := [Value.slice AXy0_0 y0_0.length cXy0_0]) rfl rfl (by kernel_rfl) (by simp [Value.oneCell']) (by simp) (cs' := #[Value.slice AXy0_0 y0_0.length cXy0_0]) rfl ?_; intro w_ ho_ hg_; replace HW := Aside0.mk (HO.out.keep 1 rfl HW.out hg_ (by decide)); replace HLE := Aside0.mk (Nat.le_trans HLE.out hg_.size); replace HO := Aside0.mk ho_; clear ho_ hg_))
  obtain ⟨N1, hN1⟩ : ∃ N1, _ = N1 := ⟨w_.heap.size, rfl⟩
  have HN1 := Aside0.mk (show w.heap.size ≤ N1 by rw [← hN1]; exact HO.out.size)
  replace HW := Aside0.mk (Kd.R_mono (ok' := fun k_ => w.heap.size ≤ k_ ∧ k_ < N1) (H.R_upto (Kd.R_lower HW.out HWB.out)) (fun k_ hk_ => by rw [← hN1]; exact hk_))
  clear HWB
  refine (laws_toGraph.calls k _ _ l0_0 y0_0 _ (Kd.C_below HR0_0.out HO.out.below) HC0_0.out HTO0.out).mono ?_
  rintro e w_ ⟨vXy0_0, rfl, hXy0_0, hb⟩
  obtain ⟨AXy0_0, cXy0_0, rfl⟩ := Kd.S_slice hXy0_0
  have HXy0_0 := Aside0.mk (H.S_upto (Kd.S_lower hXy0_0 (show N1 ≤ _ from by rw [← hN1]; exact Nat.le_refl _)))
  replace HO := Aside0.mk (HO.out.step hb)
  replace HW := Aside0.mk (Kd.R_below HW.out hb);
  have HLE := Aside0.mk (show N1 ≤ _ from Nat.le_trans (Nat.le_of_eq hN1.symm) hb.size)
  clear hN1
  clear hb hXy0_0
  go_wp2_with (first | ((with_reducible refine gate_dst (N := 2) rfl ?_); refine H.own_box HO.out ?hg (N := 2) ?hd (cs := #[Value.slice A0_0 l0_0.length c0_0]) (t := 24) ?hr ?_; (case hd => rfl); (case hg => rfl); (case hr => first | (go_simp; done) | (go_simp; rfl)); intro gb0 w_ ho_ hb_; replace HO := Aside0.mk ho_; clear ho_ hb_) | ((with_reducible refine gate_dst (N := 20) rfl ?_); refine wpList_load_row rfl 24 (.tmp 2) rfl _ rfl 24 _ (0, 0) _ (HO.out.get 0 rfl) Try.underlying24 rfl (by kernel_rfl) ?_) | ((with_reducible refine gate_dst (N := 26) rfl ?_); refine wpList_load_row rfl 24 (.tmp 2) rfl _ rfl 24 _ (0, 0) _ (HO.out.get 0 rfl) Try.underlying24 rfl (by kernel_rfl) ?_) | ((with_reducible refine gate_dst (N := 33) rfl ?_); refine wpList_load_row rfl 24 (.tmp 2) rfl _ rfl 24 _ (0, 0) _ (HO.out.get 0 rfl) Try.underlying24 rfl (by kernel_rfl) ?_) | ((with_reducible refine gate_dst (N := 38) rfl ?_); refine wpList_load_row rfl 28 (.tmp 8) rfl _ rfl 28 _ (0, 0) _ (HO.out.get 1 rfl) Try.underlying28 rfl (by kernel_rfl) ?_) | ((with_reducible refine gate_dst (N := 62) rfl ?_); refine wpList_load_row rfl 28 (.tmp 8) rfl _ rfl 28 _ (0, 0) _ (HO.out.get 1 rfl) Try.underlying28 rfl (by kernel_rfl) ?_) | ((with_reducible refine gate_dst (N := 93) rfl ?_); refine wpList_load_row rfl 24 (.tmp 2) rfl _ rfl 24 _ (0, 0) _ (HO.out.get 0 rfl) Try.underlying24 rfl (by kernel_rfl) ?_) | ((with_reducible refine gate_dst (N := 8) rfl ?_); refine H.own_box HO.out ?hg (N := 8) ?hd (cs := #[Value.slice none 0 0]) (t := 28) ?hr ?_; (case hd => rfl); (case hg => rfl); (case hr => first | (go_simp; done) | (go_simp; rfl)); intro gx0 w_ ho_ hb_; replace HW := Aside0.mk (Kd.R_below HW.out hb_); replace HXy0_0 := Aside0.mk (Kd.S_below HXy0_0.out hb_); replace HLE := Aside0.mk (Nat.le_trans HLE.out hb_.size); replace HO := Aside0.mk ho_; clear ho_ hb_) | ((with_reducible refine gate_store (t := 28) (p := 8) rfl ?_); refine H.own_store HO.out 1 rfl rfl rfl rfl rfl (u := .agg #[Value.slice AXy0_0 y0_0.length cXy0_0]) (seg := [Value.slice AXy0_0 y0_0.length cXy0_0]) rfl rfl (by kernel_rfl) (by simp [Value.oneCell']) (by simp) (cs' := #[Value.slice AXy0_0 y0_0.length cXy0_0]) rfl ?_; intro w_ ho_ hg_; replace HW := Aside0.mk (HO.out.keep 1 rfl HW.out hg_ (by decide)); replace HXy0_0 := Aside0.mk (HO.out.keepS 1 rfl HXy0_0.out hg_ (by decide)); replace HLE := Aside0.mk (Nat.le_trans HLE.out hg_.size); replace HO := Aside0.mk ho_; clear ho_ hg_))
  refine (laws_toIntS.calls k _ _ l1 y1 _ (Kd.C_below HR1.out HO.out.below) HC1.out HTO1.out).mono ?_
  rintro e w_ ⟨vXy1, rfl, hXy1, hb⟩
  obtain ⟨AXy1, cXy1, rfl⟩ := Kd.R_slice hXy1
  have HXy1 := Aside0.mk (H.R_upto (Kd.R_lower hXy1 (show N1 ≤ _ from HLE.out)))
  replace HO := Aside0.mk (HO.out.step hb)
  replace HW := Aside0.mk (Kd.R_below HW.out hb)
  replace HXy0_0 := Aside0.mk (Kd.S_below HXy0_0.out hb);
  replace HLE := Aside0.mk (show N1 ≤ _ from Nat.le_trans (HLE.out) hb.size)
  clear hb hXy1
  go_wp2_with (first | ((with_reducible refine gate_dst (N := 2) rfl ?_); refine H.own_box HO.out ?hg (N := 2) ?hd (cs := #[Value.slice A0_0 l0_0.length c0_0]) (t := 24) ?hr ?_; (case hd => rfl); (case hg => rfl); (case hr => first | (go_simp; done) | (go_simp; rfl)); intro gb0 w_ ho_ hb_; replace HO := Aside0.mk ho_; clear ho_ hb_) | ((with_reducible refine gate_dst (N := 20) rfl ?_); refine wpList_load_row rfl 24 (.tmp 2) rfl _ rfl 24 _ (0, 0) _ (HO.out.get 0 rfl) Try.underlying24 rfl (by kernel_rfl) ?_) | ((with_reducible refine gate_dst (N := 26) rfl ?_); refine wpList_load_row rfl 24 (.tmp 2) rfl _ rfl 24 _ (0, 0) _ (HO.out.get 0 rfl) Try.underlying24 rfl (by kernel_rfl) ?_) | ((with_reducible refine gate_dst (N := 33) rfl ?_); refine wpList_load_row rfl 24 (.tmp 2) rfl _ rfl 24 _ (0, 0) _ (HO.out.get 0 rfl) Try.underlying24 rfl (by kernel_rfl) ?_) | ((with_reducible refine gate_dst (N := 38) rfl ?_); refine wpList_load_row rfl 28 (.tmp 8) rfl _ rfl 28 _ (0, 0) _ (HO.out.get 1 rfl) Try.underlying28 rfl (by kernel_rfl) ?_) | ((with_reducible refine gate_dst (N := 62) rfl ?_); refine wpList_load_row rfl 28 (.tmp 8) rfl _ rfl 28 _ (0, 0) _ (HO.out.get 1 rfl) Try.underlying28 rfl (by kernel_rfl) ?_) | ((with_reducible refine gate_dst (N := 93) rfl ?_); refine wpList_load_row rfl 24 (.tmp 2) rfl _ rfl 24 _ (0, 0) _ (HO.out.get 0 rfl) Try.underlying24 rfl (by kernel_rfl) ?_) | ((with_reducible refine gate_dst (N := 8) rfl ?_); refine H.own_box HO.out ?hg (N := 8) ?hd (cs := #[Value.slice none 0 0]) (t := 28) ?hr ?_; (case hd => rfl); (case hg => rfl); (case hr => first | (go_simp; done) | (go_simp; rfl)); intro gx0 w_ ho_ hb_; replace HW := Aside0.mk (Kd.R_below HW.out hb_); replace HXy0_0 := Aside0.mk (Kd.S_below HXy0_0.out hb_); replace HXy1 := Aside0.mk (Kd.R_below HXy1.out hb_); replace HLE := Aside0.mk (Nat.le_trans HLE.out hb_.size); replace HO := Aside0.mk ho_; clear ho_ hb_) | ((with_reducible refine gate_store (t := 28) (p := 8) rfl ?_); refine H.own_store HO.out 1 rfl rfl rfl rfl rfl (u := .agg #[Value.slice AXy0_0 y0_0.length cXy0_0]) (seg := [Value.slice AXy0_0 y0_0.length cXy0_0]) rfl rfl (by kernel_rfl) (by simp [Value.oneCell']) (by simp) (cs' := #[Value.slice AXy0_0 y0_0.length cXy0_0]) rfl ?_; intro w_ ho_ hg_; replace HW := Aside0.mk (HO.out.keep 1 rfl HW.out hg_ (by decide)); replace HXy0_0 := Aside0.mk (HO.out.keepS 1 rfl HXy0_0.out hg_ (by decide)); replace HXy1 := Aside0.mk (HO.out.keep 1 rfl HXy1.out hg_ (by decide)); replace HLE := Aside0.mk (Nat.le_trans HLE.out hg_.size); replace HO := Aside0.mk ho_; clear ho_ hg_))
  obtain ⟨N2, hN2⟩ : ∃ N2, _ = N2 := ⟨w_.heap.size, rfl⟩
  replace HXy0_0 := Aside0.mk (Kd.S_mono (ok' := fun k_ => N1 ≤ k_ ∧ k_ < N2) (H.S_upto HXy0_0.out) (fun k_ hk_ => by rw [← hN2]; exact hk_))
  replace HXy1 := Aside0.mk (Kd.R_mono (ok' := fun k_ => N1 ≤ k_ ∧ k_ < N2) (H.R_upto HXy1.out) (fun k_ hk_ => by rw [← hN2]; exact hk_))
  have HLT := Aside0.mk HO.out.lt
  rw [hN2] at HLT
  have HN2 := Aside0.mk (show w.heap.size ≤ N2 by rw [← hN2]; exact HO.out.size)
  have HN12 := Aside0.mk (show N1 ≤ N2 by rw [← hN2]; exact HLE.out)
  refine (impl_OwnerAt.calls _ _ y0_0 _ _ y1 s1 s2 _ (Kd.S_reads' HXy0_0.out).2.2 (Kd.S_reads' HXy0_0.out).2.1 (Kd.R_reads' HXy1.out).2.2 (Kd.R_reads' HXy1.out).2.1 HIMPL.out).mono ?_
  rintro e w_ ⟨vG, rfl, hs, hb⟩
  obtain ⟨AG, cG, rfl⟩ := Kd.R_slice hs
  replace HO := Aside0.mk (HO.out.step hb)
  replace HW := Aside0.mk (Kd.R_below HW.out hb)
  replace HXy0_0 := Aside0.mk (Kd.S_below HXy0_0.out hb)
  replace HXy1 := Aside0.mk (Kd.R_below HXy1.out hb);
  have HG := Aside0.mk (H.R_upto hs)
  rw [hN2] at HG
  obtain ⟨N3, hN3⟩ : ∃ N3, w_.heap.size = N3 := ⟨_, rfl⟩
  rw [hN3] at HG
  clear hs hb hN2 hN3
  go_wp2_with (first | ((with_reducible refine gate_dst (N := 2) rfl ?_); refine H.own_box HO.out ?hg (N := 2) ?hd (cs := #[Value.slice A0_0 l0_0.length c0_0]) (t := 24) ?hr ?_; (case hd => rfl); (case hg => rfl); (case hr => first | (go_simp; done) | (go_simp; rfl)); intro gb0 w_ ho_ hb_; replace HO := Aside0.mk ho_; clear ho_ hb_) | ((with_reducible refine gate_dst (N := 20) rfl ?_); refine wpList_load_row rfl 24 (.tmp 2) rfl _ rfl 24 _ (0, 0) _ (HO.out.get 0 rfl) Try.underlying24 rfl (by kernel_rfl) ?_) | ((with_reducible refine gate_dst (N := 26) rfl ?_); refine wpList_load_row rfl 24 (.tmp 2) rfl _ rfl 24 _ (0, 0) _ (HO.out.get 0 rfl) Try.underlying24 rfl (by kernel_rfl) ?_) | ((with_reducible refine gate_dst (N := 33) rfl ?_); refine wpList_load_row rfl 24 (.tmp 2) rfl _ rfl 24 _ (0, 0) _ (HO.out.get 0 rfl) Try.underlying24 rfl (by kernel_rfl) ?_) | ((with_reducible refine gate_dst (N := 38) rfl ?_); refine wpList_load_row rfl 28 (.tmp 8) rfl _ rfl 28 _ (0, 0) _ (HO.out.get 1 rfl) Try.underlying28 rfl (by kernel_rfl) ?_) | ((with_reducible refine gate_dst (N := 62) rfl ?_); refine wpList_load_row rfl 28 (.tmp 8) rfl _ rfl 28 _ (0, 0) _ (HO.out.get 1 rfl) Try.underlying28 rfl (by kernel_rfl) ?_) | ((with_reducible refine gate_dst (N := 93) rfl ?_); refine wpList_load_row rfl 24 (.tmp 2) rfl _ rfl 24 _ (0, 0) _ (HO.out.get 0 rfl) Try.underlying24 rfl (by kernel_rfl) ?_))
  refine (laws_eqIntS.calls k _ _ s1 _ _ s1 true _ (Kd.R_reads' HG.out).2.2 (Kd.R_reads' HG.out).2.1 (Kd.R_reads' HW.out).2.2 (Kd.R_reads' HW.out).2.1 HEQR.out).mono ?_
  rintro e w_ ⟨rfl, hd⟩
  replace HO := Aside0.mk (HO.out.step hd.below)
  replace HW := Aside0.mk (Kd.R_below HW.out hd.below)
  replace HXy0_0 := Aside0.mk (Kd.S_below HXy0_0.out hd.below)
  replace HXy1 := Aside0.mk (Kd.R_below HXy1.out hd.below)
  replace HG := Aside0.mk (Kd.R_below HG.out hd.below);
  clear hd
  go_wp2_with (first | ((with_reducible refine gate_dst (N := 2) rfl ?_); refine H.own_box HO.out ?hg (N := 2) ?hd (cs := #[Value.slice A0_0 l0_0.length c0_0]) (t := 24) ?hr ?_; (case hd => rfl); (case hg => rfl); (case hr => first | (go_simp; done) | (go_simp; rfl)); intro gb0 w_ ho_ hb_; replace HO := Aside0.mk ho_; clear ho_ hb_) | ((with_reducible refine gate_dst (N := 20) rfl ?_); refine wpList_load_row rfl 24 (.tmp 2) rfl _ rfl 24 _ (0, 0) _ (HO.out.get 0 rfl) Try.underlying24 rfl (by kernel_rfl) ?_) | ((with_reducible refine gate_dst (N := 26) rfl ?_); refine wpList_load_row rfl 24 (.tmp 2) rfl _ rfl 24 _ (0, 0) _ (HO.out.get 0 rfl) Try.underlying24 rfl (by kernel_rfl) ?_) | ((with_reducible refine gate_dst (N := 33) rfl ?_); refine wpList_load_row rfl 24 (.tmp 2) rfl _ rfl 24 _ (0, 0) _ (HO.out.get 0 rfl) Try.underlying24 rfl (by kernel_rfl) ?_) | ((with_reducible refine gate_dst (N := 38) rfl ?_); refine wpList_load_row rfl 28 (.tmp 8) rfl _ rfl 28 _ (0, 0) _ (HO.out.get 1 rfl) Try.underlying28 rfl (by kernel_rfl) ?_) | ((with_reducible refine gate_dst (N := 62) rfl ?_); refine wpList_load_row rfl 28 (.tmp 8) rfl _ rfl 28 _ (0, 0) _ (HO.out.get 1 rfl) Try.underlying28 rfl (by kernel_rfl) ?_) | ((with_reducible refine gate_dst (N := 93) rfl ?_); refine wpList_load_row rfl 24 (.tmp 2) rfl _ rfl 24 _ (0, 0) _ (HO.out.get 0 rfl) Try.underlying24 rfl (by kernel_rfl) ?_))
  replace HO := Aside0.mk HO.out.drew
  replace HW := Aside0.mk (Kd.R_drew HW.out)
  replace HXy0_0 := Aside0.mk (Kd.S_drew HXy0_0.out)
  replace HXy1 := Aside0.mk (Kd.R_drew HXy1.out)
  replace HG := Aside0.mk (Kd.R_drew HG.out)
  refine start_ (n := 5) (S := fun w' => w'.rangeAt gx0 0 [Value.slice AXy0_0 y0_0.length cXy0_0] ∧ w'.rangeAt gb0 0 [Value.slice A0_0 l0_0.length c0_0]) (ds := []) #[false, false, false, false, false] (by kernel_rfl) rfl rfl ⟨(HO.out.range 1 rfl), (HO.out.range 0 rfl)⟩ (fun hHeld => ?_)
  refine take_ (i := 0) (N := some 52) (v := .agg #[Value.slice AXy0_0 y0_0.length cXy0_0]) (a' := ?_) #[true, false, false, false, false] rfl rfl (by kernel_rfl) (fun _ _ _ h => h) (yieldsIf_load_mid (by rfl) 28 (.tmp 8) rfl gx0 0 rfl [Value.slice AXy0_0 y0_0.length cXy0_0] _ (fun W h => h.1) Try.underlying28 rfl (by kernel_rfl)) hHeld ?_ ?_
  rotate_left
  · simp only [Act.put, List.setIfInBounds_toArray, List.set_cons_zero, List.set_cons_succ, i64_w, i32_w]
    rfl
  refine take_ (i := 1) (N := some 53) (v := .agg #[Value.slice A0_0 l0_0.length c0_0]) (a' := ?_) #[true, true, false, false, false] rfl rfl (by kernel_rfl) (fun _ _ _ h => h) (yieldsIf_load_mid (by rfl) 24 (.tmp 2) rfl gb0 0 rfl [Value.slice A0_0 l0_0.length c0_0] _ (fun W h => h.2) Try.underlying24 rfl (by kernel_rfl)) hHeld ?_ ?_
  rotate_left
  · simp only [Act.put, List.setIfInBounds_toArray, List.set_cons_zero, List.set_cons_succ, i64_w, i32_w]
    rfl
  refine one_ (i := 2) (N := some 54) #[true, true, true, false, false] rfl rfl (by kernel_rfl) (by decide) (fun K hK => ?_)
  refine goes_ Try.func10 (by kernel_rfl) rfl #[.agg #[.slice A0_0 l0_0.length c0_0]] (by rfl) rfl rfl (by simp only [List.map_toArray, List.map_cons, List.map_nil]; rfl) ?_
  with_reducible refine (laws_toGraph.calls k _ _ l0_0 y0_0 _ (Kd.C_below HR0_0.out HO.out.below) HC0_0.out HTO0.out).mono ?_
  rintro e w_ ⟨vEy0_0, rfl, hEy0_0, hb⟩
  refine ⟨_, rfl, ?_⟩
  obtain ⟨AEy0_0, cEy0_0, rfl⟩ := Kd.S_slice hEy0_0
  replace HO := Aside0.mk (HO.out.step hb)
  replace HW := Aside0.mk (Kd.R_below HW.out hb)
  replace HXy0_0 := Aside0.mk (Kd.S_below HXy0_0.out hb)
  replace HXy1 := Aside0.mk (Kd.R_below HXy1.out hb)
  replace HG := Aside0.mk (Kd.R_below HG.out hb);
  have HEy0_0 := Aside0.mk hEy0_0
  clear hb hEy0_0
  refine hK.out _ _ ⟨(HO.out.range 1 rfl), (HO.out.range 0 rfl)⟩ (fun hHeld => ?_)
  clear hK K
  refine norm_ (a' := ?_) ?_ ?_
  rotate_left
  · show Act.put _ (some 54) _ = _
    simp only [Act.put, List.setIfInBounds_toArray, List.set_cons_zero, List.set_cons_succ, i64_w, i32_w]
    rfl
  refine one_ (i := 3) (N := some 55) #[true, true, true, true, false] rfl rfl (by kernel_rfl) (by decide) (fun K hK => ?_)
  refine goes_ Try.func12 (by kernel_rfl) rfl #[.agg #[Value.slice AXy0_0 y0_0.length cXy0_0], .agg #[Value.slice AEy0_0 y0_0.length cEy0_0]] (by rfl) rfl rfl (by simp only [List.map_toArray, List.map_cons, List.map_nil]; rfl) ?_
  with_reducible refine (laws_eqGraph.calls k _ _ y0_0 _ _ y0_0 true _ (Kd.S_reads' HXy0_0.out).2.2 (Kd.S_reads' HXy0_0.out).2.1 (Kd.S_reads' HEy0_0.out).2.2 (Kd.S_reads' HEy0_0.out).2.1 HEQ0.out).mono ?_
  rintro e w_ ⟨rfl, hb⟩
  refine ⟨_, rfl, ?_⟩
  replace HO := Aside0.mk (HO.out.step hb)
  replace HW := Aside0.mk (Kd.R_below HW.out hb)
  replace HXy0_0 := Aside0.mk (Kd.S_below HXy0_0.out hb)
  replace HXy1 := Aside0.mk (Kd.R_below HXy1.out hb)
  replace HG := Aside0.mk (Kd.R_below HG.out hb);
  clear hb
  refine hK.out _ _ ⟨(HO.out.range 1 rfl), (HO.out.range 0 rfl)⟩ (fun hHeld => ?_)
  clear hK K
  refine norm_ (a' := ?_) ?_ ?_
  rotate_left
  · show Act.put _ (some 55) _ = _
    simp only [Act.put, List.setIfInBounds_toArray, List.set_cons_zero, List.set_cons_succ, i64_w, i32_w]
    rfl
  refine pure_ (i := 4) (N := some 56) (v := ?_) (a' := ?_) #[true, true, true, true, true] rfl rfl (by kernel_rfl) (fun _ _ _ h => h) (Or.inl ⟨by rfl, ?_⟩) ?_ ?_
  rotate_left
  · intro w'
    go_simp
    with_reducible rfl
  rotate_left
  · simp only [Act.put, List.setIfInBounds_toArray, List.set_cons_zero, List.set_cons_succ, i64_w, i32_w]
    rfl
  refine done_ (by kernel_rfl) ?_
  clear HEy0_0
  go_wp2_with (first | ((with_reducible refine gate_dst (N := 2) rfl ?_); refine H.own_box HO.out ?hg (N := 2) ?hd (cs := #[Value.slice A0_0 l0_0.length c0_0]) (t := 24) ?hr ?_; (case hd => rfl); (case hg => rfl); (case hr => first | (go_simp; done) | (go_simp; rfl)); intro gb0 w_ ho_ hb_; replace HO := Aside0.mk ho_; clear ho_ hb_) | ((with_reducible refine gate_dst (N := 20) rfl ?_); refine wpList_load_row rfl 24 (.tmp 2) rfl _ rfl 24 _ (0, 0) _ (HO.out.get 0 rfl) Try.underlying24 rfl (by kernel_rfl) ?_) | ((with_reducible refine gate_dst (N := 26) rfl ?_); refine wpList_load_row rfl 24 (.tmp 2) rfl _ rfl 24 _ (0, 0) _ (HO.out.get 0 rfl) Try.underlying24 rfl (by kernel_rfl) ?_) | ((with_reducible refine gate_dst (N := 33) rfl ?_); refine wpList_load_row rfl 24 (.tmp 2) rfl _ rfl 24 _ (0, 0) _ (HO.out.get 0 rfl) Try.underlying24 rfl (by kernel_rfl) ?_) | ((with_reducible refine gate_dst (N := 38) rfl ?_); refine wpList_load_row rfl 28 (.tmp 8) rfl _ rfl 28 _ (0, 0) _ (HO.out.get 1 rfl) Try.underlying28 rfl (by kernel_rfl) ?_) | ((with_reducible refine gate_dst (N := 62) rfl ?_); refine wpList_load_row rfl 28 (.tmp 8) rfl _ rfl 28 _ (0, 0) _ (HO.out.get 1 rfl) Try.underlying28 rfl (by kernel_rfl) ?_) | ((with_reducible refine gate_dst (N := 93) rfl ?_); refine wpList_load_row rfl 24 (.tmp 2) rfl _ rfl 24 _ (0, 0) _ (HO.out.get 0 rfl) Try.underlying24 rfl (by kernel_rfl) ?_))
  refine (laws_toIntS.calls k _ _ l1 y1 _ (Kd.C_below HR1.out HO.out.below) HC1.out HTO1.out).mono ?_
  rintro e w_ ⟨vEy1, rfl, hEy1, hb⟩
  obtain ⟨AEy1, cEy1, rfl⟩ := Kd.R_slice hEy1
  replace HO := Aside0.mk (HO.out.step hb)
  replace HW := Aside0.mk (Kd.R_below HW.out hb)
  replace HXy0_0 := Aside0.mk (Kd.S_below HXy0_0.out hb)
  replace HXy1 := Aside0.mk (Kd.R_below HXy1.out hb)
  replace HG := Aside0.mk (Kd.R_below HG.out hb);
  have HEy1 := Aside0.mk hEy1
  clear hb hEy1
  go_wp2_with (first | ((with_reducible refine gate_dst (N := 2) rfl ?_); refine H.own_box HO.out ?hg (N := 2) ?hd (cs := #[Value.slice A0_0 l0_0.length c0_0]) (t := 24) ?hr ?_; (case hd => rfl); (case hg => rfl); (case hr => first | (go_simp; done) | (go_simp; rfl)); intro gb0 w_ ho_ hb_; replace HO := Aside0.mk ho_; clear ho_ hb_) | ((with_reducible refine gate_dst (N := 20) rfl ?_); refine wpList_load_row rfl 24 (.tmp 2) rfl _ rfl 24 _ (0, 0) _ (HO.out.get 0 rfl) Try.underlying24 rfl (by kernel_rfl) ?_) | ((with_reducible refine gate_dst (N := 26) rfl ?_); refine wpList_load_row rfl 24 (.tmp 2) rfl _ rfl 24 _ (0, 0) _ (HO.out.get 0 rfl) Try.underlying24 rfl (by kernel_rfl) ?_) | ((with_reducible refine gate_dst (N := 33) rfl ?_); refine wpList_load_row rfl 24 (.tmp 2) rfl _ rfl 24 _ (0, 0) _ (HO.out.get 0 rfl) Try.underlying24 rfl (by kernel_rfl) ?_) | ((with_reducible refine gate_dst (N := 38) rfl ?_); refine wpList_load_row rfl 28 (.tmp 8) rfl _ rfl 28 _ (0, 0) _ (HO.out.get 1 rfl) Try.underlying28 rfl (by kernel_rfl) ?_) | ((with_reducible refine gate_dst (N := 62) rfl ?_); refine wpList_load_row rfl 28 (.tmp 8) rfl _ rfl 28 _ (0, 0) _ (HO.out.get 1 rfl) Try.underlying28 rfl (by kernel_rfl) ?_) | ((with_reducible refine gate_dst (N := 93) rfl ?_); refine wpList_load_row rfl 24 (.tmp 2) rfl _ rfl 24 _ (0, 0) _ (HO.out.get 0 rfl) Try.underlying24 rfl (by kernel_rfl) ?_))
  refine (laws_eqIntS.calls k _ _ y1 _ _ y1 true _ (Kd.R_reads' HXy1.out).2.2 (Kd.R_reads' HXy1.out).2.1 (Kd.R_reads' HEy1.out).2.2 (Kd.R_reads' HEy1.out).2.1 HEQ1.out).mono ?_
  rintro e w_ ⟨rfl, hd⟩
  replace HO := Aside0.mk (HO.out.step hd.below)
  replace HW := Aside0.mk (Kd.R_below HW.out hd.below)
  replace HXy0_0 := Aside0.mk (Kd.S_below HXy0_0.out hd.below)
  replace HXy1 := Aside0.mk (Kd.R_below HXy1.out hd.below)
  replace HG := Aside0.mk (Kd.R_below HG.out hd.below);
  clear hd HEy1
  have HRM1 := Aside0.mk (H.Room.of_R HXy1.out (Nat.le_refl _) (fun k_ hk_ _ => hk_.2))
  go_wp2_with (first | ((with_reducible refine gate_dst (N := 2) rfl ?_); refine H.own_box HO.out ?hg (N := 2) ?hd (cs := #[Value.slice A0_0 l0_0.length c0_0]) (t := 24) ?hr ?_; (case hd => rfl); (case hg => rfl); (case hr => first | (go_simp; done) | (go_simp; rfl)); intro gb0 w_ ho_ hb_; replace HO := Aside0.mk ho_; clear ho_ hb_) | ((with_reducible refine gate_dst (N := 20) rfl ?_); refine wpList_load_row rfl 24 (.tmp 2) rfl _ rfl 24 _ (0, 0) _ (HO.out.get 0 rfl) Try.underlying24 rfl (by kernel_rfl) ?_) | ((with_reducible refine gate_dst (N := 26) rfl ?_); refine wpList_load_row rfl 24 (.tmp 2) rfl _ rfl 24 _ (0, 0) _ (HO.out.get 0 rfl) Try.underlying24 rfl (by kernel_rfl) ?_) | ((with_reducible refine gate_dst (N := 33) rfl ?_); refine wpList_load_row rfl 24 (.tmp 2) rfl _ rfl 24 _ (0, 0) _ (HO.out.get 0 rfl) Try.underlying24 rfl (by kernel_rfl) ?_) | ((with_reducible refine gate_dst (N := 38) rfl ?_); refine wpList_load_row rfl 28 (.tmp 8) rfl _ rfl 28 _ (0, 0) _ (HO.out.get 1 rfl) Try.underlying28 rfl (by kernel_rfl) ?_) | ((with_reducible refine gate_dst (N := 62) rfl ?_); refine wpList_load_row rfl 28 (.tmp 8) rfl _ rfl 28 _ (0, 0) _ (HO.out.get 1 rfl) Try.underlying28 rfl (by kernel_rfl) ?_) | ((with_reducible refine gate_dst (N := 93) rfl ?_); refine wpList_load_row rfl 24 (.tmp 2) rfl _ rfl 24 _ (0, 0) _ (HO.out.get 0 rfl) Try.underlying24 rfl (by kernel_rfl) ?_))
  have hm0 : (0 : Int) ≤ 1 := by decide
  have HB := Aside0.mk HB0.out
  obtain ⟨M1, hM1⟩ : ∃ M1 : Int, 1 + (H.total y0_0 : Int) = M1 := ⟨_, rfl⟩
  have hmb1 : M1 + (y1.length : Int) ≤ 4611686018427387904 := by have := HB.out; omega
  have hm1 : 0 ≤ M1 := by omega
  refine (laws_markGraph.tame N1 N2 _ y0_0.length _ 1 _ (H.Rooms.of_S HXy0_0.out (Nat.le_refl _) (fun k_ hk_ _ => hk_.2)) hm0 (by rw [H.sum_total _ _ (Nat.le_refl _), List.take_length]; omega) (by omega)).mono ?_
  rintro e w_ ⟨he, ht⟩
  rw [H.sum_total _ _ (Nat.le_refl _), List.take_length, hM1] at he
  subst he
  replace HRM1 := Aside0.mk (HRM1.out.tame ht)
  replace HO := Aside0.mk (HO.out.tame ht HN1.out (by simp))
  replace HW := Aside0.mk (H.R_tame HW.out ht (.inl (Nat.le_refl _)))
  clear HXy0_0
  replace HG := Aside0.mk (H.R_tame HG.out ht (.inr (Nat.le_refl _)))
  clear ht hM1
  go_wp2_with (first | ((with_reducible refine gate_dst (N := 2) rfl ?_); refine H.own_box HO.out ?hg (N := 2) ?hd (cs := #[Value.slice A0_0 l0_0.length c0_0]) (t := 24) ?hr ?_; (case hd => rfl); (case hg => rfl); (case hr => first | (go_simp; done) | (go_simp; rfl)); intro gb0 w_ ho_ hb_; replace HO := Aside0.mk ho_; clear ho_ hb_) | ((with_reducible refine gate_dst (N := 20) rfl ?_); refine wpList_load_row rfl 24 (.tmp 2) rfl _ rfl 24 _ (0, 0) _ (HO.out.get 0 rfl) Try.underlying24 rfl (by kernel_rfl) ?_) | ((with_reducible refine gate_dst (N := 26) rfl ?_); refine wpList_load_row rfl 24 (.tmp 2) rfl _ rfl 24 _ (0, 0) _ (HO.out.get 0 rfl) Try.underlying24 rfl (by kernel_rfl) ?_) | ((with_reducible refine gate_dst (N := 33) rfl ?_); refine wpList_load_row rfl 24 (.tmp 2) rfl _ rfl 24 _ (0, 0) _ (HO.out.get 0 rfl) Try.underlying24 rfl (by kernel_rfl) ?_) | ((with_reducible refine gate_dst (N := 38) rfl ?_); refine wpList_load_row rfl 28 (.tmp 8) rfl _ rfl 28 _ (0, 0) _ (HO.out.get 1 rfl) Try.underlying28 rfl (by kernel_rfl) ?_) | ((with_reducible refine gate_dst (N := 62) rfl ?_); refine wpList_load_row rfl 28 (.tmp 8) rfl _ rfl 28 _ (0, 0) _ (HO.out.get 1 rfl) Try.underlying28 rfl (by kernel_rfl) ?_) | ((with_reducible refine gate_dst (N := 93) rfl ?_); refine wpList_load_row rfl 24 (.tmp 2) rfl _ rfl 24 _ (0, 0) _ (HO.out.get 0 rfl) Try.underlying24 rfl (by kernel_rfl) ?_))
  obtain ⟨M2, hM2⟩ : ∃ M2 : Int, M1 + (y1.length : Int) = M2 := ⟨_, rfl⟩
  have hmb2 : M2 ≤ 4611686018427387904 := by have := HB.out; omega
  have hm2 : 0 ≤ M2 := by omega
  refine (laws_markIntS.tame N1 N2 _ y1.length M1 _ HRM1.out hm1 (by omega)).mono ?_
  rintro e w_ ⟨he, ht⟩
  rw [hM2] at he
  subst he
  replace HO := Aside0.mk (HO.out.tame ht HN1.out (by simp))
  replace HW := Aside0.mk (H.R_tame HW.out ht (.inl (Nat.le_refl _)))
  clear HXy1
  replace HG := Aside0.mk (H.R_tame HG.out ht (.inr (Nat.le_refl _)))
  clear ht hM2
  go_wp2_with (first | ((with_reducible refine gate_dst (N := 2) rfl ?_); refine H.own_box HO.out ?hg (N := 2) ?hd (cs := #[Value.slice A0_0 l0_0.length c0_0]) (t := 24) ?hr ?_; (case hd => rfl); (case hg => rfl); (case hr => first | (go_simp; done) | (go_simp; rfl)); intro gb0 w_ ho_ hb_; replace HO := Aside0.mk ho_; clear ho_ hb_) | ((with_reducible refine gate_dst (N := 20) rfl ?_); refine wpList_load_row rfl 24 (.tmp 2) rfl _ rfl 24 _ (0, 0) _ (HO.out.get 0 rfl) Try.underlying24 rfl (by kernel_rfl) ?_) | ((with_reducible refine gate_dst (N := 26) rfl ?_); refine wpList_load_row rfl 24 (.tmp 2) rfl _ rfl 24 _ (0, 0) _ (HO.out.get 0 rfl) Try.underlying24 rfl (by kernel_rfl) ?_) | ((with_reducible refine gate_dst (N := 33) rfl ?_); refine wpList_load_row rfl 24 (.tmp 2) rfl _ rfl 24 _ (0, 0) _ (HO.out.get 0 rfl) Try.underlying24 rfl (by kernel_rfl) ?_) | ((with_reducible refine gate_dst (N := 38) rfl ?_); refine wpList_load_row rfl 28 (.tmp 8) rfl _ rfl 28 _ (0, 0) _ (HO.out.get 1 rfl) Try.underlying28 rfl (by kernel_rfl) ?_) | ((with_reducible refine gate_dst (N := 62) rfl ?_); refine wpList_load_row rfl 28 (.tmp 8) rfl _ rfl 28 _ (0, 0) _ (HO.out.get 1 rfl) Try.underlying28 rfl (by kernel_rfl) ?_) | ((with_reducible refine gate_dst (N := 93) rfl ?_); refine wpList_load_row rfl 24 (.tmp 2) rfl _ rfl 24 _ (0, 0) _ (HO.out.get 0 rfl) Try.underlying24 rfl (by kernel_rfl) ?_))
  refine (laws_eqIntS.calls k _ _ s1 _ _ s1 true _ (Kd.R_reads' HG.out).2.2 (Kd.R_reads' HG.out).2.1 (Kd.R_reads' HW.out).2.2 (Kd.R_reads' HW.out).2.1 HEQR.out).mono ?_
  rintro e w_ ⟨rfl, hd⟩
  replace HO := Aside0.mk (HO.out.step hd.below)
  replace HW := Aside0.mk (Kd.R_below HW.out hd.below)
  replace HG := Aside0.mk (Kd.R_below HG.out hd.below);
  clear hd
  go_wp2_with (first | ((with_reducible refine gate_dst (N := 2) rfl ?_); refine H.own_box HO.out ?hg (N := 2) ?hd (cs := #[Value.slice A0_0 l0_0.length c0_0]) (t := 24) ?hr ?_; (case hd => rfl); (case hg => rfl); (case hr => first | (go_simp; done) | (go_simp; rfl)); intro gb0 w_ ho_ hb_; replace HO := Aside0.mk ho_; clear ho_ hb_) | ((with_reducible refine gate_dst (N := 20) rfl ?_); refine wpList_load_row rfl 24 (.tmp 2) rfl _ rfl 24 _ (0, 0) _ (HO.out.get 0 rfl) Try.underlying24 rfl (by kernel_rfl) ?_) | ((with_reducible refine gate_dst (N := 26) rfl ?_); refine wpList_load_row rfl 24 (.tmp 2) rfl _ rfl 24 _ (0, 0) _ (HO.out.get 0 rfl) Try.underlying24 rfl (by kernel_rfl) ?_) | ((with_reducible refine gate_dst (N := 33) rfl ?_); refine wpList_load_row rfl 24 (.tmp 2) rfl _ rfl 24 _ (0, 0) _ (HO.out.get 0 rfl) Try.underlying24 rfl (by kernel_rfl) ?_) | ((with_reducible refine gate_dst (N := 38) rfl ?_); refine wpList_load_row rfl 28 (.tmp 8) rfl _ rfl 28 _ (0, 0) _ (HO.out.get 1 rfl) Try.underlying28 rfl (by kernel_rfl) ?_) | ((with_reducible refine gate_dst (N := 62) rfl ?_); refine wpList_load_row rfl 28 (.tmp 8) rfl _ rfl 28 _ (0, 0) _ (HO.out.get 1 rfl) Try.underlying28 rfl (by kernel_rfl) ?_) | ((with_reducible refine gate_dst (N := 93) rfl ?_); refine wpList_load_row rfl 24 (.tmp 2) rfl _ rfl 24 _ (0, 0) _ (HO.out.get 0 rfl) Try.underlying24 rfl (by kernel_rfl) ?_))
  refine (laws_markIntS.calls k (fun k_ => N2 ≤ k_ ∧ k_ < N3) _ s1 1 _ _ w _ HO.out.below (Kd.R_lower HG.out HN2.out) HMKI.out).mono ?_
  rintro e w_ ⟨he, hs, hb, hk⟩
  rw [HK2.out] at he
  subst he
  replace HO := Aside0.mk (HO.out.kept hk hb (fun x hx hp => by have := HLT.out x hx; omega))
  replace HW := Aside0.mk (H.R_kept2 HW.out hk (.inl HN12.out))
  replace HG := Aside0.mk hs
  clear hs hb hk
  have HG' : Aside0 (∀ W (ok : Nat → Prop), (Kd.int .i64).R 3 W w.heap.size ok (.slice AG s1.length cG) (H.markI s1 1) → (Kd.int .i64).C W AG (H.markI s1 1).length (H.markI s1 1) ∧ (H.markI s1 1).length ≤ cG) := ⟨fun W ok h => by have h2 := Kd.R_reads' h; exact ⟨h2.2.2, by rw [← h2.1]; exact h2.2.1⟩⟩
  go_wp2_with (first | ((with_reducible refine gate_dst (N := 2) rfl ?_); refine H.own_box HO.out ?hg (N := 2) ?hd (cs := #[Value.slice A0_0 l0_0.length c0_0]) (t := 24) ?hr ?_; (case hd => rfl); (case hg => rfl); (case hr => first | (go_simp; done) | (go_simp; rfl)); intro gb0 w_ ho_ hb_; replace HO := Aside0.mk ho_; clear ho_ hb_) | ((with_reducible refine gate_dst (N := 20) rfl ?_); refine wpList_load_row rfl 24 (.tmp 2) rfl _ rfl 24 _ (0, 0) _ (HO.out.get 0 rfl) Try.underlying24 rfl (by kernel_rfl) ?_) | ((with_reducible refine gate_dst (N := 26) rfl ?_); refine wpList_load_row rfl 24 (.tmp 2) rfl _ rfl 24 _ (0, 0) _ (HO.out.get 0 rfl) Try.underlying24 rfl (by kernel_rfl) ?_) | ((with_reducible refine gate_dst (N := 33) rfl ?_); refine wpList_load_row rfl 24 (.tmp 2) rfl _ rfl 24 _ (0, 0) _ (HO.out.get 0 rfl) Try.underlying24 rfl (by kernel_rfl) ?_) | ((with_reducible refine gate_dst (N := 38) rfl ?_); refine wpList_load_row rfl 28 (.tmp 8) rfl _ rfl 28 _ (0, 0) _ (HO.out.get 1 rfl) Try.underlying28 rfl (by kernel_rfl) ?_) | ((with_reducible refine gate_dst (N := 62) rfl ?_); refine wpList_load_row rfl 28 (.tmp 8) rfl _ rfl 28 _ (0, 0) _ (HO.out.get 1 rfl) Try.underlying28 rfl (by kernel_rfl) ?_) | ((with_reducible refine gate_dst (N := 93) rfl ?_); refine wpList_load_row rfl 24 (.tmp 2) rfl _ rfl 24 _ (0, 0) _ (HO.out.get 0 rfl) Try.underlying24 rfl (by kernel_rfl) ?_))
  refine (calls_of_args (by rw [H.markI_len]) (laws_heldIntS.calls k AG cG (H.markI s1 1) 1 _ _ (HG'.out _ _ HG.out).1 (HG'.out _ _ HG.out).2 HHELD.out)).mono ?_
  rintro e w_ ⟨he, hd⟩
  rw [HK2.out] at he
  subst he
  replace HO := Aside0.mk (HO.out.step hd.below)
  replace HW := Aside0.mk (Kd.R_below HW.out hd.below)
  replace HG := Aside0.mk (Kd.R_below HG.out hd.below);
  clear hd
  go_wp2_with (first | ((with_reducible refine gate_dst (N := 2) rfl ?_); refine H.own_box HO.out ?hg (N := 2) ?hd (cs := #[Value.slice A0_0 l0_0.length c0_0]) (t := 24) ?hr ?_; (case hd => rfl); (case hg => rfl); (case hr => first | (go_simp; done) | (go_simp; rfl)); intro gb0 w_ ho_ hb_; replace HO := Aside0.mk ho_; clear ho_ hb_) | ((with_reducible refine gate_dst (N := 20) rfl ?_); refine wpList_load_row rfl 24 (.tmp 2) rfl _ rfl 24 _ (0, 0) _ (HO.out.get 0 rfl) Try.underlying24 rfl (by kernel_rfl) ?_) | ((with_reducible refine gate_dst (N := 26) rfl ?_); refine wpList_load_row rfl 24 (.tmp 2) rfl _ rfl 24 _ (0, 0) _ (HO.out.get 0 rfl) Try.underlying24 rfl (by kernel_rfl) ?_) | ((with_reducible refine gate_dst (N := 33) rfl ?_); refine wpList_load_row rfl 24 (.tmp 2) rfl _ rfl 24 _ (0, 0) _ (HO.out.get 0 rfl) Try.underlying24 rfl (by kernel_rfl) ?_) | ((with_reducible refine gate_dst (N := 38) rfl ?_); refine wpList_load_row rfl 28 (.tmp 8) rfl _ rfl 28 _ (0, 0) _ (HO.out.get 1 rfl) Try.underlying28 rfl (by kernel_rfl) ?_) | ((with_reducible refine gate_dst (N := 62) rfl ?_); refine wpList_load_row rfl 28 (.tmp 8) rfl _ rfl 28 _ (0, 0) _ (HO.out.get 1 rfl) Try.underlying28 rfl (by kernel_rfl) ?_) | ((with_reducible refine gate_dst (N := 93) rfl ?_); refine wpList_load_row rfl 24 (.tmp 2) rfl _ rfl 24 _ (0, 0) _ (HO.out.get 0 rfl) Try.underlying24 rfl (by kernel_rfl) ?_))
  refine (laws_toGraph.calls k _ _ l0_0 y0_0 _ (Kd.C_below HR0_0.out HO.out.below) HC0_0.out HTO0.out).mono ?_
  rintro e w_ ⟨vVy0_0, rfl, hVy0_0, hb⟩
  obtain ⟨AVy0_0, cVy0_0, rfl⟩ := Kd.S_slice hVy0_0
  replace HO := Aside0.mk (HO.out.step hb)
  replace HW := Aside0.mk (Kd.R_below HW.out hb)
  replace HG := Aside0.mk (Kd.R_below HG.out hb);
  have HVy0_0 := Aside0.mk (H.S_upto hVy0_0)
  clear hb hVy0_0
  go_wp2_with (first | ((with_reducible refine gate_dst (N := 2) rfl ?_); refine H.own_box HO.out ?hg (N := 2) ?hd (cs := #[Value.slice A0_0 l0_0.length c0_0]) (t := 24) ?hr ?_; (case hd => rfl); (case hg => rfl); (case hr => first | (go_simp; done) | (go_simp; rfl)); intro gb0 w_ ho_ hb_; replace HO := Aside0.mk ho_; clear ho_ hb_) | ((with_reducible refine gate_dst (N := 20) rfl ?_); refine wpList_load_row rfl 24 (.tmp 2) rfl _ rfl 24 _ (0, 0) _ (HO.out.get 0 rfl) Try.underlying24 rfl (by kernel_rfl) ?_) | ((with_reducible refine gate_dst (N := 26) rfl ?_); refine wpList_load_row rfl 24 (.tmp 2) rfl _ rfl 24 _ (0, 0) _ (HO.out.get 0 rfl) Try.underlying24 rfl (by kernel_rfl) ?_) | ((with_reducible refine gate_dst (N := 33) rfl ?_); refine wpList_load_row rfl 24 (.tmp 2) rfl _ rfl 24 _ (0, 0) _ (HO.out.get 0 rfl) Try.underlying24 rfl (by kernel_rfl) ?_) | ((with_reducible refine gate_dst (N := 38) rfl ?_); refine wpList_load_row rfl 28 (.tmp 8) rfl _ rfl 28 _ (0, 0) _ (HO.out.get 1 rfl) Try.underlying28 rfl (by kernel_rfl) ?_) | ((with_reducible refine gate_dst (N := 62) rfl ?_); refine wpList_load_row rfl 28 (.tmp 8) rfl _ rfl 28 _ (0, 0) _ (HO.out.get 1 rfl) Try.underlying28 rfl (by kernel_rfl) ?_) | ((with_reducible refine gate_dst (N := 93) rfl ?_); refine wpList_load_row rfl 24 (.tmp 2) rfl _ rfl 24 _ (0, 0) _ (HO.out.get 0 rfl) Try.underlying24 rfl (by kernel_rfl) ?_))
  refine (laws_toIntS.calls k _ _ l1 y1 _ (Kd.C_below HR1.out HO.out.below) HC1.out HTO1.out).mono ?_
  rintro e w_ ⟨vVy1, rfl, hVy1, hb⟩
  obtain ⟨AVy1, cVy1, rfl⟩ := Kd.R_slice hVy1
  replace HO := Aside0.mk (HO.out.step hb)
  replace HW := Aside0.mk (Kd.R_below HW.out hb)
  replace HG := Aside0.mk (Kd.R_below HG.out hb)
  replace HVy0_0 := Aside0.mk (Kd.S_below HVy0_0.out hb);
  have HVy1 := Aside0.mk (H.R_upto hVy1)
  clear hb hVy1
  go_wp2_with (first | ((with_reducible refine gate_dst (N := 2) rfl ?_); refine H.own_box HO.out ?hg (N := 2) ?hd (cs := #[Value.slice A0_0 l0_0.length c0_0]) (t := 24) ?hr ?_; (case hd => rfl); (case hg => rfl); (case hr => first | (go_simp; done) | (go_simp; rfl)); intro gb0 w_ ho_ hb_; replace HO := Aside0.mk ho_; clear ho_ hb_) | ((with_reducible refine gate_dst (N := 20) rfl ?_); refine wpList_load_row rfl 24 (.tmp 2) rfl _ rfl 24 _ (0, 0) _ (HO.out.get 0 rfl) Try.underlying24 rfl (by kernel_rfl) ?_) | ((with_reducible refine gate_dst (N := 26) rfl ?_); refine wpList_load_row rfl 24 (.tmp 2) rfl _ rfl 24 _ (0, 0) _ (HO.out.get 0 rfl) Try.underlying24 rfl (by kernel_rfl) ?_) | ((with_reducible refine gate_dst (N := 33) rfl ?_); refine wpList_load_row rfl 24 (.tmp 2) rfl _ rfl 24 _ (0, 0) _ (HO.out.get 0 rfl) Try.underlying24 rfl (by kernel_rfl) ?_) | ((with_reducible refine gate_dst (N := 38) rfl ?_); refine wpList_load_row rfl 28 (.tmp 8) rfl _ rfl 28 _ (0, 0) _ (HO.out.get 1 rfl) Try.underlying28 rfl (by kernel_rfl) ?_) | ((with_reducible refine gate_dst (N := 62) rfl ?_); refine wpList_load_row rfl 28 (.tmp 8) rfl _ rfl 28 _ (0, 0) _ (HO.out.get 1 rfl) Try.underlying28 rfl (by kernel_rfl) ?_) | ((with_reducible refine gate_dst (N := 93) rfl ?_); refine wpList_load_row rfl 24 (.tmp 2) rfl _ rfl 24 _ (0, 0) _ (HO.out.get 0 rfl) Try.underlying24 rfl (by kernel_rfl) ?_))
  refine (impl_OwnerAt.calls _ _ y0_0 _ _ y1 s1 s2 _ (Kd.S_reads' HVy0_0.out).2.2 (Kd.S_reads' HVy0_0.out).2.1 (Kd.R_reads' HVy1.out).2.2 (Kd.R_reads' HVy1.out).2.1 HIMPL.out).mono ?_
  rintro e w_ ⟨vH, rfl, hs, hb⟩
  obtain ⟨AH, cH, rfl⟩ := Kd.R_slice hs
  replace HO := Aside0.mk (HO.out.step hb)
  replace HW := Aside0.mk (Kd.R_below HW.out hb)
  replace HG := Aside0.mk (Kd.R_below HG.out hb)
  replace HVy0_0 := Aside0.mk (Kd.S_below HVy0_0.out hb)
  replace HVy1 := Aside0.mk (Kd.R_below HVy1.out hb);
  have HH := Aside0.mk hs
  clear hs hb
  clear HVy0_0 HVy1
  go_wp2_with (first | ((with_reducible refine gate_dst (N := 2) rfl ?_); refine H.own_box HO.out ?hg (N := 2) ?hd (cs := #[Value.slice A0_0 l0_0.length c0_0]) (t := 24) ?hr ?_; (case hd => rfl); (case hg => rfl); (case hr => first | (go_simp; done) | (go_simp; rfl)); intro gb0 w_ ho_ hb_; replace HO := Aside0.mk ho_; clear ho_ hb_) | ((with_reducible refine gate_dst (N := 20) rfl ?_); refine wpList_load_row rfl 24 (.tmp 2) rfl _ rfl 24 _ (0, 0) _ (HO.out.get 0 rfl) Try.underlying24 rfl (by kernel_rfl) ?_) | ((with_reducible refine gate_dst (N := 26) rfl ?_); refine wpList_load_row rfl 24 (.tmp 2) rfl _ rfl 24 _ (0, 0) _ (HO.out.get 0 rfl) Try.underlying24 rfl (by kernel_rfl) ?_) | ((with_reducible refine gate_dst (N := 33) rfl ?_); refine wpList_load_row rfl 24 (.tmp 2) rfl _ rfl 24 _ (0, 0) _ (HO.out.get 0 rfl) Try.underlying24 rfl (by kernel_rfl) ?_) | ((with_reducible refine gate_dst (N := 38) rfl ?_); refine wpList_load_row rfl 28 (.tmp 8) rfl _ rfl 28 _ (0, 0) _ (HO.out.get 1 rfl) Try.underlying28 rfl (by kernel_rfl) ?_) | ((with_reducible refine gate_dst (N := 62) rfl ?_); refine wpList_load_row rfl 28 (.tmp 8) rfl _ rfl 28 _ (0, 0) _ (HO.out.get 1 rfl) Try.underlying28 rfl (by kernel_rfl) ?_) | ((with_reducible refine gate_dst (N := 93) rfl ?_); refine wpList_load_row rfl 24 (.tmp 2) rfl _ rfl 24 _ (0, 0) _ (HO.out.get 0 rfl) Try.underlying24 rfl (by kernel_rfl) ?_))
  refine (laws_eqIntS.calls k _ _ s1 _ _ s1 true _ (Kd.R_reads' HH.out).2.2 (Kd.R_reads' HH.out).2.1 (Kd.R_reads' HW.out).2.2 (Kd.R_reads' HW.out).2.1 HEQR.out).mono ?_
  rintro e w_ ⟨rfl, hd⟩
  replace HO := Aside0.mk (HO.out.step hd.below)
  replace HW := Aside0.mk (Kd.R_below HW.out hd.below)
  replace HG := Aside0.mk (Kd.R_below HG.out hd.below)
  replace HH := Aside0.mk (Kd.R_below HH.out hd.below);
  clear hd
  go_wp2_with (first | ((with_reducible refine gate_dst (N := 2) rfl ?_); refine H.own_box HO.out ?hg (N := 2) ?hd (cs := #[Value.slice A0_0 l0_0.length c0_0]) (t := 24) ?hr ?_; (case hd => rfl); (case hg => rfl); (case hr => first | (go_simp; done) | (go_simp; rfl)); intro gb0 w_ ho_ hb_; replace HO := Aside0.mk ho_; clear ho_ hb_) | ((with_reducible refine gate_dst (N := 20) rfl ?_); refine wpList_load_row rfl 24 (.tmp 2) rfl _ rfl 24 _ (0, 0) _ (HO.out.get 0 rfl) Try.underlying24 rfl (by kernel_rfl) ?_) | ((with_reducible refine gate_dst (N := 26) rfl ?_); refine wpList_load_row rfl 24 (.tmp 2) rfl _ rfl 24 _ (0, 0) _ (HO.out.get 0 rfl) Try.underlying24 rfl (by kernel_rfl) ?_) | ((with_reducible refine gate_dst (N := 33) rfl ?_); refine wpList_load_row rfl 24 (.tmp 2) rfl _ rfl 24 _ (0, 0) _ (HO.out.get 0 rfl) Try.underlying24 rfl (by kernel_rfl) ?_) | ((with_reducible refine gate_dst (N := 38) rfl ?_); refine wpList_load_row rfl 28 (.tmp 8) rfl _ rfl 28 _ (0, 0) _ (HO.out.get 1 rfl) Try.underlying28 rfl (by kernel_rfl) ?_) | ((with_reducible refine gate_dst (N := 62) rfl ?_); refine wpList_load_row rfl 28 (.tmp 8) rfl _ rfl 28 _ (0, 0) _ (HO.out.get 1 rfl) Try.underlying28 rfl (by kernel_rfl) ?_) | ((with_reducible refine gate_dst (N := 93) rfl ?_); refine wpList_load_row rfl 24 (.tmp 2) rfl _ rfl 24 _ (0, 0) _ (HO.out.get 0 rfl) Try.underlying24 rfl (by kernel_rfl) ?_))
  refine (calls_of_args (by rw [H.markI_len]) (laws_heldIntS.calls k AG cG (H.markI s1 1) 1 _ _ (HG'.out _ _ HG.out).1 (HG'.out _ _ HG.out).2 HHELD.out)).mono ?_
  rintro e w_ ⟨he, hd⟩
  rw [HK2.out] at he
  subst he
  replace HO := Aside0.mk (HO.out.step hd.below)
  replace HW := Aside0.mk (Kd.R_below HW.out hd.below)
  replace HG := Aside0.mk (Kd.R_below HG.out hd.below)
  replace HH := Aside0.mk (Kd.R_below HH.out hd.below);
  clear hd
  go_wp2_with (first | ((with_reducible refine gate_dst (N := 2) rfl ?_); refine H.own_box HO.out ?hg (N := 2) ?hd (cs := #[Value.slice A0_0 l0_0.length c0_0]) (t := 24) ?hr ?_; (case hd => rfl); (case hg => rfl); (case hr => first | (go_simp; done) | (go_simp; rfl)); intro gb0 w_ ho_ hb_; replace HO := Aside0.mk ho_; clear ho_ hb_) | ((with_reducible refine gate_dst (N := 20) rfl ?_); refine wpList_load_row rfl 24 (.tmp 2) rfl _ rfl 24 _ (0, 0) _ (HO.out.get 0 rfl) Try.underlying24 rfl (by kernel_rfl) ?_) | ((with_reducible refine gate_dst (N := 26) rfl ?_); refine wpList_load_row rfl 24 (.tmp 2) rfl _ rfl 24 _ (0, 0) _ (HO.out.get 0 rfl) Try.underlying24 rfl (by kernel_rfl) ?_) | ((with_reducible refine gate_dst (N := 33) rfl ?_); refine wpList_load_row rfl 24 (.tmp 2) rfl _ rfl 24 _ (0, 0) _ (HO.out.get 0 rfl) Try.underlying24 rfl (by kernel_rfl) ?_) | ((with_reducible refine gate_dst (N := 38) rfl ?_); refine wpList_load_row rfl 28 (.tmp 8) rfl _ rfl 28 _ (0, 0) _ (HO.out.get 1 rfl) Try.underlying28 rfl (by kernel_rfl) ?_) | ((with_reducible refine gate_dst (N := 62) rfl ?_); refine wpList_load_row rfl 28 (.tmp 8) rfl _ rfl 28 _ (0, 0) _ (HO.out.get 1 rfl) Try.underlying28 rfl (by kernel_rfl) ?_) | ((with_reducible refine gate_dst (N := 93) rfl ?_); refine wpList_load_row rfl 24 (.tmp 2) rfl _ rfl 24 _ (0, 0) _ (HO.out.get 0 rfl) Try.underlying24 rfl (by kernel_rfl) ?_))
  go_ret
  exact ⟨rfl, HO.out.below⟩
theorem laws_FnExactOwnerAt.calls (k : Nat) (A0_0 : Option Addr) (c0_0 : Nat) (l0_0 : List (List Int)) (A1 : Option Addr) (c1 : Nat) (l1 : List Int) (w : World) (hr0_0 : Kd.C (Kd.slice 3 (Kd.int .i64)) w A0_0 l0_0.length l0_0) (hc0_0 : l0_0.length ≤ c0_0) (hr1 : Kd.C (Kd.int .i64) w A1 l1.length l1) (hc1 : l1.length ≤ c1) (h : laws_FnExactOwnerAt.ok k l0_0 l1) :
    Calls Try.prog 5 #[.agg #[.slice A0_0 l0_0.length c0_0], .slice A1 l1.length c1] w fun e w' => e = .returned (.bool true) ∧ Below w.heap.size w w' := by
  unfold laws_FnExactOwnerAt.ok at h
  rcases h with h | h | h
  · exact laws_FnExactOwnerAt.s0 k A0_0 c0_0 l0_0 A1 c1 l1 w hr0_0 hc0_0 hr1 hc1 h
  · exact laws_FnExactOwnerAt.s1 k A0_0 c0_0 l0_0 A1 c1 l1 w hr0_0 hc0_0 hr1 hc1 h
  · exact laws_FnExactOwnerAt.whole k A0_0 c0_0 l0_0 A1 c1 l1 w hr0_0 hc0_0 hr1 hc1 h
end Go.Proofs.Ytndkblahnihhjaa.P

namespace Go.Proofs.Ytndkblahnihhjaa.Q
open Go.RowKit Go.Proofs.Ytndkblahnihhjaa.P Go.Proofs.Ytndkblahnihhjaa.H Go.Proofs.YtndkblahnihhjaaW.PrintWords
theorem ownerAt_of (l0_0 : List (List Int)) (l1 : List Int) (hl0 : Len (Len I64) l0_0) (core : Small l0_0 → l1.length ≤ 1048576 → ∃ (s1 : List Int) (s2 : Bool), Ev (fun k => spec_OwnerAt.f k l0_0 l1) (s1, s2) ∧ impl_OwnerAt.f l0_0 l1 = some (s1, s2) ∧ s1.length ≤ 1048576) : ∃ k, laws_FnExactOwnerAt.ok k l0_0 l1 := by
  unfold laws_FnExactOwnerAt.ok
  by_cases hc1 : l1.length ≤ 1048576
  case neg =>
    exact ⟨0, .inl (by unfold laws_FnExactOwnerAt.skip0; omega)⟩
  obtain ⟨z0, ⟨Kz0, hz0⟩, hcase0⟩ := szGraph_ev l0_0 1048576 (by decide) (by decide) hl0
  rcases hcase0 with hneg0 | ⟨h00, h10', hs0⟩
  case inl =>
    exact ⟨Kz0, .inr (.inl (by unfold laws_FnExactOwnerAt.skip1; exact ⟨z0, hc1, hz0 _ (by omega), hneg0⟩))⟩
  obtain ⟨s1, s2, ⟨Ksp, hsp⟩, him, hsm⟩ := core hs0 hc1
  obtain ⟨Keq, heq⟩ := eqIntS_ev s1 hsm
  obtain ⟨Khd, hhd⟩ := heldI_ev s1 1 (by decide) (by omega)
  obtain ⟨Kmk, hmk⟩ := markI_ev s1 1 (by decide) (by omega)
  obtain ⟨Kt0, ht0⟩ := toGraph_ev l0_0 hs0
  obtain ⟨Ke0, he0⟩ := eqGraph_ev l0_0 hs0
  have hty0 := total_small hs0
  have hln0 := hs0.1
  obtain ⟨Kt1, ht1⟩ := toIntS_ev l1 hc1
  obtain ⟨Ke1, he1⟩ := eqIntS_ev l1 hc1
  refine ⟨Kz0 + Ksp + Keq + Khd + Kmk + Kt0 + Ke0 + Kt1 + Ke1, .inr (.inr (?_))⟩
  unfold laws_FnExactOwnerAt.good
  exact ⟨z0, l0_0, l1, s1, s2, hz0 _ (by omega), h00, hc1, ht0 _ (by omega), ht1 _ (by omega), hsp _ (by omega), him, heq _ (by omega), he0 _ (by omega), he1 _ (by omega), by omega, hhd _ (by omega), hmk _ (by omega), hln0, by omega⟩
end Go.Proofs.Ytndkblahnihhjaa.Q

namespace Go.Proofs.Ytndkblahnihhjaa.Q
open Go.RowKit Go.Proofs.Ytndkblahnihhjaa.P Go.Proofs.Ytndkblahnihhjaa.H Go.Proofs.YtndkblahnihhjaaW.PrintWords
theorem getD_memO {l : List Int} {m : Nat} (h : m < l.length) : l.getD m 0 ∈ l := by
  rw [List.getD_eq_getElem?_getD, List.getElem?_eq_getElem h]
  exact List.getElem_mem h
theorem drop_getDO {l : List Int} {m : Nat} (h : m < l.length) : l.drop m = l.getD m 0 :: l.drop (m + 1) := by
  rw [List.drop_eq_getElem_cons h, List.getD_eq_getElem?_getD, List.getElem?_eq_getElem h]
  rfl
def inSJ (sets joins : List Int) (d : Int) : Bool := decide (d ∈ sets) || decide (d ∈ joins)
def ostep (dom : List (List Int)) (S : Int → Bool) (best d : Int) : Int := if S d = false then best else if best < 0 then d else if ((dom.getD d.toNat []).length : Int) > ((dom.getD best.toNat []).length : Int) then d else best
def ownA (dom : List (List Int)) (sets joins acc l : List Int) (best d n b L M : Int) (k : Nat) : Option (List Int × Bool) := (if best < 0 then spec_OwnerAt.l1 k sets joins dom acc d dom n b l L M else (if 0 ≤ d then (if d < (dom.length : Int) then (if 0 ≤ best then (if best < (dom.length : Int) then (if ((dom.getD d.toNat []).length : Int) > ((dom.getD best.toNat []).length : Int) then spec_OwnerAt.l1 k sets joins dom acc d dom n b l L M else spec_OwnerAt.l1 k sets joins dom acc best dom n b l L M) else none) else none) else none) else none))
theorem own_l1 {dom : List (List Int)} {sets joins acc l : List Int} {best d n : Int} {b k m : Nat} (hm : m < l.length) (h0 : 0 ≤ d) (hd : l.getD m 0 = d) (hw : wrap64 ((m : Int) + 1) = ((m + 1 : Nat) : Int)) :
    spec_OwnerAt.l1 (k + 1) sets joins dom acc best dom n (b : Int) l (l.length : Int) (m : Int) = (spec_l1Has.f k sets d).bind fun t => if t = true then ownA dom sets joins acc l best d n (b : Int) (l.length : Int) ((m + 1 : Nat) : Int) k else ((spec_l1Has.f k joins d).bind fun t2 => if t2 = true then ownA dom sets joins acc l best d n (b : Int) (l.length : Int) ((m + 1 : Nat) : Int) k else spec_OwnerAt.l1 k sets joins dom acc best dom n (b : Int) l (l.length : Int) ((m + 1 : Nat) : Int)) := by
  have hrd : rd l (m : Int) = d := hd
  have e1 : rd_L1 dom d = dom.getD d.toNat [] := rfl
  have e2 : rd_L1 dom best = dom.getD best.toNat [] := rfl
  simp only [spec_OwnerAt.l1]
  rw [if_pos (by omega), if_pos (by omega), if_pos (by omega), hrd, hw, e1, e2]
  rfl
theorem own_inner {dom : List (List Int)} {sets joins acc : List Int} {b : Nat} {n : Int} {r : List Int × Bool} {l : List Int} (hse : sets.length ≤ 1048576) (hjo : joins.length ≤ 1048576) (hacc : acc.length < 1048576) (hb : (b : Int) < 1048576) (hl : l.length ≤ 1048576) (hin : ∀ y ∈ l, 0 ≤ y ∧ y < (dom.length : Int)) :
    ∀ m, m ≤ l.length → ∀ best : Int, (best < 0 ∨ (0 ≤ best ∧ best < (dom.length : Int))) → Ev (fun k => spec_OwnerAt.l0 k sets joins dom (acc ++ [(l.drop m).foldl (ostep dom (inSJ sets joins)) best]) dom n ((b : Int) + 1)) r → Ev (fun k => spec_OwnerAt.l1 k sets joins dom acc best dom n (b : Int) l (l.length : Int) (m : Int)) r := by
  refine down (n := l.length) (p := fun m => ∀ best : Int, (best < 0 ∨ (0 ≤ best ∧ best < (dom.length : Int))) → Ev (fun k => spec_OwnerAt.l0 k sets joins dom (acc ++ [(l.drop m).foldl (ostep dom (inSJ sets joins)) best]) dom n ((b : Int) + 1)) r → Ev (fun k => spec_OwnerAt.l1 k sets joins dom acc best dom n (b : Int) l (l.length : Int) (m : Int)) r) ?h0 ?hs
  case h0 =>
    intro best _ h
    rw [List.drop_length, List.foldl_nil] at h
    refine Ev.step (fun k => ?_) h
    simp only [spec_OwnerAt.l1]
    rw [if_neg (by omega), if_pos (by omega), w64 (by omega) (by omega)]
  case hs =>
    intro m hm ih best hbest h
    have hx := hin _ (getD_memO hm)
    rw [drop_getDO hm, List.foldl_cons] at h
    obtain ⟨d, hd⟩ : ∃ d, l.getD m 0 = d := ⟨_, rfl⟩
    rw [hd] at hx h
    have hnb : ostep dom (inSJ sets joins) best d < 0 ∨ (0 ≤ ostep dom (inSJ sets joins) best d ∧ ostep dom (inSJ sets joins) best d < (dom.length : Int)) := by
      unfold ostep
      split
      · exact hbest
      · split
        · exact .inr hx
        · split
          · exact .inr hx
          · exact hbest
    have hgo := ih (ostep dom (inSJ sets joins) best d) hnb h
    have hw : wrap64 ((m : Int) + 1) = ((m + 1 : Nat) : Int) := w64 (by omega) (by omega)
    have hyes : inSJ sets joins d = true → Ev (fun k => ownA dom sets joins acc l best d n (b : Int) (l.length : Int) ((m + 1 : Nat) : Int) k) r := by
      intro hS
      unfold ostep at hgo
      rw [if_neg (by rw [hS]; simp)] at hgo
      unfold ownA
      by_cases c2 : best < 0
      · rw [if_pos c2] at hgo
        exact Ev.congr (fun k => by rw [if_pos c2]) hgo
      · rw [if_neg c2] at hgo
        by_cases c3 : ((dom.getD d.toNat []).length : Int) > ((dom.getD best.toNat []).length : Int)
        · rw [if_pos c3] at hgo
          exact Ev.congr (fun k => by rw [if_neg c2, if_pos hx.1, if_pos hx.2, if_pos (by omega), if_pos (by omega), if_pos c3]) hgo
        · rw [if_neg c3] at hgo
          exact Ev.congr (fun k => by rw [if_neg c2, if_pos hx.1, if_pos hx.2, if_pos (by omega), if_pos (by omega), if_neg c3]) hgo
    refine Ev.step (fun k => own_l1 hm hx.1 hd hw) ?_
    have h5 := has_ev sets d hse
    have h6 := has_ev joins d hjo
    cases h1 : decide (d ∈ sets) with
    | true =>
      rw [h1] at h5
      exact h5.bind (f := fun k t => if t = true then ownA dom sets joins acc l best d n (b : Int) (l.length : Int) ((m + 1 : Nat) : Int) k else ((spec_l1Has.f k joins d).bind fun t2 => if t2 = true then ownA dom sets joins acc l best d n (b : Int) (l.length : Int) ((m + 1 : Nat) : Int) k else spec_OwnerAt.l1 k sets joins dom acc best dom n (b : Int) l (l.length : Int) ((m + 1 : Nat) : Int))) (Ev.congr (fun k => by rw [if_pos rfl]) (hyes (by unfold inSJ; rw [h1, Bool.true_or])))
    | false =>
      rw [h1] at h5
      refine h5.bind (f := fun k t => if t = true then ownA dom sets joins acc l best d n (b : Int) (l.length : Int) ((m + 1 : Nat) : Int) k else ((spec_l1Has.f k joins d).bind fun t2 => if t2 = true then ownA dom sets joins acc l best d n (b : Int) (l.length : Int) ((m + 1 : Nat) : Int) k else spec_OwnerAt.l1 k sets joins dom acc best dom n (b : Int) l (l.length : Int) ((m + 1 : Nat) : Int))) (Ev.congr (fun k => by rw [if_neg (by simp)]) (h6.bind (f := fun k t2 => if t2 = true then ownA dom sets joins acc l best d n (b : Int) (l.length : Int) ((m + 1 : Nat) : Int) k else spec_OwnerAt.l1 k sets joins dom acc best dom n (b : Int) l (l.length : Int) ((m + 1 : Nat) : Int)) ?_))
      cases h2 : decide (d ∈ joins) with
      | true => exact Ev.congr (fun k => by rw [if_pos rfl]) (hyes (by unfold inSJ; rw [h2, Bool.or_true]))
      | false =>
        have hS : inSJ sets joins d = false := by unfold inSJ; rw [h1, h2]; rfl
        unfold ostep at hgo
        rw [if_pos hS] at hgo
        exact Ev.congr (fun k => by rw [if_neg (by simp)]) hgo
section
variable {g : List (List Int)}
theorem domL_atO {b : Nat} (hb : b < g.length) : (domL g).getD b [] = listTo ((domF g).getD b []) 12 := by
  have hbl : b < (domF g).length := by unfold domF; rw [matF_len]; exact hb
  unfold domL
  rw [List.getD_eq_getElem?_getD, List.getElem?_map, List.getD_eq_getElem?_getD, List.getElem?_eq_getElem hbl]
  rfl
theorem dom_selfO (hG : goodG g = true) {b : Nat} (hb : b < g.length) {y : Nat} (hy : (y : Int) ∈ (domL g).getD b []) : y < g.length ∧ 0 < (listTo ((domF g).getD y []) 12).length := by
  have hr := goodG_rows hG
  have hm := ((domL_rel hG).mem b hb _).1 hy
  have hyr := (listTo_reach hG _).1 hm.1
  have hyn := hyr.rng hG (by decide) (by have := hr.1.1; omega)
  have hyl : y < g.length := by omega
  refine ⟨hyl, ?_⟩
  have h2 : (y : Int) ∈ (domL g).getD y [] := ((domL_rel hG).mem y hyl _).2 ⟨hm.1, hm.1, fun h => ((listTo_reach hG _).1 h).ne rfl⟩
  rw [domL_atO hyl] at h2
  exact List.length_pos_of_mem h2
theorem own_run (hG : goodG g = true) {b : Nat} (hb : b < g.length) {O : List Bool} {S : Int → Bool} (hO : ∀ k : Nat, k < 12 → O.getD k false = S (k : Int)) {s : List Bool} (hs : s = rowF (fun k => ((domF g).getD b []).getD k false && O.getD k false)) : ∀ i, i ≤ 12 →
    (listTo ((domF g).getD b []) i).foldl (ostep (domL g) S) (-1) = (nrTo (domF g) s i).1 ∧
    (((nrTo (domF g) s i).1 = -1 ∧ (nrTo (domF g) s i).2 = 0) ∨ (0 ≤ (nrTo (domF g) s i).1 ∧ (nrTo (domF g) s i).1.toNat < g.length ∧ (nrTo (domF g) s i).2 = (listTo ((domF g).getD (nrTo (domF g) s i).1.toNat []) 12).length)) := by
  intro i
  induction i with
  | zero => intro _; exact ⟨rfl, .inl ⟨rfl, rfl⟩⟩
  | succ i ih =>
    intro hi
    obtain ⟨h1, h2⟩ := ih (by omega)
    have hself : ∀ y : Nat, y < 12 → ((domF g).getD b []).getD y false = true → y < g.length ∧ 0 < (listTo ((domF g).getD y []) 12).length := fun y hy h => dom_selfO hG hb (by rw [domL_atO hb, listTo_mem]; exact ⟨y, hy, rfl, h⟩)
    have hst : nrTo (domF g) s (i + 1) = if s.getD i false && decide ((nrTo (domF g) s i).2 < (listTo ((domF g).getD i []) 12).length) then ((i : Int), (listTo ((domF g).getD i []) 12).length) else nrTo (domF g) s i := rfl
    have hsi : s.getD i false = (((domF g).getD b []).getD i false && S (i : Int)) := by rw [hs, rowF_get (by omega), hO i (by omega)]
    rw [hsi] at hst
    obtain ⟨st, hp⟩ : ∃ st, nrTo (domF g) s i = st := ⟨_, rfl⟩
    rw [hp] at h1 h2 hst
    rw [hst, listTo_step]
    cases hbit : ((domF g).getD b []).getD i false with
    | false =>
      rw [if_neg (by simp), Bool.false_and, Bool.false_and, if_neg (by simp)]
      exact ⟨h1, h2⟩
    | true =>
      rw [if_pos rfl, List.foldl_append, List.foldl_cons, List.foldl_nil, h1, Bool.true_and]
      cases hSi : S (i : Int) with
      | false =>
        rw [Bool.false_and, if_neg (by simp)]
        refine ⟨?_, h2⟩
        unfold ostep
        rw [if_pos hSi]
      | true =>
        obtain ⟨hig, hpos⟩ := hself i (by omega) hbit
        have hdi : (domL g).getD i [] = listTo ((domF g).getD i []) 12 := domL_atO hig
        rw [Bool.true_and]
        unfold ostep
        rw [if_neg (by rw [hSi]; simp), Int.toNat_natCast, hdi]
        rcases h2 with ⟨a1, a2⟩ | ⟨a1, a2, a3⟩
        · rw [a1, a2, if_pos (by decide), decide_eq_true hpos, if_pos rfl]
          exact ⟨rfl, .inr ⟨by omega, by rw [Int.toNat_natCast]; exact hig, by rw [Int.toNat_natCast]⟩⟩
        · rw [if_neg (by omega), domL_atO a2, ← a3]
          by_cases c : st.2 < (listTo ((domF g).getD i []) 12).length
          · rw [decide_eq_true c, if_pos rfl, if_pos (by omega)]
            exact ⟨rfl, .inr ⟨by omega, by rw [Int.toNat_natCast]; exact hig, by rw [Int.toNat_natCast]⟩⟩
          · rw [decide_eq_false c, if_neg (show ¬ (((listTo ((domF g).getD i []) 12).length : Nat) : Int) > ((st.2 : Nat) : Int) by omega), if_neg (show ¬ (false = true) by simp)]
            exact ⟨rfl, .inr ⟨a1, a2, a3⟩⟩
end
theorem ownerAt_core (g : List (List Int)) (l : List Int) (hg : Small g) (hl : l.length ≤ 1048576) : ∃ (s1 : List Int) (s2 : Bool), Ev (fun k => spec_OwnerAt.f k g l) (s1, s2) ∧ impl_OwnerAt.f g l = some (s1, s2) ∧ s1.length ≤ 1048576 := by
  obtain ⟨j1, j2, hj1, hj2, hj3, hj4⟩ := joinsOf_core g l hg hl
  unfold impl_OwnerAt.f spec_OwnerAt.f
  cases hs : setsB g l with
  | false =>
    rw [hs] at hj4
    subst hj4
    refine ⟨[], false, hj1.bind ?_, by rw [if_neg (by simp)], by simp⟩
    exact ev_is fun k => by rw [if_neg (by simp)]
  | true =>
    rw [hs] at hj4
    subst hj4
    unfold impl_JoinsOf.f at hj2
    rw [hs, if_pos rfl] at hj2
    simp only [Option.some.injEq, Prod.mk.injEq, and_true] at hj2
    have hs2 := hs
    unfold setsB at hs2
    rw [Bool.and_eq_true, Bool.and_eq_true] at hs2
    have hG := hs2.1
    have hr := goodG_rows hG
    have hn2 : g.length ≤ 12 := hr.1.2
    have hrn := B.rl_rng hs2.2.1
    have hln := B.rl_len12 hn2 hs2.2.1
    have hjl := (joins_some (fl := froL g) (l := l) (froL_row12 hn2) (fun y hy => ⟨(hrn y hy).1, by have := (hrn y hy).2; omega⟩) hln).2.len
    obtain ⟨J, hJ⟩ : ∃ J, joinsF (froL g) l = J := ⟨_, rfl⟩
    rw [hJ] at hj2 hjl
    have hO : ∀ k : Nat, k < 12 → (andF J l).getD k false = inSJ l j1 (k : Int) := by
      intro k hk
      unfold inSJ
      rw [Bool.eq_iff_iff, andF_get l J k (by omega) (fun y hy => (hrn y hy).1), Bool.or_eq_true, decide_eq_true_eq, decide_eq_true_eq, ← hj2, listTo_mem]
      constructor
      · rintro (h | h)
        · exact .inr ⟨k, hk, rfl, h⟩
        · exact .inl h
      · rintro (h | ⟨j, h1, h2, h3⟩)
        · exact .inr h
        · exact .inl (by rwa [show k = j by omega])
    have hdl : (domL g).length = g.length := (domL_rel hG).len
    rw [hJ]
    refine ⟨ownTo (domF g) (andF J l) g.length g.length, true, hj1.bind ?_, by rw [if_pos rfl], by rw [ownTo_len]; omega⟩
    have e : spec_l10Dominators.f g = some (domL g) := by unfold spec_l10Dominators.f; rw [hG, if_pos rfl]
    refine Ev.congr (fun k => by rw [if_pos rfl, e, Option.bind_some, hdl]) ?_
    obtain ⟨OUT, hOUT⟩ : ∃ OUT, ownTo (domF g) (andF J l) g.length g.length = OUT := ⟨_, rfl⟩
    have hol : OUT.length = g.length := by rw [← hOUT, ownTo_len]
    have hat : ∀ t, t < g.length → OUT[t]? = some (ownB (domF g) (andF J l) t) := by
      intro t ht
      rw [← hOUT]
      unfold ownTo
      rw [List.getElem?_map, List.getElem?_range ht, Option.map_some, if_pos ht]
    rw [hOUT]
    exact down0 (n := g.length) (p := fun b => Ev (fun k => spec_OwnerAt.l0 k l j1 (domL g) (OUT.take b) (domL g) (g.length : Int) (b : Int)) (OUT, true))
      (Ev.step (f := fun _ => some (OUT, true)) (fun k => by simp only [spec_OwnerAt.l0]; rw [if_neg (by omega), List.take_of_length_le (by omega)]) (Ev.now _))
      (fun b hb ih => by
        have hrow := domL_atO hb
        have hlen := listTo_len ((domF g).getD b []) 12
        refine Ev.step (fun k => ?_) (own_inner (dom := domL g) (sets := l) (joins := j1) (acc := OUT.take b) (b := b) (n := (g.length : Int)) (r := (OUT, true)) (l := (domL g).getD b []) hl hj3 (by rw [List.length_take]; omega) (by omega) (by rw [hrow]; omega) (fun y hy => ?_) 0 (Nat.zero_le _) (-1) (.inl (by decide)) ?_)
        · simp only [spec_OwnerAt.l0]
          rw [if_pos (by omega), if_pos (by omega), if_pos (by omega)]
          rfl
        · have hm := ((domL_rel hG).mem b hb y).1 hy
          have := ((listTo_reach hG y).1 hm.1).rng hG (by decide) (by have := hr.1.1; omega)
          omega
        · rw [List.drop_zero, hrow, (own_run hG hb hO rfl 12 (by decide)).1]
          have hto : OUT.take (b + 1) = OUT.take b ++ [ownB (domF g) (andF J l) b] := by rw [List.take_add_one, hat b hb]; rfl
          rw [hto] at ih
          exact ih)
theorem ownerAt_law (g : List (List Int)) (l : List Int) (hn : g.length ≤ 9223372036854775807) (hl : Len (Len I64) g) (hn1 : l.length ≤ 9223372036854775807) (hl1 : ∀ y ∈ l, I64 y) : ∃ k, laws_FnExactOwnerAt.ok k g l := ownerAt_of g l hl (fun hg h1 => ownerAt_core g l hg h1)
theorem opensInt : Opens Try.prog 3 (Kd.int .i64) I64 := Opens.int Try.underlying3
end Go.Proofs.Ytndkblahnihhjaa.Q
