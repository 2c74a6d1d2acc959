import Derived.Test.YtplcipjlkogadaaMFnExactBackEdges1
import Derived.Test.YtplcipjlkogadaaMFnExactBackEdges2
import Derived.Test.YtplcipjlkogadaaMFnExactBackEdges3
set_option linter.unusedVariables false
set_option linter.unusedSimpArgs false
namespace Go.Proofs.Ytplcipjlkogadaa.P
open Go.RowKit Go.Proofs.YtplcipjlkogadaaW.PrintWords Go.Proofs.YtplcipjlkogadaaW.PrintLast Go.Proofs.YtplcipjlkogadaaW.PrintMore
attribute [local go_sem] max2_int min2_int max_two min_two max_three min_three max_four min_four
def laws_FnExactBackEdges.good (k : Nat) (l0_0 : List (List Int)) : Prop := ∃ z0 : Int, ∃ y0_0 : List (List Int), ∃ (s1 : List (List Int)) (s2 : Bool), laws_szGraph.f k l0_0 1048576 = some z0 ∧ 0 ≤ z0 ∧ laws_toGraph.f k l0_0 = some y0_0 ∧ spec_BackEdges.f k y0_0 = some (s1, s2) ∧ impl_BackEdges.f y0_0 = some (s1, s2) ∧ laws_eqIntSS.f k s1 s1 = some true ∧ laws_eqGraph.f k y0_0 y0_0 = some true ∧ 1 + (H.total s1 : Int) ≤ 4611686018427387904 ∧ laws_heldIntSS.f k (H.markSS s1 1) 1 = some (1 + (H.total s1 : Int)) ∧ y0_0.length ≤ 1048576 ∧ 1 + ((H.total y0_0 : Int) : Int) ≤ 4611686018427387904
def laws_FnExactBackEdges.skip0 (k : Nat) (l0_0 : List (List Int)) : Prop := ∃ z0 : Int, laws_szGraph.f k l0_0 1048576 = some z0 ∧ z0 < 0
def laws_FnExactBackEdges.ok (k : Nat) (l0_0 : List (List Int)) : Prop := laws_FnExactBackEdges.skip0 k l0_0 ∨ laws_FnExactBackEdges.good k l0_0
set_option maxHeartbeats 8000000 in
set_option maxRecDepth 100000 in
theorem laws_FnExactBackEdges.s0 (k : Nat) (A0_0 : Option Addr) (c0_0 : Nat) (l0_0 : List (List Int)) (w : World) (hr0_0 : Kd.C (Kd.slice 3 (Kd.int .i64)) w A0_0 l0_0.length l0_0) (hc0_0 : l0_0.length ≤ c0_0) (h : laws_FnExactBackEdges.skip0 k l0_0) :
    Calls Try.prog 9 #[.agg #[.slice A0_0 l0_0.length c0_0]] w fun e w' => e = .returned (.bool true) ∧ Below w.heap.size w w' := by
  have HR0_0 := Aside0.mk hr0_0
  have HC0_0 := Aside0.mk hc0_0
  clear hr0_0 hc0_0
  have HO := Aside0.mk (H.Own.nil w)
  unfold laws_FnExactBackEdges.skip0 at h
  obtain ⟨z0, ⟨hsz0, hz0⟩⟩ := h
  have HSZ0 := Aside0.mk hsz0
  clear hsz0
  go_enter Try.func9, Try.ntmps9
  go_wp2_with (first | ((with_reducible refine gate_dst (N := 1) rfl ?_); refine H.own_box HO.out ?hg (N := 1) ?hd (cs := #[Value.slice A0_0 l0_0.length c0_0]) (t := 24) ?hr ?_; (case hd => rfl); (case hg => rfl); (case hr => first | (go_simp; done) | (go_simp; rfl)); intro gb0 w_ ho_ hb_; replace HO := Aside0.mk ho_; clear ho_ hb_) | ((with_reducible refine gate_dst (N := 14) rfl ?_); refine wpList_load_row rfl 24 (.tmp 1) rfl _ rfl 24 _ (0, 0) _ (HO.out.get 0 rfl) Try.underlying24 rfl (by kernel_rfl) ?_) | ((with_reducible refine gate_dst (N := 20) rfl ?_); refine wpList_load_row rfl 24 (.tmp 1) rfl _ rfl 24 _ (0, 0) _ (HO.out.get 0 rfl) Try.underlying24 rfl (by kernel_rfl) ?_) | ((with_reducible refine gate_dst (N := 25) rfl ?_); refine wpList_load_row rfl 24 (.tmp 1) rfl _ rfl 24 _ (0, 0) _ (HO.out.get 0 rfl) Try.underlying24 rfl (by kernel_rfl) ?_) | ((with_reducible refine gate_dst (N := 28) rfl ?_); refine wpList_load_row rfl 27 (.tmp 6) rfl _ rfl 27 _ (0, 0) _ (HO.out.get 1 rfl) Try.underlying27 rfl (by kernel_rfl) ?_) | ((with_reducible refine gate_dst (N := 46) rfl ?_); refine wpList_load_row rfl 27 (.tmp 6) rfl _ rfl 27 _ (0, 0) _ (HO.out.get 1 rfl) Try.underlying27 rfl (by kernel_rfl) ?_) | ((with_reducible refine gate_dst (N := 74) rfl ?_); refine wpList_load_row rfl 24 (.tmp 1) rfl _ rfl 24 _ (0, 0) _ (HO.out.get 0 rfl) Try.underlying24 rfl (by kernel_rfl) ?_))
  refine (laws_szGraph.calls k _ _ l0_0 1048576 z0 _ (Kd.C_below HR0_0.out HO.out.below) HC0_0.out HSZ0.out).mono ?_
  rintro e w_ ⟨rfl, hb⟩
  replace HO := Aside0.mk (HO.out.step hb)
  clear hb
  go_wp2_with (first | ((with_reducible refine gate_dst (N := 1) rfl ?_); refine H.own_box HO.out ?hg (N := 1) ?hd (cs := #[Value.slice A0_0 l0_0.length c0_0]) (t := 24) ?hr ?_; (case hd => rfl); (case hg => rfl); (case hr => first | (go_simp; done) | (go_simp; rfl)); intro gb0 w_ ho_ hb_; replace HO := Aside0.mk ho_; clear ho_ hb_) | ((with_reducible refine gate_dst (N := 14) rfl ?_); refine wpList_load_row rfl 24 (.tmp 1) rfl _ rfl 24 _ (0, 0) _ (HO.out.get 0 rfl) Try.underlying24 rfl (by kernel_rfl) ?_) | ((with_reducible refine gate_dst (N := 20) rfl ?_); refine wpList_load_row rfl 24 (.tmp 1) rfl _ rfl 24 _ (0, 0) _ (HO.out.get 0 rfl) Try.underlying24 rfl (by kernel_rfl) ?_) | ((with_reducible refine gate_dst (N := 25) rfl ?_); refine wpList_load_row rfl 24 (.tmp 1) rfl _ rfl 24 _ (0, 0) _ (HO.out.get 0 rfl) Try.underlying24 rfl (by kernel_rfl) ?_) | ((with_reducible refine gate_dst (N := 28) rfl ?_); refine wpList_load_row rfl 27 (.tmp 6) rfl _ rfl 27 _ (0, 0) _ (HO.out.get 1 rfl) Try.underlying27 rfl (by kernel_rfl) ?_) | ((with_reducible refine gate_dst (N := 46) rfl ?_); refine wpList_load_row rfl 27 (.tmp 6) rfl _ rfl 27 _ (0, 0) _ (HO.out.get 1 rfl) Try.underlying27 rfl (by kernel_rfl) ?_) | ((with_reducible refine gate_dst (N := 74) rfl ?_); refine wpList_load_row rfl 24 (.tmp 1) rfl _ rfl 24 _ (0, 0) _ (HO.out.get 0 rfl) Try.underlying24 rfl (by kernel_rfl) ?_))
  go_ret
  exact ⟨rfl, HO.out.below⟩
set_option maxHeartbeats 8000000 in
set_option maxRecDepth 100000 in
theorem laws_FnExactBackEdges.whole (k : Nat) (A0_0 : Option Addr) (c0_0 : Nat) (l0_0 : List (List Int)) (w : World) (hr0_0 : Kd.C (Kd.slice 3 (Kd.int .i64)) w A0_0 l0_0.length l0_0) (hc0_0 : l0_0.length ≤ c0_0) (h : laws_FnExactBackEdges.good k l0_0) :
    Calls Try.prog 9 #[.agg #[.slice A0_0 l0_0.length c0_0]] w fun e w' => e = .returned (.bool true) ∧ Below w.heap.size w w' := by
  have HR0_0 := Aside0.mk hr0_0
  have HC0_0 := Aside0.mk hc0_0
  clear hr0_0 hc0_0
  have HO := Aside0.mk (H.Own.nil w)
  unfold laws_FnExactBackEdges.good at h
  obtain ⟨z0, y0_0, s1, s2, hsz0, hz0, hto0, hspec, himpl, heqr, heq0, htot, hheld, hyl0, hb0⟩ := h
  have HSZ0 := Aside0.mk hsz0
  have HTO0 := Aside0.mk hto0
  have HSPEC := Aside0.mk hspec
  have HIMPL := Aside0.mk himpl
  have HEQR := Aside0.mk heqr
  have HEQ0 := Aside0.mk heq0
  have HTOT := Aside0.mk htot
  have HHELD := Aside0.mk hheld
  have HB0 := Aside0.mk hb0
  clear hsz0 hto0 hspec himpl heqr heq0 htot hheld hb0
  obtain ⟨K2, hK2⟩ : ∃ K2 : Int, 1 + (H.total s1 : Int) = K2 := ⟨_, rfl⟩
  have hk2 : 0 ≤ K2 := by omega
  have HK2 := Aside0.mk hK2
  clear hK2
  have HSZW := Aside0.mk (rfl : w.heap.size = w.heap.size)
  go_enter Try.func9, Try.ntmps9
  go_wp2_with (first | ((with_reducible refine gate_dst (N := 1) rfl ?_); refine H.own_box HO.out ?hg (N := 1) ?hd (cs := #[Value.slice A0_0 l0_0.length c0_0]) (t := 24) ?hr ?_; (case hd => rfl); (case hg => rfl); (case hr => first | (go_simp; done) | (go_simp; rfl)); intro gb0 w_ ho_ hb_; replace HO := Aside0.mk ho_; clear ho_ hb_) | ((with_reducible refine gate_dst (N := 14) rfl ?_); refine wpList_load_row rfl 24 (.tmp 1) rfl _ rfl 24 _ (0, 0) _ (HO.out.get 0 rfl) Try.underlying24 rfl (by kernel_rfl) ?_) | ((with_reducible refine gate_dst (N := 20) rfl ?_); refine wpList_load_row rfl 24 (.tmp 1) rfl _ rfl 24 _ (0, 0) _ (HO.out.get 0 rfl) Try.underlying24 rfl (by kernel_rfl) ?_) | ((with_reducible refine gate_dst (N := 25) rfl ?_); refine wpList_load_row rfl 24 (.tmp 1) rfl _ rfl 24 _ (0, 0) _ (HO.out.get 0 rfl) Try.underlying24 rfl (by kernel_rfl) ?_) | ((with_reducible refine gate_dst (N := 28) rfl ?_); refine wpList_load_row rfl 27 (.tmp 6) rfl _ rfl 27 _ (0, 0) _ (HO.out.get 1 rfl) Try.underlying27 rfl (by kernel_rfl) ?_) | ((with_reducible refine gate_dst (N := 46) rfl ?_); refine wpList_load_row rfl 27 (.tmp 6) rfl _ rfl 27 _ (0, 0) _ (HO.out.get 1 rfl) Try.underlying27 rfl (by kernel_rfl) ?_) | ((with_reducible refine gate_dst (N := 74) rfl ?_); refine wpList_load_row rfl 24 (.tmp 1) rfl _ rfl 24 _ (0, 0) _ (HO.out.get 0 rfl) Try.underlying24 rfl (by kernel_rfl) ?_))
  refine (laws_szGraph.calls k _ _ l0_0 1048576 z0 _ (Kd.C_below HR0_0.out HO.out.below) HC0_0.out HSZ0.out).mono ?_
  rintro e w_ ⟨rfl, hb⟩
  replace HO := Aside0.mk (HO.out.step hb)
  clear hb
  go_wp2_with (first | ((with_reducible refine gate_dst (N := 1) rfl ?_); refine H.own_box HO.out ?hg (N := 1) ?hd (cs := #[Value.slice A0_0 l0_0.length c0_0]) (t := 24) ?hr ?_; (case hd => rfl); (case hg => rfl); (case hr => first | (go_simp; done) | (go_simp; rfl)); intro gb0 w_ ho_ hb_; replace HO := Aside0.mk ho_; clear ho_ hb_) | ((with_reducible refine gate_dst (N := 14) rfl ?_); refine wpList_load_row rfl 24 (.tmp 1) rfl _ rfl 24 _ (0, 0) _ (HO.out.get 0 rfl) Try.underlying24 rfl (by kernel_rfl) ?_) | ((with_reducible refine gate_dst (N := 20) rfl ?_); refine wpList_load_row rfl 24 (.tmp 1) rfl _ rfl 24 _ (0, 0) _ (HO.out.get 0 rfl) Try.underlying24 rfl (by kernel_rfl) ?_) | ((with_reducible refine gate_dst (N := 25) rfl ?_); refine wpList_load_row rfl 24 (.tmp 1) rfl _ rfl 24 _ (0, 0) _ (HO.out.get 0 rfl) Try.underlying24 rfl (by kernel_rfl) ?_) | ((with_reducible refine gate_dst (N := 28) rfl ?_); refine wpList_load_row rfl 27 (.tmp 6) rfl _ rfl 27 _ (0, 0) _ (HO.out.get 1 rfl) Try.underlying27 rfl (by kernel_rfl) ?_) | ((with_reducible refine gate_dst (N := 46) rfl ?_); refine wpList_load_row rfl 27 (.tmp 6) rfl _ rfl 27 _ (0, 0) _ (HO.out.get 1 rfl) Try.underlying27 rfl (by kernel_rfl) ?_) | ((with_reducible refine gate_dst (N := 74) rfl ?_); refine wpList_load_row rfl 24 (.tmp 1) rfl _ rfl 24 _ (0, 0) _ (HO.out.get 0 rfl) Try.underlying24 rfl (by kernel_rfl) ?_))
  refine (laws_toGraph.calls k _ _ l0_0 y0_0 _ (Kd.C_below HR0_0.out HO.out.below) HC0_0.out HTO0.out).mono ?_
  rintro e w_ ⟨vTy0_0, rfl, hTy0_0, hb⟩
  obtain ⟨ATy0_0, cTy0_0, rfl⟩ := Kd.S_slice hTy0_0
  replace HO := Aside0.mk (HO.out.step hb)
  have HTy0_0 := Aside0.mk (H.S_upto hTy0_0)
  clear hb hTy0_0
  go_wp2_with (first | ((with_reducible refine gate_dst (N := 1) rfl ?_); refine H.own_box HO.out ?hg (N := 1) ?hd (cs := #[Value.slice A0_0 l0_0.length c0_0]) (t := 24) ?hr ?_; (case hd => rfl); (case hg => rfl); (case hr => first | (go_simp; done) | (go_simp; rfl)); intro gb0 w_ ho_ hb_; replace HO := Aside0.mk ho_; clear ho_ hb_) | ((with_reducible refine gate_dst (N := 14) rfl ?_); refine wpList_load_row rfl 24 (.tmp 1) rfl _ rfl 24 _ (0, 0) _ (HO.out.get 0 rfl) Try.underlying24 rfl (by kernel_rfl) ?_) | ((with_reducible refine gate_dst (N := 20) rfl ?_); refine wpList_load_row rfl 24 (.tmp 1) rfl _ rfl 24 _ (0, 0) _ (HO.out.get 0 rfl) Try.underlying24 rfl (by kernel_rfl) ?_) | ((with_reducible refine gate_dst (N := 25) rfl ?_); refine wpList_load_row rfl 24 (.tmp 1) rfl _ rfl 24 _ (0, 0) _ (HO.out.get 0 rfl) Try.underlying24 rfl (by kernel_rfl) ?_) | ((with_reducible refine gate_dst (N := 28) rfl ?_); refine wpList_load_row rfl 27 (.tmp 6) rfl _ rfl 27 _ (0, 0) _ (HO.out.get 1 rfl) Try.underlying27 rfl (by kernel_rfl) ?_) | ((with_reducible refine gate_dst (N := 46) rfl ?_); refine wpList_load_row rfl 27 (.tmp 6) rfl _ rfl 27 _ (0, 0) _ (HO.out.get 1 rfl) Try.underlying27 rfl (by kernel_rfl) ?_) | ((with_reducible refine gate_dst (N := 74) rfl ?_); refine wpList_load_row rfl 24 (.tmp 1) rfl _ rfl 24 _ (0, 0) _ (HO.out.get 0 rfl) Try.underlying24 rfl (by kernel_rfl) ?_))
  have HWB := Aside0.mk HO.out.size
  refine (spec_BackEdges.calls k _ _ y0_0 s1 s2 _ (Kd.S_reads' HTy0_0.out).2.2 (Kd.S_reads' HTy0_0.out).2.1 HSPEC.out).mono ?_
  rintro e w_ ⟨vW, rfl, hs, hb⟩
  obtain ⟨AW, cW, rfl⟩ := Kd.S_slice hs
  replace HO := Aside0.mk (HO.out.step hb)
  replace HTy0_0 := Aside0.mk (Kd.S_below HTy0_0.out hb);
  have HW := Aside0.mk (H.S_upto hs)
  clear hs hb
  clear HTy0_0
  go_wp2_with (first | ((with_reducible refine gate_dst (N := 1) rfl ?_); refine H.own_box HO.out ?hg (N := 1) ?hd (cs := #[Value.slice A0_0 l0_0.length c0_0]) (t := 24) ?hr ?_; (case hd => rfl); (case hg => rfl); (case hr => first | (go_simp; done) | (go_simp; rfl)); intro gb0 w_ ho_ hb_; replace HO := Aside0.mk ho_; clear ho_ hb_) | ((with_reducible refine gate_dst (N := 14) rfl ?_); refine wpList_load_row rfl 24 (.tmp 1) rfl _ rfl 24 _ (0, 0) _ (HO.out.get 0 rfl) Try.underlying24 rfl (by kernel_rfl) ?_) | ((with_reducible refine gate_dst (N := 20) rfl ?_); refine wpList_load_row rfl 24 (.tmp 1) rfl _ rfl 24 _ (0, 0) _ (HO.out.get 0 rfl) Try.underlying24 rfl (by kernel_rfl) ?_) | ((with_reducible refine gate_dst (N := 25) rfl ?_); refine wpList_load_row rfl 24 (.tmp 1) rfl _ rfl 24 _ (0, 0) _ (HO.out.get 0 rfl) Try.underlying24 rfl (by kernel_rfl) ?_) | ((with_reducible refine gate_dst (N := 28) rfl ?_); refine wpList_load_row rfl 27 (.tmp 6) rfl _ rfl 27 _ (0, 0) _ (HO.out.get 1 rfl) Try.underlying27 rfl (by kernel_rfl) ?_) | ((with_reducible refine gate_dst (N := 46) rfl ?_); refine wpList_load_row rfl 27 (.tmp 6) rfl _ rfl 27 _ (0, 0) _ (HO.out.get 1 rfl) Try.underlying27 rfl (by kernel_rfl) ?_) | ((with_reducible refine gate_dst (N := 74) rfl ?_); refine wpList_load_row rfl 24 (.tmp 1) rfl _ rfl 24 _ (0, 0) _ (HO.out.get 0 rfl) Try.underlying24 rfl (by kernel_rfl) ?_) | ((with_reducible refine gate_dst (N := 6) rfl ?_); refine H.own_box HO.out ?hg (N := 6) ?hd (cs := #[Value.slice none 0 0]) (t := 27) ?hr ?_; (case hd => rfl); (case hg => rfl); (case hr => first | (go_simp; done) | (go_simp; rfl)); intro gx0 w_ ho_ hb_; replace HW := Aside0.mk (Kd.S_below HW.out hb_); replace HLE := Aside0.mk (Nat.le_trans HLE.out hb_.size); replace HO := Aside0.mk ho_; clear ho_ hb_) | ((with_reducible refine gate_store (t := 27) (p := 6) rfl ?_); refine H.own_store HO.out 1 rfl rfl rfl rfl rfl (u := .agg #[Value.slice AXy0_0 y0_0.length cXy0_0]) (seg := [Value.slice AXy0_0 y0_0.length cXy0_0]) rfl rfl (by kernel_rfl) (by simp [Value.oneCell']) (by simp) (cs' := #[Value.slice AXy0_0 y0_0.length cXy0_0]) rfl ?_; intro w_ ho_ hg_; replace HW := Aside0.mk (HO.out.keepS 1 rfl HW.out hg_ (by decide)); replace HLE := Aside0.mk (Nat.le_trans HLE.out hg_.size); replace HO := Aside0.mk ho_; clear ho_ hg_))
  obtain ⟨N1, hN1⟩ : ∃ N1, _ = N1 := ⟨w_.heap.size, rfl⟩
  have HN1 := Aside0.mk (show w.heap.size ≤ N1 by rw [← hN1]; exact HO.out.size)
  replace HW := Aside0.mk (Kd.S_mono (ok' := fun k_ => w.heap.size ≤ k_ ∧ k_ < N1) (H.S_upto (Kd.S_lower HW.out HWB.out)) (fun k_ hk_ => by rw [← hN1]; exact hk_))
  clear HWB
  refine (laws_toGraph.calls k _ _ l0_0 y0_0 _ (Kd.C_below HR0_0.out HO.out.below) HC0_0.out HTO0.out).mono ?_
  rintro e w_ ⟨vXy0_0, rfl, hXy0_0, hb⟩
  obtain ⟨AXy0_0, cXy0_0, rfl⟩ := Kd.S_slice hXy0_0
  have HXy0_0 := Aside0.mk (H.S_upto (Kd.S_lower hXy0_0 (show N1 ≤ _ from by rw [← hN1]; exact Nat.le_refl _)))
  replace HO := Aside0.mk (HO.out.step hb)
  replace HW := Aside0.mk (Kd.S_below HW.out hb);
  have HLE := Aside0.mk (show N1 ≤ _ from Nat.le_trans (Nat.le_of_eq hN1.symm) hb.size)
  clear hN1
  clear hb hXy0_0
  go_wp2_with (first | ((with_reducible refine gate_dst (N := 1) rfl ?_); refine H.own_box HO.out ?hg (N := 1) ?hd (cs := #[Value.slice A0_0 l0_0.length c0_0]) (t := 24) ?hr ?_; (case hd => rfl); (case hg => rfl); (case hr => first | (go_simp; done) | (go_simp; rfl)); intro gb0 w_ ho_ hb_; replace HO := Aside0.mk ho_; clear ho_ hb_) | ((with_reducible refine gate_dst (N := 14) rfl ?_); refine wpList_load_row rfl 24 (.tmp 1) rfl _ rfl 24 _ (0, 0) _ (HO.out.get 0 rfl) Try.underlying24 rfl (by kernel_rfl) ?_) | ((with_reducible refine gate_dst (N := 20) rfl ?_); refine wpList_load_row rfl 24 (.tmp 1) rfl _ rfl 24 _ (0, 0) _ (HO.out.get 0 rfl) Try.underlying24 rfl (by kernel_rfl) ?_) | ((with_reducible refine gate_dst (N := 25) rfl ?_); refine wpList_load_row rfl 24 (.tmp 1) rfl _ rfl 24 _ (0, 0) _ (HO.out.get 0 rfl) Try.underlying24 rfl (by kernel_rfl) ?_) | ((with_reducible refine gate_dst (N := 28) rfl ?_); refine wpList_load_row rfl 27 (.tmp 6) rfl _ rfl 27 _ (0, 0) _ (HO.out.get 1 rfl) Try.underlying27 rfl (by kernel_rfl) ?_) | ((with_reducible refine gate_dst (N := 46) rfl ?_); refine wpList_load_row rfl 27 (.tmp 6) rfl _ rfl 27 _ (0, 0) _ (HO.out.get 1 rfl) Try.underlying27 rfl (by kernel_rfl) ?_) | ((with_reducible refine gate_dst (N := 74) rfl ?_); refine wpList_load_row rfl 24 (.tmp 1) rfl _ rfl 24 _ (0, 0) _ (HO.out.get 0 rfl) Try.underlying24 rfl (by kernel_rfl) ?_) | ((with_reducible refine gate_dst (N := 6) rfl ?_); refine H.own_box HO.out ?hg (N := 6) ?hd (cs := #[Value.slice none 0 0]) (t := 27) ?hr ?_; (case hd => rfl); (case hg => rfl); (case hr => first | (go_simp; done) | (go_simp; rfl)); intro gx0 w_ ho_ hb_; replace HW := Aside0.mk (Kd.S_below HW.out hb_); replace HXy0_0 := Aside0.mk (Kd.S_below HXy0_0.out hb_); replace HLE := Aside0.mk (Nat.le_trans HLE.out hb_.size); replace HO := Aside0.mk ho_; clear ho_ hb_) | ((with_reducible refine gate_store (t := 27) (p := 6) rfl ?_); refine H.own_store HO.out 1 rfl rfl rfl rfl rfl (u := .agg #[Value.slice AXy0_0 y0_0.length cXy0_0]) (seg := [Value.slice AXy0_0 y0_0.length cXy0_0]) rfl rfl (by kernel_rfl) (by simp [Value.oneCell']) (by simp) (cs' := #[Value.slice AXy0_0 y0_0.length cXy0_0]) rfl ?_; intro w_ ho_ hg_; replace HW := Aside0.mk (HO.out.keepS 1 rfl HW.out hg_ (by decide)); replace HXy0_0 := Aside0.mk (HO.out.keepS 1 rfl HXy0_0.out hg_ (by decide)); replace HLE := Aside0.mk (Nat.le_trans HLE.out hg_.size); replace HO := Aside0.mk ho_; clear ho_ hg_))
  obtain ⟨N2, hN2⟩ : ∃ N2, _ = N2 := ⟨w_.heap.size, rfl⟩
  replace HXy0_0 := Aside0.mk (Kd.S_mono (ok' := fun k_ => N1 ≤ k_ ∧ k_ < N2) (H.S_upto HXy0_0.out) (fun k_ hk_ => by rw [← hN2]; exact hk_))
  have HLT := Aside0.mk HO.out.lt
  rw [hN2] at HLT
  have HN2 := Aside0.mk (show w.heap.size ≤ N2 by rw [← hN2]; exact HO.out.size)
  have HN12 := Aside0.mk (show N1 ≤ N2 by rw [← hN2]; exact HLE.out)
  refine (impl_BackEdges.calls _ _ y0_0 s1 s2 _ (Kd.S_reads' HXy0_0.out).2.2 (Kd.S_reads' HXy0_0.out).2.1 HIMPL.out).mono ?_
  rintro e w_ ⟨vG, rfl, hs, hb⟩
  obtain ⟨AG, cG, rfl⟩ := Kd.S_slice hs
  replace HO := Aside0.mk (HO.out.step hb)
  replace HW := Aside0.mk (Kd.S_below HW.out hb)
  replace HXy0_0 := Aside0.mk (Kd.S_below HXy0_0.out hb);
  have HG := Aside0.mk (H.S_upto hs)
  rw [hN2] at HG
  obtain ⟨N3, hN3⟩ : ∃ N3, w_.heap.size = N3 := ⟨_, rfl⟩
  rw [hN3] at HG
  clear hs hb hN2 hN3
  go_wp2_with (first | ((with_reducible refine gate_dst (N := 1) rfl ?_); refine H.own_box HO.out ?hg (N := 1) ?hd (cs := #[Value.slice A0_0 l0_0.length c0_0]) (t := 24) ?hr ?_; (case hd => rfl); (case hg => rfl); (case hr => first | (go_simp; done) | (go_simp; rfl)); intro gb0 w_ ho_ hb_; replace HO := Aside0.mk ho_; clear ho_ hb_) | ((with_reducible refine gate_dst (N := 14) rfl ?_); refine wpList_load_row rfl 24 (.tmp 1) rfl _ rfl 24 _ (0, 0) _ (HO.out.get 0 rfl) Try.underlying24 rfl (by kernel_rfl) ?_) | ((with_reducible refine gate_dst (N := 20) rfl ?_); refine wpList_load_row rfl 24 (.tmp 1) rfl _ rfl 24 _ (0, 0) _ (HO.out.get 0 rfl) Try.underlying24 rfl (by kernel_rfl) ?_) | ((with_reducible refine gate_dst (N := 25) rfl ?_); refine wpList_load_row rfl 24 (.tmp 1) rfl _ rfl 24 _ (0, 0) _ (HO.out.get 0 rfl) Try.underlying24 rfl (by kernel_rfl) ?_) | ((with_reducible refine gate_dst (N := 28) rfl ?_); refine wpList_load_row rfl 27 (.tmp 6) rfl _ rfl 27 _ (0, 0) _ (HO.out.get 1 rfl) Try.underlying27 rfl (by kernel_rfl) ?_) | ((with_reducible refine gate_dst (N := 46) rfl ?_); refine wpList_load_row rfl 27 (.tmp 6) rfl _ rfl 27 _ (0, 0) _ (HO.out.get 1 rfl) Try.underlying27 rfl (by kernel_rfl) ?_) | ((with_reducible refine gate_dst (N := 74) rfl ?_); refine wpList_load_row rfl 24 (.tmp 1) rfl _ rfl 24 _ (0, 0) _ (HO.out.get 0 rfl) Try.underlying24 rfl (by kernel_rfl) ?_))
  refine (laws_eqIntSS.calls k _ _ s1 _ _ s1 true _ (Kd.S_reads' HG.out).2.2 (Kd.S_reads' HG.out).2.1 (Kd.S_reads' HW.out).2.2 (Kd.S_reads' HW.out).2.1 HEQR.out).mono ?_
  rintro e w_ ⟨rfl, hd⟩
  replace HO := Aside0.mk (HO.out.step hd.below)
  replace HW := Aside0.mk (Kd.S_below HW.out hd.below)
  replace HXy0_0 := Aside0.mk (Kd.S_below HXy0_0.out hd.below)
  replace HG := Aside0.mk (Kd.S_below HG.out hd.below);
  clear hd
  go_wp2_with (first | ((with_reducible refine gate_dst (N := 1) rfl ?_); refine H.own_box HO.out ?hg (N := 1) ?hd (cs := #[Value.slice A0_0 l0_0.length c0_0]) (t := 24) ?hr ?_; (case hd => rfl); (case hg => rfl); (case hr => first | (go_simp; done) | (go_simp; rfl)); intro gb0 w_ ho_ hb_; replace HO := Aside0.mk ho_; clear ho_ hb_) | ((with_reducible refine gate_dst (N := 14) rfl ?_); refine wpList_load_row rfl 24 (.tmp 1) rfl _ rfl 24 _ (0, 0) _ (HO.out.get 0 rfl) Try.underlying24 rfl (by kernel_rfl) ?_) | ((with_reducible refine gate_dst (N := 20) rfl ?_); refine wpList_load_row rfl 24 (.tmp 1) rfl _ rfl 24 _ (0, 0) _ (HO.out.get 0 rfl) Try.underlying24 rfl (by kernel_rfl) ?_) | ((with_reducible refine gate_dst (N := 25) rfl ?_); refine wpList_load_row rfl 24 (.tmp 1) rfl _ rfl 24 _ (0, 0) _ (HO.out.get 0 rfl) Try.underlying24 rfl (by kernel_rfl) ?_) | ((with_reducible refine gate_dst (N := 28) rfl ?_); refine wpList_load_row rfl 27 (.tmp 6) rfl _ rfl 27 _ (0, 0) _ (HO.out.get 1 rfl) Try.underlying27 rfl (by kernel_rfl) ?_) | ((with_reducible refine gate_dst (N := 46) rfl ?_); refine wpList_load_row rfl 27 (.tmp 6) rfl _ rfl 27 _ (0, 0) _ (HO.out.get 1 rfl) Try.underlying27 rfl (by kernel_rfl) ?_) | ((with_reducible refine gate_dst (N := 74) rfl ?_); refine wpList_load_row rfl 24 (.tmp 1) rfl _ rfl 24 _ (0, 0) _ (HO.out.get 0 rfl) Try.underlying24 rfl (by kernel_rfl) ?_))
  replace HO := Aside0.mk HO.out.drew
  replace HW := Aside0.mk (Kd.S_drew HW.out)
  replace HXy0_0 := Aside0.mk (Kd.S_drew HXy0_0.out)
  replace HG := Aside0.mk (Kd.S_drew HG.out)
  refine start_ (n := 5) (S := fun w' => w'.rangeAt gx0 0 [Value.slice AXy0_0 y0_0.length cXy0_0] ∧ w'.rangeAt gb0 0 [Value.slice A0_0 l0_0.length c0_0]) (ds := []) #[false, false, false, false, false] (by kernel_rfl) rfl rfl ⟨(HO.out.range 1 rfl), (HO.out.range 0 rfl)⟩ (fun hHeld => ?_)
  refine take_ (i := 0) (N := some 41) (v := .agg #[Value.slice AXy0_0 y0_0.length cXy0_0]) (a' := ?_) #[true, false, false, false, false] rfl rfl (by kernel_rfl) (fun _ _ _ h => h) (yieldsIf_load_mid (by rfl) 27 (.tmp 6) rfl gx0 0 rfl [Value.slice AXy0_0 y0_0.length cXy0_0] _ (fun W h => h.1) Try.underlying27 rfl (by kernel_rfl)) hHeld ?_ ?_
  rotate_left
  · simp only [Act.put, List.setIfInBounds_toArray, List.set_cons_zero, List.set_cons_succ, i64_w, i32_w]
    rfl
  refine take_ (i := 1) (N := some 42) (v := .agg #[Value.slice A0_0 l0_0.length c0_0]) (a' := ?_) #[true, true, false, false, false] rfl rfl (by kernel_rfl) (fun _ _ _ h => h) (yieldsIf_load_mid (by rfl) 24 (.tmp 1) rfl gb0 0 rfl [Value.slice A0_0 l0_0.length c0_0] _ (fun W h => h.2) Try.underlying24 rfl (by kernel_rfl)) hHeld ?_ ?_
  rotate_left
  · simp only [Act.put, List.setIfInBounds_toArray, List.set_cons_zero, List.set_cons_succ, i64_w, i32_w]
    rfl
  refine one_ (i := 2) (N := some 43) #[true, true, true, false, false] rfl rfl (by kernel_rfl) (by decide) (fun K hK => ?_)
  refine goes_ Try.func17 (by kernel_rfl) rfl #[.agg #[.slice A0_0 l0_0.length c0_0]] (by rfl) rfl rfl (by simp only [List.map_toArray, List.map_cons, List.map_nil]; rfl) ?_
  with_reducible refine (laws_toGraph.calls k _ _ l0_0 y0_0 _ (Kd.C_below HR0_0.out HO.out.below) HC0_0.out HTO0.out).mono ?_
  rintro e w_ ⟨vEy0_0, rfl, hEy0_0, hb⟩
  refine ⟨_, rfl, ?_⟩
  obtain ⟨AEy0_0, cEy0_0, rfl⟩ := Kd.S_slice hEy0_0
  replace HO := Aside0.mk (HO.out.step hb)
  replace HW := Aside0.mk (Kd.S_below HW.out hb)
  replace HXy0_0 := Aside0.mk (Kd.S_below HXy0_0.out hb)
  replace HG := Aside0.mk (Kd.S_below HG.out hb);
  have HEy0_0 := Aside0.mk hEy0_0
  clear hb hEy0_0
  refine hK.out _ _ ⟨(HO.out.range 1 rfl), (HO.out.range 0 rfl)⟩ (fun hHeld => ?_)
  clear hK K
  refine norm_ (a' := ?_) ?_ ?_
  rotate_left
  · show Act.put _ (some 43) _ = _
    simp only [Act.put, List.setIfInBounds_toArray, List.set_cons_zero, List.set_cons_succ, i64_w, i32_w]
    rfl
  refine one_ (i := 3) (N := some 44) #[true, true, true, true, false] rfl rfl (by kernel_rfl) (by decide) (fun K hK => ?_)
  refine goes_ Try.func19 (by kernel_rfl) rfl #[.agg #[Value.slice AXy0_0 y0_0.length cXy0_0], .agg #[Value.slice AEy0_0 y0_0.length cEy0_0]] (by rfl) rfl rfl (by simp only [List.map_toArray, List.map_cons, List.map_nil]; rfl) ?_
  with_reducible refine (laws_eqGraph.calls k _ _ y0_0 _ _ y0_0 true _ (Kd.S_reads' HXy0_0.out).2.2 (Kd.S_reads' HXy0_0.out).2.1 (Kd.S_reads' HEy0_0.out).2.2 (Kd.S_reads' HEy0_0.out).2.1 HEQ0.out).mono ?_
  rintro e w_ ⟨rfl, hb⟩
  refine ⟨_, rfl, ?_⟩
  replace HO := Aside0.mk (HO.out.step hb)
  replace HW := Aside0.mk (Kd.S_below HW.out hb)
  replace HXy0_0 := Aside0.mk (Kd.S_below HXy0_0.out hb)
  replace HG := Aside0.mk (Kd.S_below HG.out hb);
  clear hb
  refine hK.out _ _ ⟨(HO.out.range 1 rfl), (HO.out.range 0 rfl)⟩ (fun hHeld => ?_)
  clear hK K
  refine norm_ (a' := ?_) ?_ ?_
  rotate_left
  · show Act.put _ (some 44) _ = _
    simp only [Act.put, List.setIfInBounds_toArray, List.set_cons_zero, List.set_cons_succ, i64_w, i32_w]
    rfl
  refine pure_ (i := 4) (N := some 45) (v := ?_) (a' := ?_) #[true, true, true, true, true] rfl rfl (by kernel_rfl) (fun _ _ _ h => h) (Or.inl ⟨by rfl, ?_⟩) ?_ ?_
  rotate_left
  · intro w'
    go_simp
    with_reducible rfl
  rotate_left
  · simp only [Act.put, List.setIfInBounds_toArray, List.set_cons_zero, List.set_cons_succ, i64_w, i32_w]
    rfl
  refine done_ (by kernel_rfl) ?_
  clear HEy0_0
  go_wp2_with (first | ((with_reducible refine gate_dst (N := 1) rfl ?_); refine H.own_box HO.out ?hg (N := 1) ?hd (cs := #[Value.slice A0_0 l0_0.length c0_0]) (t := 24) ?hr ?_; (case hd => rfl); (case hg => rfl); (case hr => first | (go_simp; done) | (go_simp; rfl)); intro gb0 w_ ho_ hb_; replace HO := Aside0.mk ho_; clear ho_ hb_) | ((with_reducible refine gate_dst (N := 14) rfl ?_); refine wpList_load_row rfl 24 (.tmp 1) rfl _ rfl 24 _ (0, 0) _ (HO.out.get 0 rfl) Try.underlying24 rfl (by kernel_rfl) ?_) | ((with_reducible refine gate_dst (N := 20) rfl ?_); refine wpList_load_row rfl 24 (.tmp 1) rfl _ rfl 24 _ (0, 0) _ (HO.out.get 0 rfl) Try.underlying24 rfl (by kernel_rfl) ?_) | ((with_reducible refine gate_dst (N := 25) rfl ?_); refine wpList_load_row rfl 24 (.tmp 1) rfl _ rfl 24 _ (0, 0) _ (HO.out.get 0 rfl) Try.underlying24 rfl (by kernel_rfl) ?_) | ((with_reducible refine gate_dst (N := 28) rfl ?_); refine wpList_load_row rfl 27 (.tmp 6) rfl _ rfl 27 _ (0, 0) _ (HO.out.get 1 rfl) Try.underlying27 rfl (by kernel_rfl) ?_) | ((with_reducible refine gate_dst (N := 46) rfl ?_); refine wpList_load_row rfl 27 (.tmp 6) rfl _ rfl 27 _ (0, 0) _ (HO.out.get 1 rfl) Try.underlying27 rfl (by kernel_rfl) ?_) | ((with_reducible refine gate_dst (N := 74) rfl ?_); refine wpList_load_row rfl 24 (.tmp 1) rfl _ rfl 24 _ (0, 0) _ (HO.out.get 0 rfl) Try.underlying24 rfl (by kernel_rfl) ?_))
  have hm0 : (0 : Int) ≤ 1 := by decide
  have HB := Aside0.mk HB0.out
  obtain ⟨M1, hM1⟩ : ∃ M1 : Int, 1 + (H.total y0_0 : Int) = M1 := ⟨_, rfl⟩
  have hmb1 : M1 ≤ 4611686018427387904 := by have := HB.out; omega
  have hm1 : 0 ≤ M1 := by omega
  refine (laws_markGraph.tame N1 N2 _ y0_0.length _ 1 _ (H.Rooms.of_S HXy0_0.out (Nat.le_refl _) (fun k_ hk_ _ => hk_.2)) hm0 (by rw [H.sum_total _ _ (Nat.le_refl _), List.take_length]; omega) (by omega)).mono ?_
  rintro e w_ ⟨he, ht⟩
  rw [H.sum_total _ _ (Nat.le_refl _), List.take_length, hM1] at he
  subst he
  replace HO := Aside0.mk (HO.out.tame ht HN1.out (by simp))
  replace HW := Aside0.mk (H.S_tame HW.out ht (.inl (Nat.le_refl _)))
  clear HXy0_0
  replace HG := Aside0.mk (H.S_tame HG.out ht (.inr (Nat.le_refl _)))
  clear ht hM1
  go_wp2_with (first | ((with_reducible refine gate_dst (N := 1) rfl ?_); refine H.own_box HO.out ?hg (N := 1) ?hd (cs := #[Value.slice A0_0 l0_0.length c0_0]) (t := 24) ?hr ?_; (case hd => rfl); (case hg => rfl); (case hr => first | (go_simp; done) | (go_simp; rfl)); intro gb0 w_ ho_ hb_; replace HO := Aside0.mk ho_; clear ho_ hb_) | ((with_reducible refine gate_dst (N := 14) rfl ?_); refine wpList_load_row rfl 24 (.tmp 1) rfl _ rfl 24 _ (0, 0) _ (HO.out.get 0 rfl) Try.underlying24 rfl (by kernel_rfl) ?_) | ((with_reducible refine gate_dst (N := 20) rfl ?_); refine wpList_load_row rfl 24 (.tmp 1) rfl _ rfl 24 _ (0, 0) _ (HO.out.get 0 rfl) Try.underlying24 rfl (by kernel_rfl) ?_) | ((with_reducible refine gate_dst (N := 25) rfl ?_); refine wpList_load_row rfl 24 (.tmp 1) rfl _ rfl 24 _ (0, 0) _ (HO.out.get 0 rfl) Try.underlying24 rfl (by kernel_rfl) ?_) | ((with_reducible refine gate_dst (N := 28) rfl ?_); refine wpList_load_row rfl 27 (.tmp 6) rfl _ rfl 27 _ (0, 0) _ (HO.out.get 1 rfl) Try.underlying27 rfl (by kernel_rfl) ?_) | ((with_reducible refine gate_dst (N := 46) rfl ?_); refine wpList_load_row rfl 27 (.tmp 6) rfl _ rfl 27 _ (0, 0) _ (HO.out.get 1 rfl) Try.underlying27 rfl (by kernel_rfl) ?_) | ((with_reducible refine gate_dst (N := 74) rfl ?_); refine wpList_load_row rfl 24 (.tmp 1) rfl _ rfl 24 _ (0, 0) _ (HO.out.get 0 rfl) Try.underlying24 rfl (by kernel_rfl) ?_))
  refine (laws_eqIntSS.calls k _ _ s1 _ _ s1 true _ (Kd.S_reads' HG.out).2.2 (Kd.S_reads' HG.out).2.1 (Kd.S_reads' HW.out).2.2 (Kd.S_reads' HW.out).2.1 HEQR.out).mono ?_
  rintro e w_ ⟨rfl, hd⟩
  replace HO := Aside0.mk (HO.out.step hd.below)
  replace HW := Aside0.mk (Kd.S_below HW.out hd.below)
  replace HG := Aside0.mk (Kd.S_below HG.out hd.below);
  clear hd
  go_wp2_with (first | ((with_reducible refine gate_dst (N := 1) rfl ?_); refine H.own_box HO.out ?hg (N := 1) ?hd (cs := #[Value.slice A0_0 l0_0.length c0_0]) (t := 24) ?hr ?_; (case hd => rfl); (case hg => rfl); (case hr => first | (go_simp; done) | (go_simp; rfl)); intro gb0 w_ ho_ hb_; replace HO := Aside0.mk ho_; clear ho_ hb_) | ((with_reducible refine gate_dst (N := 14) rfl ?_); refine wpList_load_row rfl 24 (.tmp 1) rfl _ rfl 24 _ (0, 0) _ (HO.out.get 0 rfl) Try.underlying24 rfl (by kernel_rfl) ?_) | ((with_reducible refine gate_dst (N := 20) rfl ?_); refine wpList_load_row rfl 24 (.tmp 1) rfl _ rfl 24 _ (0, 0) _ (HO.out.get 0 rfl) Try.underlying24 rfl (by kernel_rfl) ?_) | ((with_reducible refine gate_dst (N := 25) rfl ?_); refine wpList_load_row rfl 24 (.tmp 1) rfl _ rfl 24 _ (0, 0) _ (HO.out.get 0 rfl) Try.underlying24 rfl (by kernel_rfl) ?_) | ((with_reducible refine gate_dst (N := 28) rfl ?_); refine wpList_load_row rfl 27 (.tmp 6) rfl _ rfl 27 _ (0, 0) _ (HO.out.get 1 rfl) Try.underlying27 rfl (by kernel_rfl) ?_) | ((with_reducible refine gate_dst (N := 46) rfl ?_); refine wpList_load_row rfl 27 (.tmp 6) rfl _ rfl 27 _ (0, 0) _ (HO.out.get 1 rfl) Try.underlying27 rfl (by kernel_rfl) ?_) | ((with_reducible refine gate_dst (N := 74) rfl ?_); refine wpList_load_row rfl 24 (.tmp 1) rfl _ rfl 24 _ (0, 0) _ (HO.out.get 0 rfl) Try.underlying24 rfl (by kernel_rfl) ?_))
  refine (laws_markIntSS.exact _ s1 1 (fun k_ => N2 ≤ k_ ∧ k_ < N3) w _ HO.out.below (Kd.S_lower HG.out HN2.out) (by decide) HTOT.out).mono ?_
  rintro e w_ ⟨he, hs, hb, hk⟩
  rw [HK2.out] at he
  subst he
  replace HO := Aside0.mk (HO.out.kept hk hb (fun x hx hp => by have := HLT.out x hx; omega))
  replace HW := Aside0.mk (H.S_kept2 HW.out hk (.inl HN12.out))
  replace HG := Aside0.mk hs
  clear hs hb hk
  have HG' : Aside0 (∀ W (ok : Nat → Prop), Kd.S (Kd.slice 3 (Kd.int .i64)) 31 W w.heap.size ok (.slice AG s1.length cG) (H.markSS s1 1) → (Kd.slice 3 (Kd.int .i64)).C W AG (H.markSS s1 1).length (H.markSS s1 1) ∧ (H.markSS s1 1).length ≤ cG) := ⟨fun W ok h => by have h2 := Kd.S_reads' h; exact ⟨h2.2.2, by rw [← h2.1]; exact h2.2.1⟩⟩
  go_wp2_with (first | ((with_reducible refine gate_dst (N := 1) rfl ?_); refine H.own_box HO.out ?hg (N := 1) ?hd (cs := #[Value.slice A0_0 l0_0.length c0_0]) (t := 24) ?hr ?_; (case hd => rfl); (case hg => rfl); (case hr => first | (go_simp; done) | (go_simp; rfl)); intro gb0 w_ ho_ hb_; replace HO := Aside0.mk ho_; clear ho_ hb_) | ((with_reducible refine gate_dst (N := 14) rfl ?_); refine wpList_load_row rfl 24 (.tmp 1) rfl _ rfl 24 _ (0, 0) _ (HO.out.get 0 rfl) Try.underlying24 rfl (by kernel_rfl) ?_) | ((with_reducible refine gate_dst (N := 20) rfl ?_); refine wpList_load_row rfl 24 (.tmp 1) rfl _ rfl 24 _ (0, 0) _ (HO.out.get 0 rfl) Try.underlying24 rfl (by kernel_rfl) ?_) | ((with_reducible refine gate_dst (N := 25) rfl ?_); refine wpList_load_row rfl 24 (.tmp 1) rfl _ rfl 24 _ (0, 0) _ (HO.out.get 0 rfl) Try.underlying24 rfl (by kernel_rfl) ?_) | ((with_reducible refine gate_dst (N := 28) rfl ?_); refine wpList_load_row rfl 27 (.tmp 6) rfl _ rfl 27 _ (0, 0) _ (HO.out.get 1 rfl) Try.underlying27 rfl (by kernel_rfl) ?_) | ((with_reducible refine gate_dst (N := 46) rfl ?_); refine wpList_load_row rfl 27 (.tmp 6) rfl _ rfl 27 _ (0, 0) _ (HO.out.get 1 rfl) Try.underlying27 rfl (by kernel_rfl) ?_) | ((with_reducible refine gate_dst (N := 74) rfl ?_); refine wpList_load_row rfl 24 (.tmp 1) rfl _ rfl 24 _ (0, 0) _ (HO.out.get 0 rfl) Try.underlying24 rfl (by kernel_rfl) ?_))
  refine (calls_of_args (by rw [H.markSS_len]) (laws_heldIntSS.calls k AG cG (H.markSS s1 1) 1 _ _ (HG'.out _ _ HG.out).1 (HG'.out _ _ HG.out).2 HHELD.out)).mono ?_
  rintro e w_ ⟨he, hd⟩
  rw [HK2.out] at he
  subst he
  replace HO := Aside0.mk (HO.out.step hd.below)
  replace HW := Aside0.mk (Kd.S_below HW.out hd.below)
  replace HG := Aside0.mk (Kd.S_below HG.out hd.below);
  clear hd
  go_wp2_with (first | ((with_reducible refine gate_dst (N := 1) rfl ?_); refine H.own_box HO.out ?hg (N := 1) ?hd (cs := #[Value.slice A0_0 l0_0.length c0_0]) (t := 24) ?hr ?_; (case hd => rfl); (case hg => rfl); (case hr => first | (go_simp; done) | (go_simp; rfl)); intro gb0 w_ ho_ hb_; replace HO := Aside0.mk ho_; clear ho_ hb_) | ((with_reducible refine gate_dst (N := 14) rfl ?_); refine wpList_load_row rfl 24 (.tmp 1) rfl _ rfl 24 _ (0, 0) _ (HO.out.get 0 rfl) Try.underlying24 rfl (by kernel_rfl) ?_) | ((with_reducible refine gate_dst (N := 20) rfl ?_); refine wpList_load_row rfl 24 (.tmp 1) rfl _ rfl 24 _ (0, 0) _ (HO.out.get 0 rfl) Try.underlying24 rfl (by kernel_rfl) ?_) | ((with_reducible refine gate_dst (N := 25) rfl ?_); refine wpList_load_row rfl 24 (.tmp 1) rfl _ rfl 24 _ (0, 0) _ (HO.out.get 0 rfl) Try.underlying24 rfl (by kernel_rfl) ?_) | ((with_reducible refine gate_dst (N := 28) rfl ?_); refine wpList_load_row rfl 27 (.tmp 6) rfl _ rfl 27 _ (0, 0) _ (HO.out.get 1 rfl) Try.underlying27 rfl (by kernel_rfl) ?_) | ((with_reducible refine gate_dst (N := 46) rfl ?_); refine wpList_load_row rfl 27 (.tmp 6) rfl _ rfl 27 _ (0, 0) _ (HO.out.get 1 rfl) Try.underlying27 rfl (by kernel_rfl) ?_) | ((with_reducible refine gate_dst (N := 74) rfl ?_); refine wpList_load_row rfl 24 (.tmp 1) rfl _ rfl 24 _ (0, 0) _ (HO.out.get 0 rfl) Try.underlying24 rfl (by kernel_rfl) ?_))
  refine (laws_toGraph.calls k _ _ l0_0 y0_0 _ (Kd.C_below HR0_0.out HO.out.below) HC0_0.out HTO0.out).mono ?_
  rintro e w_ ⟨vVy0_0, rfl, hVy0_0, hb⟩
  obtain ⟨AVy0_0, cVy0_0, rfl⟩ := Kd.S_slice hVy0_0
  replace HO := Aside0.mk (HO.out.step hb)
  replace HW := Aside0.mk (Kd.S_below HW.out hb)
  replace HG := Aside0.mk (Kd.S_below HG.out hb);
  have HVy0_0 := Aside0.mk (H.S_upto hVy0_0)
  clear hb hVy0_0
  go_wp2_with (first | ((with_reducible refine gate_dst (N := 1) rfl ?_); refine H.own_box HO.out ?hg (N := 1) ?hd (cs := #[Value.slice A0_0 l0_0.length c0_0]) (t := 24) ?hr ?_; (case hd => rfl); (case hg => rfl); (case hr => first | (go_simp; done) | (go_simp; rfl)); intro gb0 w_ ho_ hb_; replace HO := Aside0.mk ho_; clear ho_ hb_) | ((with_reducible refine gate_dst (N := 14) rfl ?_); refine wpList_load_row rfl 24 (.tmp 1) rfl _ rfl 24 _ (0, 0) _ (HO.out.get 0 rfl) Try.underlying24 rfl (by kernel_rfl) ?_) | ((with_reducible refine gate_dst (N := 20) rfl ?_); refine wpList_load_row rfl 24 (.tmp 1) rfl _ rfl 24 _ (0, 0) _ (HO.out.get 0 rfl) Try.underlying24 rfl (by kernel_rfl) ?_) | ((with_reducible refine gate_dst (N := 25) rfl ?_); refine wpList_load_row rfl 24 (.tmp 1) rfl _ rfl 24 _ (0, 0) _ (HO.out.get 0 rfl) Try.underlying24 rfl (by kernel_rfl) ?_) | ((with_reducible refine gate_dst (N := 28) rfl ?_); refine wpList_load_row rfl 27 (.tmp 6) rfl _ rfl 27 _ (0, 0) _ (HO.out.get 1 rfl) Try.underlying27 rfl (by kernel_rfl) ?_) | ((with_reducible refine gate_dst (N := 46) rfl ?_); refine wpList_load_row rfl 27 (.tmp 6) rfl _ rfl 27 _ (0, 0) _ (HO.out.get 1 rfl) Try.underlying27 rfl (by kernel_rfl) ?_) | ((with_reducible refine gate_dst (N := 74) rfl ?_); refine wpList_load_row rfl 24 (.tmp 1) rfl _ rfl 24 _ (0, 0) _ (HO.out.get 0 rfl) Try.underlying24 rfl (by kernel_rfl) ?_))
  refine (impl_BackEdges.calls _ _ y0_0 s1 s2 _ (Kd.S_reads' HVy0_0.out).2.2 (Kd.S_reads' HVy0_0.out).2.1 HIMPL.out).mono ?_
  rintro e w_ ⟨vH, rfl, hs, hb⟩
  obtain ⟨AH, cH, rfl⟩ := Kd.S_slice hs
  replace HO := Aside0.mk (HO.out.step hb)
  replace HW := Aside0.mk (Kd.S_below HW.out hb)
  replace HG := Aside0.mk (Kd.S_below HG.out hb)
  replace HVy0_0 := Aside0.mk (Kd.S_below HVy0_0.out hb);
  have HH := Aside0.mk hs
  clear hs hb
  clear HVy0_0
  go_wp2_with (first | ((with_reducible refine gate_dst (N := 1) rfl ?_); refine H.own_box HO.out ?hg (N := 1) ?hd (cs := #[Value.slice A0_0 l0_0.length c0_0]) (t := 24) ?hr ?_; (case hd => rfl); (case hg => rfl); (case hr => first | (go_simp; done) | (go_simp; rfl)); intro gb0 w_ ho_ hb_; replace HO := Aside0.mk ho_; clear ho_ hb_) | ((with_reducible refine gate_dst (N := 14) rfl ?_); refine wpList_load_row rfl 24 (.tmp 1) rfl _ rfl 24 _ (0, 0) _ (HO.out.get 0 rfl) Try.underlying24 rfl (by kernel_rfl) ?_) | ((with_reducible refine gate_dst (N := 20) rfl ?_); refine wpList_load_row rfl 24 (.tmp 1) rfl _ rfl 24 _ (0, 0) _ (HO.out.get 0 rfl) Try.underlying24 rfl (by kernel_rfl) ?_) | ((with_reducible refine gate_dst (N := 25) rfl ?_); refine wpList_load_row rfl 24 (.tmp 1) rfl _ rfl 24 _ (0, 0) _ (HO.out.get 0 rfl) Try.underlying24 rfl (by kernel_rfl) ?_) | ((with_reducible refine gate_dst (N := 28) rfl ?_); refine wpList_load_row rfl 27 (.tmp 6) rfl _ rfl 27 _ (0, 0) _ (HO.out.get 1 rfl) Try.underlying27 rfl (by kernel_rfl) ?_) | ((with_reducible refine gate_dst (N := 46) rfl ?_); refine wpList_load_row rfl 27 (.tmp 6) rfl _ rfl 27 _ (0, 0) _ (HO.out.get 1 rfl) Try.underlying27 rfl (by kernel_rfl) ?_) | ((with_reducible refine gate_dst (N := 74) rfl ?_); refine wpList_load_row rfl 24 (.tmp 1) rfl _ rfl 24 _ (0, 0) _ (HO.out.get 0 rfl) Try.underlying24 rfl (by kernel_rfl) ?_))
  refine (laws_eqIntSS.calls k _ _ s1 _ _ s1 true _ (Kd.S_reads' HH.out).2.2 (Kd.S_reads' HH.out).2.1 (Kd.S_reads' HW.out).2.2 (Kd.S_reads' HW.out).2.1 HEQR.out).mono ?_
  rintro e w_ ⟨rfl, hd⟩
  replace HO := Aside0.mk (HO.out.step hd.below)
  replace HW := Aside0.mk (Kd.S_below HW.out hd.below)
  replace HG := Aside0.mk (Kd.S_below HG.out hd.below)
  replace HH := Aside0.mk (Kd.S_below HH.out hd.below);
  clear hd
  go_wp2_with (first | ((with_reducible refine gate_dst (N := 1) rfl ?_); refine H.own_box HO.out ?hg (N := 1) ?hd (cs := #[Value.slice A0_0 l0_0.length c0_0]) (t := 24) ?hr ?_; (case hd => rfl); (case hg => rfl); (case hr => first | (go_simp; done) | (go_simp; rfl)); intro gb0 w_ ho_ hb_; replace HO := Aside0.mk ho_; clear ho_ hb_) | ((with_reducible refine gate_dst (N := 14) rfl ?_); refine wpList_load_row rfl 24 (.tmp 1) rfl _ rfl 24 _ (0, 0) _ (HO.out.get 0 rfl) Try.underlying24 rfl (by kernel_rfl) ?_) | ((with_reducible refine gate_dst (N := 20) rfl ?_); refine wpList_load_row rfl 24 (.tmp 1) rfl _ rfl 24 _ (0, 0) _ (HO.out.get 0 rfl) Try.underlying24 rfl (by kernel_rfl) ?_) | ((with_reducible refine gate_dst (N := 25) rfl ?_); refine wpList_load_row rfl 24 (.tmp 1) rfl _ rfl 24 _ (0, 0) _ (HO.out.get 0 rfl) Try.underlying24 rfl (by kernel_rfl) ?_) | ((with_reducible refine gate_dst (N := 28) rfl ?_); refine wpList_load_row rfl 27 (.tmp 6) rfl _ rfl 27 _ (0, 0) _ (HO.out.get 1 rfl) Try.underlying27 rfl (by kernel_rfl) ?_) | ((with_reducible refine gate_dst (N := 46) rfl ?_); refine wpList_load_row rfl 27 (.tmp 6) rfl _ rfl 27 _ (0, 0) _ (HO.out.get 1 rfl) Try.underlying27 rfl (by kernel_rfl) ?_) | ((with_reducible refine gate_dst (N := 74) rfl ?_); refine wpList_load_row rfl 24 (.tmp 1) rfl _ rfl 24 _ (0, 0) _ (HO.out.get 0 rfl) Try.underlying24 rfl (by kernel_rfl) ?_))
  refine (calls_of_args (by rw [H.markSS_len]) (laws_heldIntSS.calls k AG cG (H.markSS s1 1) 1 _ _ (HG'.out _ _ HG.out).1 (HG'.out _ _ HG.out).2 HHELD.out)).mono ?_
  rintro e w_ ⟨he, hd⟩
  rw [HK2.out] at he
  subst he
  replace HO := Aside0.mk (HO.out.step hd.below)
  replace HW := Aside0.mk (Kd.S_below HW.out hd.below)
  replace HG := Aside0.mk (Kd.S_below HG.out hd.below)
  replace HH := Aside0.mk (Kd.S_below HH.out hd.below);
  clear hd
  go_wp2_with (first | ((with_reducible refine gate_dst (N := 1) rfl ?_); refine H.own_box HO.out ?hg (N := 1) ?hd (cs := #[Value.slice A0_0 l0_0.length c0_0]) (t := 24) ?hr ?_; (case hd => rfl); (case hg => rfl); (case hr => first | (go_simp; done) | (go_simp; rfl)); intro gb0 w_ ho_ hb_; replace HO := Aside0.mk ho_; clear ho_ hb_) | ((with_reducible refine gate_dst (N := 14) rfl ?_); refine wpList_load_row rfl 24 (.tmp 1) rfl _ rfl 24 _ (0, 0) _ (HO.out.get 0 rfl) Try.underlying24 rfl (by kernel_rfl) ?_) | ((with_reducible refine gate_dst (N := 20) rfl ?_); refine wpList_load_row rfl 24 (.tmp 1) rfl _ rfl 24 _ (0, 0) _ (HO.out.get 0 rfl) Try.underlying24 rfl (by kernel_rfl) ?_) | ((with_reducible refine gate_dst (N := 25) rfl ?_); refine wpList_load_row rfl 24 (.tmp 1) rfl _ rfl 24 _ (0, 0) _ (HO.out.get 0 rfl) Try.underlying24 rfl (by kernel_rfl) ?_) | ((with_reducible refine gate_dst (N := 28) rfl ?_); refine wpList_load_row rfl 27 (.tmp 6) rfl _ rfl 27 _ (0, 0) _ (HO.out.get 1 rfl) Try.underlying27 rfl (by kernel_rfl) ?_) | ((with_reducible refine gate_dst (N := 46) rfl ?_); refine wpList_load_row rfl 27 (.tmp 6) rfl _ rfl 27 _ (0, 0) _ (HO.out.get 1 rfl) Try.underlying27 rfl (by kernel_rfl) ?_) | ((with_reducible refine gate_dst (N := 74) rfl ?_); refine wpList_load_row rfl 24 (.tmp 1) rfl _ rfl 24 _ (0, 0) _ (HO.out.get 0 rfl) Try.underlying24 rfl (by kernel_rfl) ?_))
  go_ret
  exact ⟨rfl, HO.out.below⟩
theorem laws_FnExactBackEdges.calls (k : Nat) (A0_0 : Option Addr) (c0_0 : Nat) (l0_0 : List (List Int)) (w : World) (hr0_0 : Kd.C (Kd.slice 3 (Kd.int .i64)) w A0_0 l0_0.length l0_0) (hc0_0 : l0_0.length ≤ c0_0) (h : laws_FnExactBackEdges.ok k l0_0) :
    Calls Try.prog 9 #[.agg #[.slice A0_0 l0_0.length c0_0]] w fun e w' => e = .returned (.bool true) ∧ Below w.heap.size w w' := by
  unfold laws_FnExactBackEdges.ok at h
  rcases h with h | h
  · exact laws_FnExactBackEdges.s0 k A0_0 c0_0 l0_0 w hr0_0 hc0_0 h
  · exact laws_FnExactBackEdges.whole k A0_0 c0_0 l0_0 w hr0_0 hc0_0 h
end Go.Proofs.Ytplcipjlkogadaa.P

namespace Go.Proofs.Ytplcipjlkogadaa.Q
open Go.RowKit Go.Proofs.Ytplcipjlkogadaa.P Go.Proofs.Ytplcipjlkogadaa.H Go.Proofs.YtplcipjlkogadaaW.PrintWords
theorem backEdges_of (l0_0 : List (List Int)) (hl0 : Len (Len I64) l0_0) (core : Small l0_0 → ∃ (s1 : List (List Int)) (s2 : Bool), Ev (fun k => spec_BackEdges.f k l0_0) (s1, s2) ∧ impl_BackEdges.f l0_0 = some (s1, s2) ∧ Small s1) : ∃ k, laws_FnExactBackEdges.ok k l0_0 := by
  unfold laws_FnExactBackEdges.ok
  obtain ⟨z0, ⟨Kz0, hz0⟩, hcase0⟩ := szGraph_ev l0_0 1048576 (by decide) (by decide) hl0
  rcases hcase0 with hneg0 | ⟨h00, h10', hs0⟩
  case inl =>
    exact ⟨Kz0, .inl (by unfold laws_FnExactBackEdges.skip0; exact ⟨z0, hz0 _ (by omega), hneg0⟩)⟩
  obtain ⟨s1, s2, ⟨Ksp, hsp⟩, him, hsm⟩ := core hs0
  obtain ⟨Keq, heq⟩ := eqIntSS_ev s1 hsm
  have htot := total_small hsm
  obtain ⟨Khd, hhd⟩ := heldSS_ev s1 1 (by decide) (by omega) hsm.1
  obtain ⟨Kt0, ht0⟩ := toGraph_ev l0_0 hs0
  obtain ⟨Ke0, he0⟩ := eqGraph_ev l0_0 hs0
  have hty0 := total_small hs0
  have hln0 := hs0.1
  refine ⟨Kz0 + Ksp + Keq + Khd + Kt0 + Ke0, .inr (?_)⟩
  unfold laws_FnExactBackEdges.good
  exact ⟨z0, l0_0, s1, s2, hz0 _ (by omega), h00, ht0 _ (by omega), hsp _ (by omega), him, heq _ (by omega), he0 _ (by omega), by omega, hhd _ (by omega), hln0, by omega⟩
end Go.Proofs.Ytplcipjlkogadaa.Q

namespace Go.Proofs.Ytplcipjlkogadaa.Q
open Go.RowKit Go.Proofs.Ytplcipjlkogadaa.P Go.Proofs.Ytplcipjlkogadaa.H Go.Proofs.YtplcipjlkogadaaW.PrintWords
theorem small_nil' : Small ([] : List (List Int)) := ⟨by simp, fun r hr => by simp at hr⟩
theorem getD_memI {l : List Int} {m : Nat} (h : m < l.length) : l.getD m 0 ∈ l := by
  rw [List.getD_eq_getElem?_getD, List.getElem?_eq_getElem h]
  exact List.getElem_mem h
theorem drop_getD {l : List Int} {m : Nat} (h : m < l.length) : l.drop m = l.getD m 0 :: l.drop (m + 1) := by
  rw [List.drop_eq_getElem_cons h, List.getD_eq_getElem?_getD, List.getElem?_eq_getElem h]
  rfl
section
variable {g : List (List Int)}
theorem dom_bit (hG : goodG g = true) {b x : Nat} (hb : b < g.length) (hx : x < 12) : ((x : Int) ∈ (domL g).getD b []) ↔ ((domF g).getD b []).getD x false = true := by
  have hbl : b < (domF g).length := by unfold domF; rw [matF_len]; exact hb
  have he : (domL g).getD b [] = listTo ((domF g).getD b []) 12 := by
    unfold domL
    rw [List.getD_eq_getElem?_getD, List.getElem?_map, List.getD_eq_getElem?_getD, List.getElem?_eq_getElem hbl]
    rfl
  rw [he, listTo_mem]
  constructor
  · rintro ⟨j, _, e, h⟩
    rwa [show x = j by omega]
  · intro h
    exact ⟨x, hx, rfl, h⟩
theorem domL_len (hG : goodG g = true) (b : Nat) : ((domL g).getD b []).length ≤ 1048576 := by
  have hr := goodG_rows hG
  have hn2 : g.length ≤ 12 := hr.1.2
  by_cases hb : b < g.length
  · have := (domL_rel hG).len12 (fun b hb y h => by
      have := ((listTo_reach hG y).1 h.1).rng hG (by decide) (by have := hr.1.1; omega)
      omega) hb
    omega
  · have : (domL g).length = g.length := (domL_rel hG).len
    rw [List.getD_eq_getElem?_getD, List.getElem?_eq_none (by omega)]
    decide
theorem back_inner (hG : goodG g = true) {acc : List (List Int)} {b : Nat} (hb : b < g.length) {r : List (List Int) × Bool} (hacc : acc.length ≤ 144) :
    ∀ m, m ≤ (g.getD b []).length → ∀ ac : List (List Int), ac.length ≤ m → Ev (fun k => spec_BackEdges.l0 k (domL g) (acc ++ ac ++ beRow (domF g) b ((g.getD b []).drop m)) g (g.length : Int) ((b : Int) + 1)) r → Ev (fun k => spec_BackEdges.l1 k (domL g) (acc ++ ac) (b : Int) g (g.length : Int) (b : Int) (g.getD b []) ((g.getD b []).length : Int) (m : Int)) r := by
  have hr := goodG_rows hG
  have hn2 : g.length ≤ 12 := hr.1.2
  have hl12 := goodG_len hG b
  have hrow := goodG_row hG b
  have hlen : (domL g).length = g.length := (domL_rel hG).len
  have hdl := domL_len hG b
  refine down (n := (g.getD b []).length) (p := fun m => ∀ ac : List (List Int), ac.length ≤ m → Ev (fun k => spec_BackEdges.l0 k (domL g) (acc ++ ac ++ beRow (domF g) b ((g.getD b []).drop m)) g (g.length : Int) ((b : Int) + 1)) r → Ev (fun k => spec_BackEdges.l1 k (domL g) (acc ++ ac) (b : Int) g (g.length : Int) (b : Int) (g.getD b []) ((g.getD b []).length : Int) (m : Int)) r) ?h0 ?hs
  case h0 =>
    intro ac _ h
    rw [List.drop_length] at h
    unfold beRow at h
    rw [List.filter_nil, List.map_nil, List.append_nil] at h
    refine Ev.step (fun k => ?_) h
    simp only [spec_BackEdges.l1]
    rw [if_neg (by omega), w64 (by omega) (by omega)]
  case hs =>
    intro m hm ih ac ha h
    have hx := hrow ((g.getD b []).getD m 0) (getD_memI hm)
    have hdr := drop_getD hm
    obtain ⟨x, hxe⟩ : ∃ x : Nat, (g.getD b []).getD m 0 = (x : Int) := ⟨((g.getD b []).getD m 0).toNat, by omega⟩
    have hrd : rd (g.getD b []) (m : Int) = (x : Int) := hxe
    rw [hxe] at hx hdr
    have hbit := dom_bit hG hb (x := x) (by omega)
    rw [hdr] at h
    unfold beRow at h
    rw [List.filter_cons, Int.toNat_natCast] at h
    have hrl : rd_L1 (domL g) (b : Int) = (domL g).getD b [] := rfl
    refine Ev.step (fun k => ?_) ((has_ev ((domL g).getD b []) (x : Int) hdl).bind (f := fun k t => if t = true then spec_BackEdges.l1 k (domL g) (acc ++ ac ++ [[(b : Int), (x : Int)]]) (b : Int) g (g.length : Int) (b : Int) (g.getD b []) ((g.getD b []).length : Int) ((m : Int) + 1) else spec_BackEdges.l1 k (domL g) (acc ++ ac) (b : Int) g (g.length : Int) (b : Int) (g.getD b []) ((g.getD b []).length : Int) ((m : Int) + 1)) ?_)
    · simp only [spec_BackEdges.l1]
      rw [if_pos (by omega), if_pos (by omega), if_pos (by omega), if_pos (by omega), if_pos (by omega), hrd, hrl]
      have hal : (acc ++ ac).length < 5864062014805 := by rw [List.length_append]; omega
      simp only [hal, if_true, w64 (show -9223372036854775808 ≤ (m : Int) + 1 by omega) (by omega)]
    · by_cases hmem : (x : Int) ∈ (domL g).getD b []
      · rw [decide_eq_true hmem]
        rw [if_pos (hbit.1 hmem)] at h
        refine Ev.congr (fun k => by rw [if_pos rfl, List.append_assoc]; rfl) (ih (ac ++ [[(b : Int), (x : Int)]]) (by simp; omega) ?_)
        simpa [beRow] using h
      · rw [decide_eq_false hmem]
        rw [if_neg (fun e => hmem (hbit.2 e))] at h
        refine Ev.congr (fun k => by rw [if_neg (by simp)]; rfl) (ih ac (by omega) ?_)
        simpa [beRow] using h
end
theorem backEdges_core (g : List (List Int)) (hg : Small g) : ∃ (s1 : List (List Int)) (s2 : Bool), Ev (fun k => spec_BackEdges.f k g) (s1, s2) ∧ impl_BackEdges.f g = some (s1, s2) ∧ Small s1 := by
  unfold impl_BackEdges.f spec_BackEdges.f
  cases hG : goodG g with
  | false =>
    refine ⟨[], false, (specGoodGraph_ev g hg).bind ?_, by rw [if_neg (by simp)], small_nil'⟩
    rw [hG]
    exact ev_is fun k => by rw [if_neg (by simp)]
  | true =>
    have hr := goodG_rows hG
    have hn2 : g.length ≤ 12 := hr.1.2
    have hlen := beTo_len (domF g) (goodG_len hG)
    refine ⟨beTo (domF g) g g.length, true, (specGoodGraph_ev g hg).bind ?_, by rw [if_pos rfl], ?_⟩
    · rw [hG]
      have e : spec_l10Dominators.f g = some (domL g) := by unfold spec_l10Dominators.f; rw [hG, if_pos rfl]
      simp only [if_true, e, Option.bind_some]
      exact down0 (n := g.length) (p := fun b => Ev (fun k => spec_BackEdges.l0 k (domL g) (beTo (domF g) g b) g (g.length : Int) (b : Int)) (beTo (domF g) g g.length, true))
        (Ev.step (f := fun _ => some (beTo (domF g) g g.length, true)) (fun k => by simp only [spec_BackEdges.l0]; rw [if_neg (by omega)]) (Ev.now _))
        (fun b hb ih => by
          have h1 := hlen b
          refine Ev.step (fun k => ?_) (back_inner hG (acc := beTo (domF g) g b) hb (by omega) 0 (Nat.zero_le _) [] (by simp) ?_)
          · simp only [spec_BackEdges.l0]
            rw [if_pos (by omega), if_pos (by omega), if_pos (by omega), List.append_nil]
            rfl
          · rw [List.drop_zero, List.append_nil, ← beTo_succ]
            exact ih)
    · refine ⟨by have := hlen g.length; omega, fun r hr => ?_⟩
      unfold beTo beRow at hr
      obtain ⟨b, _, h2⟩ := List.mem_flatMap.1 hr
      obtain ⟨y, _, rfl⟩ := List.mem_map.1 h2
      simp
theorem backEdges_law (g : List (List Int)) (hn : g.length ≤ 9223372036854775807) (hl : Len (Len I64) g) : ∃ k, laws_FnExactBackEdges.ok k g := backEdges_of g hl (fun hg => backEdges_core g hg)
end Go.Proofs.Ytplcipjlkogadaa.Q
