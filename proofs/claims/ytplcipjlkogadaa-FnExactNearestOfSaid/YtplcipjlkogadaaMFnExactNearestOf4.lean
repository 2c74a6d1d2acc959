import Derived.Test.YtplcipjlkogadaaMFnExactNearestOf1
import Derived.Test.YtplcipjlkogadaaMFnExactNearestOf2
import Derived.Test.YtplcipjlkogadaaMFnExactNearestOf3
set_option linter.unusedVariables false
set_option linter.unusedSimpArgs false
namespace Go.Proofs.Ytplcipjlkogadaa.P
open Go.RowKit Go.Proofs.YtplcipjlkogadaaW.PrintWords Go.Proofs.YtplcipjlkogadaaW.PrintLast Go.Proofs.YtplcipjlkogadaaW.PrintMore
attribute [local go_sem] max2_int min2_int max_two min_two max_three min_three max_four min_four
def nfB (D : List (List Bool)) (b : Nat) : Int := nearestF D ((D.getD b []).set b false)
def nfTo (D : List (List Bool)) (n i : Nat) : List Int := (List.range n).map (fun b => if b < i then nfB D b else 0)
theorem nfTo_zero (D : List (List Bool)) (n : Nat) : nfTo D n 0 = List.replicate n 0 := by
  unfold nfTo
  exact List.ext_getElem (by simp) (fun b h1 h2 => by simp)
theorem nfTo_len (D : List (List Bool)) (n i : Nat) : (nfTo D n i).length = n := by unfold nfTo; simp
theorem nfTo_set (D : List (List Bool)) {n i : Nat} (hi : i < n) : (nfTo D n i).set i (nfB D i) = nfTo D n (i + 1) := by
  refine List.ext_getElem (by simp [nfTo]) (fun b h1 h2 => ?_)
  rw [List.getElem_set]
  simp only [nfTo, List.getElem_map, List.getElem_range]
  by_cases e : i = b
  · subst e
    rw [if_pos rfl, if_pos (by omega)]
  · rw [if_neg e]
    by_cases h : b < i
    · rw [if_pos h, if_pos (by omega)]
    · rw [if_neg h, if_neg (by omega)]
theorem own_iput {P : Program} {ops : Array Oper} {rest : List Oper} {o : Oper} {a : Act} {Q : Exit → Act → World → Prop} {w W : World} {L : List (Nat × Array Value × TypeId)} {ti g n cap i : Nat} {ok : Nat → Prop} {xs : List Int} {z : Int} (hO : H.Own w W L) (hv : (Kd.int .i64).R ti W w.heap.size ok (.slice (some ⟨g, 0, none⟩) n cap) xs)
    (hgd : o.guard = none) (hN : o.dst = none) {t : TypeId} {p x : Operand} (ho : o.op = .store t p x) (haddr : a.eval p = .pointer (some ⟨g, i, none⟩)) (hx : a.eval x = .int .i64 z) (ht : (P.info? t).map (·.size) = some 1) (hi : i < n) (hne : ∀ y ∈ L, y.2.2 ≠ ti)
    (h : ∀ w1, H.Own w w1 L → (Kd.int .i64).R ti w1 w.heap.size ok (.slice (some ⟨g, 0, none⟩) n cap) (xs.set i z) → W.grownBy w1 (some g) → wpList P ops Q rest a w1) : wpList P ops Q (o :: rest) a W := by
  have hr := Kd.R_reads' hv
  obtain ⟨ad, e, hc⟩ := Kd.at_int hr.2.2 (i : Int) (by omega) (by have := hr.1; omega)
  injection e with e
  subst e
  rw [Int.toNat_natCast] at hc
  refine Kd.R_store (Kd.int .i64) (w0 := w) w.heap.size hN hgd t p x ho ti (i : Int) 0 xs z (.int .i64 z) [.int .i64 z] [.int .i64 (rd xs (i : Int))] ok (fun _ => False) haddr (by rw [Int.toNat_natCast]; show i = i * 1 + 0; omega) hx rfl (by rw [ht]; rfl) (by simp [Value.oneCell']) hv (by omega) (by omega) rfl ?_ (by show 0 + 1 ≤ 1; omega) rfl (fun _ hk => hk.elim) hO.below ?_
  · intro j u hj
    cases j with
    | zero =>
      simp only [List.getElem?_cons_zero, Option.some.injEq] at hj
      subst hj
      rw [Int.toNat_natCast]
      show W.cell? ⟨g, i * 1 + 0, none⟩ = _
      rw [Nat.mul_one, Nat.add_zero]
      by_cases e : i = 0
      · subst e
        simpa [Addr.add] using hc
      · simpa [Addr.add, e] using hc
    | succ j => simp at hj
  · intro w1 hs hb hg
    rw [Int.toNat_natCast] at hs
    exact h w1 (hO.row hv (Nat.le_refl _) hg hne) hs hg
def impl_NearestOf.f (l0_0 : List (List Int)) : Option (List Int × Bool) := some (if H.goodG l0_0 then (nfTo (H.domF l0_0) l0_0.length l0_0.length, true) else ([], false))
set_option maxHeartbeats 8000000 in
set_option maxRecDepth 100000 in
theorem impl_NearestOf.calls (A0_0 : Option Addr) (c0_0 : Nat) (l0_0 : List (List Int)) (r1 : List Int) (r2 : Bool) (w : World) (hr0_0 : Kd.C (Kd.slice 3 (Kd.int .i64)) w A0_0 l0_0.length l0_0) (hc0_0 : l0_0.length ≤ c0_0) (h : impl_NearestOf.f l0_0 = some (r1, r2)) :
    Calls Try.prog 41 #[.agg #[.slice A0_0 l0_0.length c0_0]] w fun e w' => ∃ v0_ : Value, e = .returned (.tuple #[v0_, .bool r2]) ∧ (Kd.int .i64).R 3 w' w.heap.size (fun _ => True) v0_ r1 ∧ Below w.heap.size w w' := by
  replace h := Option.some.inj h
  have HR0 := Aside0.mk hr0_0
  have HC0 := Aside0.mk hc0_0
  clear hr0_0 hc0_0
  have HO := Aside0.mk (H.Own.nil w)
  have HK := Aside0.mk (fun (W : World) (hb : Below w.heap.size w W) => impl_GoodGraph.calls A0_0 c0_0 l0_0 _ W (Kd.C_below HR0.out hb) HC0.out rfl)
  cases hg : H.goodG l0_0 with
  | false =>
    rw [hg, if_neg (by simp), Prod.mk.injEq] at h
    obtain ⟨rfl, rfl⟩ := h
    rw [hg] at HK
    clear hg
    go_enter Try.func41, Try.ntmps41
    go_wp2_with (first | ((with_reducible refine gate_dst (N := 1) rfl ?_); refine H.own_box HO.out ?hg (N := 1) ?hd (cs := #[Value.slice A0_0 l0_0.length c0_0]) (t := 27) ?hr ?_; (case hd => rfl); (case hg => rfl); (case hr => first | (go_simp; done) | (go_simp; rfl)); intro gp w_ ho_ hb_; replace HO := Aside0.mk ho_; clear ho_ hb_) | ((with_reducible refine gate_dst (N := 8) rfl ?_); refine wpList_load_row rfl 27 (.tmp 1) rfl _ rfl 27 _ (0, 0) _ (HO.out.get 0 rfl) Try.underlying27 rfl (by kernel_rfl) ?_) | (go_at_call 18; refine (HK.out _ HO.out.below).mono ?_; rintro e w' ⟨rfl, hb⟩; replace HO := Aside0.mk (HO.out.step hb); clear hb))
    go_ret2
    exact ⟨_, rfl, Kd.R_nil _ _ _ _ _, HO.out.below⟩
  | true =>
    rw [hg, if_pos rfl, Prod.mk.injEq] at h
    obtain ⟨rfl, rfl⟩ := h
    rw [hg] at HK
    have hr := H.goodG_rows hg
    have hn1 : 1 ≤ l0_0.length := hr.1.1
    have hn2 : l0_0.length ≤ 12 := hr.1.2
    have HG := Aside0.mk hg
    clear hg hr
    have HI := Aside0.mk (show (Try.prog.info? 64).map (·.size) = some 12 by kernel_rfl)
    have hml := H.matF_len (fun b j => decide (j < l0_0.length) && H.domV l0_0 b j) l0_0.length
    have hmm := H.matF_mat (fun b j => decide (j < l0_0.length) && H.domV l0_0 b j) l0_0.length
    have hdi : ∀ b, b < l0_0.length → ∀ i, i < 12 → ((H.domF l0_0).getD b []).getD i false = true → i < l0_0.length := by
      intro b hb i hi h
      unfold H.domF at h
      rw [H.matF_row hb, H.rowF_get hi] at h
      simp only [Bool.and_eq_true, decide_eq_true_eq] at h
      exact h.1
    have HMM : Aside0 (H.Mat 12 (H.domF l0_0)) := ⟨hmm⟩
    have HML : Aside0 ((H.domF l0_0).length = l0_0.length) := ⟨hml⟩
    have HDI := Aside0.mk hdi
    clear hml hmm hdi
    obtain ⟨M, hMD⟩ : ∃ M, H.domF l0_0 = M := ⟨_, rfl⟩
    rw [hMD] at HMM HML HDI ⊢
    have HMD := Aside0.mk hMD
    clear hMD
    go_enter Try.func41, Try.ntmps41
    go_wp2_with (first | ((with_reducible refine gate_dst (N := 1) rfl ?_); refine H.own_box HO.out ?hg (N := 1) ?hd (cs := #[Value.slice A0_0 l0_0.length c0_0]) (t := 27) ?hr ?_; (case hd => rfl); (case hg => rfl); (case hr => first | (go_simp; done) | (go_simp; rfl)); intro gp w_ ho_ hb_; replace HO := Aside0.mk ho_; clear ho_ hb_) | ((with_reducible refine gate_dst (N := 8) rfl ?_); refine wpList_load_row rfl 27 (.tmp 1) rfl _ rfl 27 _ (0, 0) _ (HO.out.get 0 rfl) Try.underlying27 rfl (by kernel_rfl) ?_) | (go_at_call 18; refine (HK.out _ HO.out.below).mono ?_; rintro e w' ⟨rfl, hb⟩; replace HO := Aside0.mk (HO.out.step hb); clear hb) | (go_at_call 67; refine (impl_dominators.calls ⟨gp, 0, none⟩ A0_0 c0_0 l0_0 _ (HO.out.cell 0 rfl 0) (Kd.C_below HR0.out HO.out.below) HG.out).mono ?_; rw [HMD.out]; rintro e w' ⟨gm, rfl, ho⟩; replace HO := Aside0.mk (HO.out.join ho); have hx1 := HO.out.cell 0 rfl 0; clear ho) | ((with_reducible refine gate_dst (N := 15) rfl ?_); refine Kd.R_make (Kd.int .i64) (w0 := w) w.heap.size 3 rfl (N := 15) rfl 31 _ _ rfl (l0_0.length : Int) rfl rfl Try.underlying31 (.int .i64 0) 8 info3 rfl (by decide) (by omega) 0 (ok := fun _ => True) (okp := fun _ => True) rfl (fun _ hk => hk) trivial (by omega) (by simp only [Int.toNat_natCast]; omega) HO.out.below HO.out.size ?_; intro vs w_ ho_ hb_ hg_ hnew_; rw [Int.toNat_natCast] at ho_; obtain ⟨gs, cs, evs, _, _, _⟩ := Kd.R_form ho_ (by rw [List.length_replicate]; omega); rw [List.length_replicate] at evs; subst evs; replace HO := Aside0.mk (HO.out.grown hg_ (fun k hk => by cases hk)); have HV := Aside0.mk ho_; clear ho_ hb_ hg_ hnew_ hx1))
    go_loopw [18] (fun vc wr => ∃ i : Nat, vc = .int .i64 i ∧ i ≤ l0_0.length ∧ Aside0 ((Kd.int .i64).R 3 wr w.heap.size (fun _ => True) (.slice (some ⟨gs, 0, none⟩) l0_0.length cs) (nfTo M l0_0.length i)) ∧ Aside0 (H.Own w wr [(gp, #[Value.slice A0_0 l0_0.length c0_0], 27), (gm, H.bcells M.flatten, 64)])) (fun vc _ => l0_0.length - (intOf vc).toNat)
    case atStart => exact ⟨0, rfl, Nat.zero_le _, ⟨by rw [nfTo_zero]; exact HV.out⟩, HO⟩
    case round =>
      clear HO HV
      obtain ⟨i, rfl, hi, HV, HO⟩ := hrel
      by_cases hlt : i < l0_0.length
      · have HIL := Aside0.mk hlt
        have HIM := Aside0.mk (show i < M.length by rw [HML.out]; exact hlt)
        have HST := Aside0.mk (nfTo_set M hlt)
        have hil : (i : Int) < (l0_0.length : Int) := by omega
        have hi12 : (i : Int) < 12 := by omega
        have HI12 := Aside0.mk (show i < 12 by omega)
        have HRW := Aside0.mk (HMM.out.row HIM.out)
        have hdi := HDI.out i hlt
        have hnf : nfB M i = nearestF M ((M.getD i []).set i false) := rfl
        obtain ⟨row, hrow⟩ : ∃ row, M.getD i [] = row := ⟨_, rfl⟩
        rw [hrow] at HRW hdi hnf
        have HROW := Aside0.mk hrow
        have HRS := Aside0.mk (show (row.set i false).length = 12 by rw [List.length_set]; exact HRW.out)
        have hdi2 : ∀ j, j < 12 → (row.set i false).getD j false = true → j < l0_0.length := by
          intro j hj h
          by_cases e : i = j
          · subst e
            exact hlt
          · refine hdi j hj ?_
            rw [List.getD_eq_getElem?_getD, List.getElem?_set_ne e, ← List.getD_eq_getElem?_getD] at h
            exact h
        have HDI2 := Aside0.mk hdi2
        have HNF := Aside0.mk hnf
        obtain ⟨rs, hrs⟩ : ∃ rs, row.set i false = rs := ⟨_, rfl⟩
        rw [hrs] at HRS HDI2 HNF
        have HRSE := Aside0.mk hrs
        clear hrow hdi hdi2 hnf hrs
        go_wp2_with (first | ((with_reducible refine gate_dst (N := 24) rfl ?_); refine wpList_load_mid rfl 64 (.tmp 23) rfl gm (i * 12) rfl (row.map Value.bool) _ (by rw [← HROW.out]; exact HO.out.mrange 1 (n := 12) rfl HMM.out HIM.out) Try.underlying64 rfl (by rw [List.length_map, HRW.out]; exact HI.out) ?_) | ((with_reducible refine gate_dst (N := 7) rfl ?_); refine H.own_box HO.out ?hg (N := 7) ?hd (cs := H.bcells H.none12) (t := 64) ?hr ?_; (case hd => rfl); (case hg => rfl); (case hr => first | (go_simp; done) | (go_simp; rfl)); intro gx w_ ho_ hb_; replace HV := Aside0.mk (Kd.R_below HV.out hb_); replace HO := Aside0.mk ho_; clear ho_ hb_) | ((with_reducible refine gate_store (t := 64) (p := 7) rfl ?_); refine H.own_ball HO.out 2 (bs' := row) rfl rfl rfl rfl rfl rfl HI.out HRW.out ?_; intro w_ ho_ hg_; replace HV := Aside0.mk (HO.out.keep 2 rfl HV.out hg_ (by decide)); replace HO := Aside0.mk ho_; clear ho_ hg_) | ((with_reducible refine gate_store (t := 4) (p := 26) rfl ?_); refine H.own_bput HO.out 2 (bs := row) (j := i) rfl rfl rfl rfl rfl rfl (by kernel_rfl) (by rw [HRW.out]; exact HI12.out) ?_; intro w_ ho_ hg_; replace HV := Aside0.mk (HO.out.keep 2 rfl HV.out hg_ (by decide)); rw [HRSE.out] at ho_; replace HO := Aside0.mk ho_; clear ho_ hg_) | ((with_reducible refine gate_dst (N := 30) rfl ?_); refine wpList_load_mid rfl 64 (.tmp 7) rfl gx 0 rfl (rs.map Value.bool) _ (HO.out.brange 2 rfl) Try.underlying64 rfl (by rw [List.length_map, HRS.out]; exact HI.out) ?_) | (go_at_call 72; go_loud (refine (impl_nearest.calls gm l0_0.length M rs _ (HO.out.get 1 rfl) HMM.out HML.out (by omega) HRS.out HDI2.out).mono ?_; rw [← HNF.out]; rintro e w' ⟨rfl, hb⟩; replace HV := Aside0.mk (Kd.R_below HV.out hb); replace HO := Aside0.mk (HO.out.step hb); clear hb)) | ((with_reducible refine gate_store (t := 3) (p := 32) rfl ?_); go_loud (refine own_iput HO.out HV.out rfl rfl rfl rfl rfl (by kernel_rfl) HIL.out (by simp) ?_; intro w_ ho_ hs_ hg_; replace HV := Aside0.mk hs_; replace HO := Aside0.mk ho_; clear ho_ hs_ hg_)))
        go_roundw
        case rel => exact ⟨i + 1, by go_num, by omega, ⟨by rw [← HST.out]; exact HV.out⟩, ⟨HO.out.take (by simp)⟩⟩
        case measure => simp [intOf]; omega
      · have hE : i = l0_0.length := by omega
        subst hE
        go_wp2
        go_ret2
        exact ⟨_, rfl, HV.out, HO.out.below⟩
end Go.Proofs.Ytplcipjlkogadaa.P

namespace Go.Proofs.Ytplcipjlkogadaa.P
open Go.RowKit Go.Proofs.YtplcipjlkogadaaW.PrintWords Go.Proofs.YtplcipjlkogadaaW.PrintLast Go.Proofs.YtplcipjlkogadaaW.PrintMore
attribute [local go_sem] max2_int min2_int max_two min_two max_three min_three max_four min_four
def laws_FnExactNearestOf.good (k : Nat) (l0_0 : List (List Int)) : Prop := ∃ z0 : Int, ∃ y0_0 : List (List Int), ∃ (s1 : List Int) (s2 : Bool), laws_szGraph.f k l0_0 1048576 = some z0 ∧ 0 ≤ z0 ∧ laws_toGraph.f k l0_0 = some y0_0 ∧ spec_NearestOf.f k y0_0 = some (s1, s2) ∧ impl_NearestOf.f y0_0 = some (s1, s2) ∧ laws_eqIntS.f k s1 s1 = some true ∧ laws_eqGraph.f k y0_0 y0_0 = some true ∧ 1 + (s1.length : Int) ≤ 4611686018427387904 ∧ laws_heldIntS.f k (H.markI s1 1) 1 = some (1 + (s1.length : Int)) ∧ laws_markIntS.f k s1 1 = some (1 + (s1.length : Int), H.markI s1 1) ∧ y0_0.length ≤ 1048576 ∧ 1 + ((H.total y0_0 : Int) : Int) ≤ 4611686018427387904
def laws_FnExactNearestOf.skip0 (k : Nat) (l0_0 : List (List Int)) : Prop := ∃ z0 : Int, laws_szGraph.f k l0_0 1048576 = some z0 ∧ z0 < 0
def laws_FnExactNearestOf.ok (k : Nat) (l0_0 : List (List Int)) : Prop := laws_FnExactNearestOf.skip0 k l0_0 ∨ laws_FnExactNearestOf.good k l0_0
set_option maxHeartbeats 8000000 in
set_option maxRecDepth 100000 in
theorem laws_FnExactNearestOf.s0 (k : Nat) (A0_0 : Option Addr) (c0_0 : Nat) (l0_0 : List (List Int)) (w : World) (hr0_0 : Kd.C (Kd.slice 3 (Kd.int .i64)) w A0_0 l0_0.length l0_0) (hc0_0 : l0_0.length ≤ c0_0) (h : laws_FnExactNearestOf.skip0 k l0_0) :
    Calls Try.prog 10 #[.agg #[.slice A0_0 l0_0.length c0_0]] w fun e w' => e = .returned (.bool true) ∧ Below w.heap.size w w' := by
  have HR0_0 := Aside0.mk hr0_0
  have HC0_0 := Aside0.mk hc0_0
  clear hr0_0 hc0_0
  have HO := Aside0.mk (H.Own.nil w)
  unfold laws_FnExactNearestOf.skip0 at h
  obtain ⟨z0, ⟨hsz0, hz0⟩⟩ := h
  have HSZ0 := Aside0.mk hsz0
  clear hsz0
  go_enter Try.func10, Try.ntmps10
  go_wp2_with (first | ((with_reducible refine gate_dst (N := 1) rfl ?_); refine H.own_box HO.out ?hg (N := 1) ?hd (cs := #[Value.slice A0_0 l0_0.length c0_0]) (t := 24) ?hr ?_; (case hd => rfl); (case hg => rfl); (case hr => first | (go_simp; done) | (go_simp; rfl)); intro gb0 w_ ho_ hb_; replace HO := Aside0.mk ho_; clear ho_ hb_) | ((with_reducible refine gate_dst (N := 14) rfl ?_); refine wpList_load_row rfl 24 (.tmp 1) rfl _ rfl 24 _ (0, 0) _ (HO.out.get 0 rfl) Try.underlying24 rfl (by kernel_rfl) ?_) | ((with_reducible refine gate_dst (N := 20) rfl ?_); refine wpList_load_row rfl 24 (.tmp 1) rfl _ rfl 24 _ (0, 0) _ (HO.out.get 0 rfl) Try.underlying24 rfl (by kernel_rfl) ?_) | ((with_reducible refine gate_dst (N := 25) rfl ?_); refine wpList_load_row rfl 24 (.tmp 1) rfl _ rfl 24 _ (0, 0) _ (HO.out.get 0 rfl) Try.underlying24 rfl (by kernel_rfl) ?_) | ((with_reducible refine gate_dst (N := 28) rfl ?_); refine wpList_load_row rfl 27 (.tmp 6) rfl _ rfl 27 _ (0, 0) _ (HO.out.get 1 rfl) Try.underlying27 rfl (by kernel_rfl) ?_) | ((with_reducible refine gate_dst (N := 46) rfl ?_); refine wpList_load_row rfl 27 (.tmp 6) rfl _ rfl 27 _ (0, 0) _ (HO.out.get 1 rfl) Try.underlying27 rfl (by kernel_rfl) ?_) | ((with_reducible refine gate_dst (N := 74) rfl ?_); refine wpList_load_row rfl 24 (.tmp 1) rfl _ rfl 24 _ (0, 0) _ (HO.out.get 0 rfl) Try.underlying24 rfl (by kernel_rfl) ?_))
  refine (laws_szGraph.calls k _ _ l0_0 1048576 z0 _ (Kd.C_below HR0_0.out HO.out.below) HC0_0.out HSZ0.out).mono ?_
  rintro e w_ ⟨rfl, hb⟩
  replace HO := Aside0.mk (HO.out.step hb)
  clear hb
  go_wp2_with (first | ((with_reducible refine gate_dst (N := 1) rfl ?_); refine H.own_box HO.out ?hg (N := 1) ?hd (cs := #[Value.slice A0_0 l0_0.length c0_0]) (t := 24) ?hr ?_; (case hd => rfl); (case hg => rfl); (case hr => first | (go_simp; done) | (go_simp; rfl)); intro gb0 w_ ho_ hb_; replace HO := Aside0.mk ho_; clear ho_ hb_) | ((with_reducible refine gate_dst (N := 14) rfl ?_); refine wpList_load_row rfl 24 (.tmp 1) rfl _ rfl 24 _ (0, 0) _ (HO.out.get 0 rfl) Try.underlying24 rfl (by kernel_rfl) ?_) | ((with_reducible refine gate_dst (N := 20) rfl ?_); refine wpList_load_row rfl 24 (.tmp 1) rfl _ rfl 24 _ (0, 0) _ (HO.out.get 0 rfl) Try.underlying24 rfl (by kernel_rfl) ?_) | ((with_reducible refine gate_dst (N := 25) rfl ?_); refine wpList_load_row rfl 24 (.tmp 1) rfl _ rfl 24 _ (0, 0) _ (HO.out.get 0 rfl) Try.underlying24 rfl (by kernel_rfl) ?_) | ((with_reducible refine gate_dst (N := 28) rfl ?_); refine wpList_load_row rfl 27 (.tmp 6) rfl _ rfl 27 _ (0, 0) _ (HO.out.get 1 rfl) Try.underlying27 rfl (by kernel_rfl) ?_) | ((with_reducible refine gate_dst (N := 46) rfl ?_); refine wpList_load_row rfl 27 (.tmp 6) rfl _ rfl 27 _ (0, 0) _ (HO.out.get 1 rfl) Try.underlying27 rfl (by kernel_rfl) ?_) | ((with_reducible refine gate_dst (N := 74) rfl ?_); refine wpList_load_row rfl 24 (.tmp 1) rfl _ rfl 24 _ (0, 0) _ (HO.out.get 0 rfl) Try.underlying24 rfl (by kernel_rfl) ?_))
  go_ret
  exact ⟨rfl, HO.out.below⟩
set_option maxHeartbeats 8000000 in
set_option maxRecDepth 100000 in
theorem laws_FnExactNearestOf.whole (k : Nat) (A0_0 : Option Addr) (c0_0 : Nat) (l0_0 : List (List Int)) (w : World) (hr0_0 : Kd.C (Kd.slice 3 (Kd.int .i64)) w A0_0 l0_0.length l0_0) (hc0_0 : l0_0.length ≤ c0_0) (h : laws_FnExactNearestOf.good k l0_0) :
    Calls Try.prog 10 #[.agg #[.slice A0_0 l0_0.length c0_0]] w fun e w' => e = .returned (.bool true) ∧ Below w.heap.size w w' := by
  have HR0_0 := Aside0.mk hr0_0
  have HC0_0 := Aside0.mk hc0_0
  clear hr0_0 hc0_0
  have HO := Aside0.mk (H.Own.nil w)
  unfold laws_FnExactNearestOf.good at h
  obtain ⟨z0, y0_0, s1, s2, hsz0, hz0, hto0, hspec, himpl, heqr, heq0, htot, hheld, hmki, hyl0, hb0⟩ := h
  have HSZ0 := Aside0.mk hsz0
  have HTO0 := Aside0.mk hto0
  have HSPEC := Aside0.mk hspec
  have HIMPL := Aside0.mk himpl
  have HEQR := Aside0.mk heqr
  have HEQ0 := Aside0.mk heq0
  have HTOT := Aside0.mk htot
  have HHELD := Aside0.mk hheld
  have HMKI := Aside0.mk hmki
  have HB0 := Aside0.mk hb0
  clear hsz0 hto0 hspec himpl heqr heq0 htot hheld hmki hb0
  obtain ⟨K2, hK2⟩ : ∃ K2 : Int, 1 + (s1.length : Int) = K2 := ⟨_, rfl⟩
  have hk2 : 0 ≤ K2 := by omega
  have HK2 := Aside0.mk hK2
  clear hK2
  have HSZW := Aside0.mk (rfl : w.heap.size = w.heap.size)
  go_enter Try.func10, Try.ntmps10
  go_wp2_with (first | ((with_reducible refine gate_dst (N := 1) rfl ?_); refine H.own_box HO.out ?hg (N := 1) ?hd (cs := #[Value.slice A0_0 l0_0.length c0_0]) (t := 24) ?hr ?_; (case hd => rfl); (case hg => rfl); (case hr => first | (go_simp; done) | (go_simp; rfl)); intro gb0 w_ ho_ hb_; replace HO := Aside0.mk ho_; clear ho_ hb_) | ((with_reducible refine gate_dst (N := 14) rfl ?_); refine wpList_load_row rfl 24 (.tmp 1) rfl _ rfl 24 _ (0, 0) _ (HO.out.get 0 rfl) Try.underlying24 rfl (by kernel_rfl) ?_) | ((with_reducible refine gate_dst (N := 20) rfl ?_); refine wpList_load_row rfl 24 (.tmp 1) rfl _ rfl 24 _ (0, 0) _ (HO.out.get 0 rfl) Try.underlying24 rfl (by kernel_rfl) ?_) | ((with_reducible refine gate_dst (N := 25) rfl ?_); refine wpList_load_row rfl 24 (.tmp 1) rfl _ rfl 24 _ (0, 0) _ (HO.out.get 0 rfl) Try.underlying24 rfl (by kernel_rfl) ?_) | ((with_reducible refine gate_dst (N := 28) rfl ?_); refine wpList_load_row rfl 27 (.tmp 6) rfl _ rfl 27 _ (0, 0) _ (HO.out.get 1 rfl) Try.underlying27 rfl (by kernel_rfl) ?_) | ((with_reducible refine gate_dst (N := 46) rfl ?_); refine wpList_load_row rfl 27 (.tmp 6) rfl _ rfl 27 _ (0, 0) _ (HO.out.get 1 rfl) Try.underlying27 rfl (by kernel_rfl) ?_) | ((with_reducible refine gate_dst (N := 74) rfl ?_); refine wpList_load_row rfl 24 (.tmp 1) rfl _ rfl 24 _ (0, 0) _ (HO.out.get 0 rfl) Try.underlying24 rfl (by kernel_rfl) ?_))
  refine (laws_szGraph.calls k _ _ l0_0 1048576 z0 _ (Kd.C_below HR0_0.out HO.out.below) HC0_0.out HSZ0.out).mono ?_
  rintro e w_ ⟨rfl, hb⟩
  replace HO := Aside0.mk (HO.out.step hb)
  clear hb
  go_wp2_with (first | ((with_reducible refine gate_dst (N := 1) rfl ?_); refine H.own_box HO.out ?hg (N := 1) ?hd (cs := #[Value.slice A0_0 l0_0.length c0_0]) (t := 24) ?hr ?_; (case hd => rfl); (case hg => rfl); (case hr => first | (go_simp; done) | (go_simp; rfl)); intro gb0 w_ ho_ hb_; replace HO := Aside0.mk ho_; clear ho_ hb_) | ((with_reducible refine gate_dst (N := 14) rfl ?_); refine wpList_load_row rfl 24 (.tmp 1) rfl _ rfl 24 _ (0, 0) _ (HO.out.get 0 rfl) Try.underlying24 rfl (by kernel_rfl) ?_) | ((with_reducible refine gate_dst (N := 20) rfl ?_); refine wpList_load_row rfl 24 (.tmp 1) rfl _ rfl 24 _ (0, 0) _ (HO.out.get 0 rfl) Try.underlying24 rfl (by kernel_rfl) ?_) | ((with_reducible refine gate_dst (N := 25) rfl ?_); refine wpList_load_row rfl 24 (.tmp 1) rfl _ rfl 24 _ (0, 0) _ (HO.out.get 0 rfl) Try.underlying24 rfl (by kernel_rfl) ?_) | ((with_reducible refine gate_dst (N := 28) rfl ?_); refine wpList_load_row rfl 27 (.tmp 6) rfl _ rfl 27 _ (0, 0) _ (HO.out.get 1 rfl) Try.underlying27 rfl (by kernel_rfl) ?_) | ((with_reducible refine gate_dst (N := 46) rfl ?_); refine wpList_load_row rfl 27 (.tmp 6) rfl _ rfl 27 _ (0, 0) _ (HO.out.get 1 rfl) Try.underlying27 rfl (by kernel_rfl) ?_) | ((with_reducible refine gate_dst (N := 74) rfl ?_); refine wpList_load_row rfl 24 (.tmp 1) rfl _ rfl 24 _ (0, 0) _ (HO.out.get 0 rfl) Try.underlying24 rfl (by kernel_rfl) ?_))
  refine (laws_toGraph.calls k _ _ l0_0 y0_0 _ (Kd.C_below HR0_0.out HO.out.below) HC0_0.out HTO0.out).mono ?_
  rintro e w_ ⟨vTy0_0, rfl, hTy0_0, hb⟩
  obtain ⟨ATy0_0, cTy0_0, rfl⟩ := Kd.S_slice hTy0_0
  replace HO := Aside0.mk (HO.out.step hb)
  have HTy0_0 := Aside0.mk (H.S_upto hTy0_0)
  clear hb hTy0_0
  go_wp2_with (first | ((with_reducible refine gate_dst (N := 1) rfl ?_); refine H.own_box HO.out ?hg (N := 1) ?hd (cs := #[Value.slice A0_0 l0_0.length c0_0]) (t := 24) ?hr ?_; (case hd => rfl); (case hg => rfl); (case hr => first | (go_simp; done) | (go_simp; rfl)); intro gb0 w_ ho_ hb_; replace HO := Aside0.mk ho_; clear ho_ hb_) | ((with_reducible refine gate_dst (N := 14) rfl ?_); refine wpList_load_row rfl 24 (.tmp 1) rfl _ rfl 24 _ (0, 0) _ (HO.out.get 0 rfl) Try.underlying24 rfl (by kernel_rfl) ?_) | ((with_reducible refine gate_dst (N := 20) rfl ?_); refine wpList_load_row rfl 24 (.tmp 1) rfl _ rfl 24 _ (0, 0) _ (HO.out.get 0 rfl) Try.underlying24 rfl (by kernel_rfl) ?_) | ((with_reducible refine gate_dst (N := 25) rfl ?_); refine wpList_load_row rfl 24 (.tmp 1) rfl _ rfl 24 _ (0, 0) _ (HO.out.get 0 rfl) Try.underlying24 rfl (by kernel_rfl) ?_) | ((with_reducible refine gate_dst (N := 28) rfl ?_); refine wpList_load_row rfl 27 (.tmp 6) rfl _ rfl 27 _ (0, 0) _ (HO.out.get 1 rfl) Try.underlying27 rfl (by kernel_rfl) ?_) | ((with_reducible refine gate_dst (N := 46) rfl ?_); refine wpList_load_row rfl 27 (.tmp 6) rfl _ rfl 27 _ (0, 0) _ (HO.out.get 1 rfl) Try.underlying27 rfl (by kernel_rfl) ?_) | ((with_reducible refine gate_dst (N := 74) rfl ?_); refine wpList_load_row rfl 24 (.tmp 1) rfl _ rfl 24 _ (0, 0) _ (HO.out.get 0 rfl) Try.underlying24 rfl (by kernel_rfl) ?_))
  have HWB := Aside0.mk HO.out.size
  refine (spec_NearestOf.calls k _ _ y0_0 s1 s2 _ (Kd.S_reads' HTy0_0.out).2.2 (Kd.S_reads' HTy0_0.out).2.1 HSPEC.out).mono ?_
  rintro e w_ ⟨vW, rfl, hs, hb⟩
  obtain ⟨AW, cW, rfl⟩ := Kd.R_slice hs
  replace HO := Aside0.mk (HO.out.step hb)
  replace HTy0_0 := Aside0.mk (Kd.S_below HTy0_0.out hb);
  have HW := Aside0.mk (H.R_upto hs)
  clear hs hb
  clear HTy0_0
  go_wp2_with (first | ((with_reducible refine gate_dst (N := 1) rfl ?_); refine H.own_box HO.out ?hg (N := 1) ?hd (cs := #[Value.slice A0_0 l0_0.length c0_0]) (t := 24) ?hr ?_; (case hd => rfl); (case hg => rfl); (case hr => first | (go_simp; done) | (go_simp; rfl)); intro gb0 w_ ho_ hb_; replace HO := Aside0.mk ho_; clear ho_ hb_) | ((with_reducible refine gate_dst (N := 14) rfl ?_); refine wpList_load_row rfl 24 (.tmp 1) rfl _ rfl 24 _ (0, 0) _ (HO.out.get 0 rfl) Try.underlying24 rfl (by kernel_rfl) ?_) | ((with_reducible refine gate_dst (N := 20) rfl ?_); refine wpList_load_row rfl 24 (.tmp 1) rfl _ rfl 24 _ (0, 0) _ (HO.out.get 0 rfl) Try.underlying24 rfl (by kernel_rfl) ?_) | ((with_reducible refine gate_dst (N := 25) rfl ?_); refine wpList_load_row rfl 24 (.tmp 1) rfl _ rfl 24 _ (0, 0) _ (HO.out.get 0 rfl) Try.underlying24 rfl (by kernel_rfl) ?_) | ((with_reducible refine gate_dst (N := 28) rfl ?_); refine wpList_load_row rfl 27 (.tmp 6) rfl _ rfl 27 _ (0, 0) _ (HO.out.get 1 rfl) Try.underlying27 rfl (by kernel_rfl) ?_) | ((with_reducible refine gate_dst (N := 46) rfl ?_); refine wpList_load_row rfl 27 (.tmp 6) rfl _ rfl 27 _ (0, 0) _ (HO.out.get 1 rfl) Try.underlying27 rfl (by kernel_rfl) ?_) | ((with_reducible refine gate_dst (N := 74) rfl ?_); refine wpList_load_row rfl 24 (.tmp 1) rfl _ rfl 24 _ (0, 0) _ (HO.out.get 0 rfl) Try.underlying24 rfl (by kernel_rfl) ?_) | ((with_reducible refine gate_dst (N := 6) rfl ?_); refine H.own_box HO.out ?hg (N := 6) ?hd (cs := #[Value.slice none 0 0]) (t := 27) ?hr ?_; (case hd => rfl); (case hg => rfl); (case hr => first | (go_simp; done) | (go_simp; rfl)); intro gx0 w_ ho_ hb_; replace HW := Aside0.mk (Kd.R_below HW.out hb_); replace HLE := Aside0.mk (Nat.le_trans HLE.out hb_.size); replace HO := Aside0.mk ho_; clear ho_ hb_) | ((with_reducible refine gate_store (t := 27) (p := 6) rfl ?_); refine H.own_store HO.out 1 rfl rfl rfl rfl rfl (u := .agg #[Value.slice AXy0_0 y0_0.length cXy0_0]) (seg := [Value.slice AXy0_0 y0_0.length cXy0_0]) rfl rfl (by kernel_rfl) (by simp [Value.oneCell']) (by simp) (cs' := #[Value.slice AXy0_0 y0_0.length cXy0_0]) rfl ?_; intro w_ ho_ hg_; replace HW := Aside0.mk (HO.out.keep 1 rfl HW.out hg_ (by decide)); replace HLE := Aside0.mk (Nat.le_trans HLE.out hg_.size); replace HO := Aside0.mk ho_; clear ho_ hg_))
  obtain ⟨N1, hN1⟩ : ∃ N1, _ = N1 := ⟨w_.heap.size, rfl⟩
  have HN1 := Aside0.mk (show w.heap.size ≤ N1 by rw [← hN1]; exact HO.out.size)
  replace HW := Aside0.mk (Kd.R_mono (ok' := fun k_ => w.heap.size ≤ k_ ∧ k_ < N1) (H.R_upto (Kd.R_lower HW.out HWB.out)) (fun k_ hk_ => by rw [← hN1]; exact hk_))
  clear HWB
  refine (laws_toGraph.calls k _ _ l0_0 y0_0 _ (Kd.C_below HR0_0.out HO.out.below) HC0_0.out HTO0.out).mono ?_
  rintro e w_ ⟨vXy0_0, rfl, hXy0_0, hb⟩
  obtain ⟨AXy0_0, cXy0_0, rfl⟩ := Kd.S_slice hXy0_0
  have HXy0_0 := Aside0.mk (H.S_upto (Kd.S_lower hXy0_0 (show N1 ≤ _ from by rw [← hN1]; exact Nat.le_refl _)))
  replace HO := Aside0.mk (HO.out.step hb)
  replace HW := Aside0.mk (Kd.R_below HW.out hb);
  have HLE := Aside0.mk (show N1 ≤ _ from Nat.le_trans (Nat.le_of_eq hN1.symm) hb.size)
  clear hN1
  clear hb hXy0_0
  go_wp2_with (first | ((with_reducible refine gate_dst (N := 1) rfl ?_); refine H.own_box HO.out ?hg (N := 1) ?hd (cs := #[Value.slice A0_0 l0_0.length c0_0]) (t := 24) ?hr ?_; (case hd => rfl); (case hg => rfl); (case hr => first | (go_simp; done) | (go_simp; rfl)); intro gb0 w_ ho_ hb_; replace HO := Aside0.mk ho_; clear ho_ hb_) | ((with_reducible refine gate_dst (N := 14) rfl ?_); refine wpList_load_row rfl 24 (.tmp 1) rfl _ rfl 24 _ (0, 0) _ (HO.out.get 0 rfl) Try.underlying24 rfl (by kernel_rfl) ?_) | ((with_reducible refine gate_dst (N := 20) rfl ?_); refine wpList_load_row rfl 24 (.tmp 1) rfl _ rfl 24 _ (0, 0) _ (HO.out.get 0 rfl) Try.underlying24 rfl (by kernel_rfl) ?_) | ((with_reducible refine gate_dst (N := 25) rfl ?_); refine wpList_load_row rfl 24 (.tmp 1) rfl _ rfl 24 _ (0, 0) _ (HO.out.get 0 rfl) Try.underlying24 rfl (by kernel_rfl) ?_) | ((with_reducible refine gate_dst (N := 28) rfl ?_); refine wpList_load_row rfl 27 (.tmp 6) rfl _ rfl 27 _ (0, 0) _ (HO.out.get 1 rfl) Try.underlying27 rfl (by kernel_rfl) ?_) | ((with_reducible refine gate_dst (N := 46) rfl ?_); refine wpList_load_row rfl 27 (.tmp 6) rfl _ rfl 27 _ (0, 0) _ (HO.out.get 1 rfl) Try.underlying27 rfl (by kernel_rfl) ?_) | ((with_reducible refine gate_dst (N := 74) rfl ?_); refine wpList_load_row rfl 24 (.tmp 1) rfl _ rfl 24 _ (0, 0) _ (HO.out.get 0 rfl) Try.underlying24 rfl (by kernel_rfl) ?_) | ((with_reducible refine gate_dst (N := 6) rfl ?_); refine H.own_box HO.out ?hg (N := 6) ?hd (cs := #[Value.slice none 0 0]) (t := 27) ?hr ?_; (case hd => rfl); (case hg => rfl); (case hr => first | (go_simp; done) | (go_simp; rfl)); intro gx0 w_ ho_ hb_; replace HW := Aside0.mk (Kd.R_below HW.out hb_); replace HXy0_0 := Aside0.mk (Kd.S_below HXy0_0.out hb_); replace HLE := Aside0.mk (Nat.le_trans HLE.out hb_.size); replace HO := Aside0.mk ho_; clear ho_ hb_) | ((with_reducible refine gate_store (t := 27) (p := 6) rfl ?_); refine H.own_store HO.out 1 rfl rfl rfl rfl rfl (u := .agg #[Value.slice AXy0_0 y0_0.length cXy0_0]) (seg := [Value.slice AXy0_0 y0_0.length cXy0_0]) rfl rfl (by kernel_rfl) (by simp [Value.oneCell']) (by simp) (cs' := #[Value.slice AXy0_0 y0_0.length cXy0_0]) rfl ?_; intro w_ ho_ hg_; replace HW := Aside0.mk (HO.out.keep 1 rfl HW.out hg_ (by decide)); replace HXy0_0 := Aside0.mk (HO.out.keepS 1 rfl HXy0_0.out hg_ (by decide)); replace HLE := Aside0.mk (Nat.le_trans HLE.out hg_.size); replace HO := Aside0.mk ho_; clear ho_ hg_))
  obtain ⟨N2, hN2⟩ : ∃ N2, _ = N2 := ⟨w_.heap.size, rfl⟩
  replace HXy0_0 := Aside0.mk (Kd.S_mono (ok' := fun k_ => N1 ≤ k_ ∧ k_ < N2) (H.S_upto HXy0_0.out) (fun k_ hk_ => by rw [← hN2]; exact hk_))
  have HLT := Aside0.mk HO.out.lt
  rw [hN2] at HLT
  have HN2 := Aside0.mk (show w.heap.size ≤ N2 by rw [← hN2]; exact HO.out.size)
  have HN12 := Aside0.mk (show N1 ≤ N2 by rw [← hN2]; exact HLE.out)
  refine (impl_NearestOf.calls _ _ y0_0 s1 s2 _ (Kd.S_reads' HXy0_0.out).2.2 (Kd.S_reads' HXy0_0.out).2.1 HIMPL.out).mono ?_
  rintro e w_ ⟨vG, rfl, hs, hb⟩
  obtain ⟨AG, cG, rfl⟩ := Kd.R_slice hs
  replace HO := Aside0.mk (HO.out.step hb)
  replace HW := Aside0.mk (Kd.R_below HW.out hb)
  replace HXy0_0 := Aside0.mk (Kd.S_below HXy0_0.out hb);
  have HG := Aside0.mk (H.R_upto hs)
  rw [hN2] at HG
  obtain ⟨N3, hN3⟩ : ∃ N3, w_.heap.size = N3 := ⟨_, rfl⟩
  rw [hN3] at HG
  clear hs hb hN2 hN3
  go_wp2_with (first | ((with_reducible refine gate_dst (N := 1) rfl ?_); refine H.own_box HO.out ?hg (N := 1) ?hd (cs := #[Value.slice A0_0 l0_0.length c0_0]) (t := 24) ?hr ?_; (case hd => rfl); (case hg => rfl); (case hr => first | (go_simp; done) | (go_simp; rfl)); intro gb0 w_ ho_ hb_; replace HO := Aside0.mk ho_; clear ho_ hb_) | ((with_reducible refine gate_dst (N := 14) rfl ?_); refine wpList_load_row rfl 24 (.tmp 1) rfl _ rfl 24 _ (0, 0) _ (HO.out.get 0 rfl) Try.underlying24 rfl (by kernel_rfl) ?_) | ((with_reducible refine gate_dst (N := 20) rfl ?_); refine wpList_load_row rfl 24 (.tmp 1) rfl _ rfl 24 _ (0, 0) _ (HO.out.get 0 rfl) Try.underlying24 rfl (by kernel_rfl) ?_) | ((with_reducible refine gate_dst (N := 25) rfl ?_); refine wpList_load_row rfl 24 (.tmp 1) rfl _ rfl 24 _ (0, 0) _ (HO.out.get 0 rfl) Try.underlying24 rfl (by kernel_rfl) ?_) | ((with_reducible refine gate_dst (N := 28) rfl ?_); refine wpList_load_row rfl 27 (.tmp 6) rfl _ rfl 27 _ (0, 0) _ (HO.out.get 1 rfl) Try.underlying27 rfl (by kernel_rfl) ?_) | ((with_reducible refine gate_dst (N := 46) rfl ?_); refine wpList_load_row rfl 27 (.tmp 6) rfl _ rfl 27 _ (0, 0) _ (HO.out.get 1 rfl) Try.underlying27 rfl (by kernel_rfl) ?_) | ((with_reducible refine gate_dst (N := 74) rfl ?_); refine wpList_load_row rfl 24 (.tmp 1) rfl _ rfl 24 _ (0, 0) _ (HO.out.get 0 rfl) Try.underlying24 rfl (by kernel_rfl) ?_))
  refine (laws_eqIntS.calls k _ _ s1 _ _ s1 true _ (Kd.R_reads' HG.out).2.2 (Kd.R_reads' HG.out).2.1 (Kd.R_reads' HW.out).2.2 (Kd.R_reads' HW.out).2.1 HEQR.out).mono ?_
  rintro e w_ ⟨rfl, hd⟩
  replace HO := Aside0.mk (HO.out.step hd.below)
  replace HW := Aside0.mk (Kd.R_below HW.out hd.below)
  replace HXy0_0 := Aside0.mk (Kd.S_below HXy0_0.out hd.below)
  replace HG := Aside0.mk (Kd.R_below HG.out hd.below);
  clear hd
  go_wp2_with (first | ((with_reducible refine gate_dst (N := 1) rfl ?_); refine H.own_box HO.out ?hg (N := 1) ?hd (cs := #[Value.slice A0_0 l0_0.length c0_0]) (t := 24) ?hr ?_; (case hd => rfl); (case hg => rfl); (case hr => first | (go_simp; done) | (go_simp; rfl)); intro gb0 w_ ho_ hb_; replace HO := Aside0.mk ho_; clear ho_ hb_) | ((with_reducible refine gate_dst (N := 14) rfl ?_); refine wpList_load_row rfl 24 (.tmp 1) rfl _ rfl 24 _ (0, 0) _ (HO.out.get 0 rfl) Try.underlying24 rfl (by kernel_rfl) ?_) | ((with_reducible refine gate_dst (N := 20) rfl ?_); refine wpList_load_row rfl 24 (.tmp 1) rfl _ rfl 24 _ (0, 0) _ (HO.out.get 0 rfl) Try.underlying24 rfl (by kernel_rfl) ?_) | ((with_reducible refine gate_dst (N := 25) rfl ?_); refine wpList_load_row rfl 24 (.tmp 1) rfl _ rfl 24 _ (0, 0) _ (HO.out.get 0 rfl) Try.underlying24 rfl (by kernel_rfl) ?_) | ((with_reducible refine gate_dst (N := 28) rfl ?_); refine wpList_load_row rfl 27 (.tmp 6) rfl _ rfl 27 _ (0, 0) _ (HO.out.get 1 rfl) Try.underlying27 rfl (by kernel_rfl) ?_) | ((with_reducible refine gate_dst (N := 46) rfl ?_); refine wpList_load_row rfl 27 (.tmp 6) rfl _ rfl 27 _ (0, 0) _ (HO.out.get 1 rfl) Try.underlying27 rfl (by kernel_rfl) ?_) | ((with_reducible refine gate_dst (N := 74) rfl ?_); refine wpList_load_row rfl 24 (.tmp 1) rfl _ rfl 24 _ (0, 0) _ (HO.out.get 0 rfl) Try.underlying24 rfl (by kernel_rfl) ?_))
  replace HO := Aside0.mk HO.out.drew
  replace HW := Aside0.mk (Kd.R_drew HW.out)
  replace HXy0_0 := Aside0.mk (Kd.S_drew HXy0_0.out)
  replace HG := Aside0.mk (Kd.R_drew HG.out)
  refine start_ (n := 5) (S := fun w' => w'.rangeAt gx0 0 [Value.slice AXy0_0 y0_0.length cXy0_0] ∧ w'.rangeAt gb0 0 [Value.slice A0_0 l0_0.length c0_0]) (ds := []) #[false, false, false, false, false] (by kernel_rfl) rfl rfl ⟨(HO.out.range 1 rfl), (HO.out.range 0 rfl)⟩ (fun hHeld => ?_)
  refine take_ (i := 0) (N := some 41) (v := .agg #[Value.slice AXy0_0 y0_0.length cXy0_0]) (a' := ?_) #[true, false, false, false, false] rfl rfl (by kernel_rfl) (fun _ _ _ h => h) (yieldsIf_load_mid (by rfl) 27 (.tmp 6) rfl gx0 0 rfl [Value.slice AXy0_0 y0_0.length cXy0_0] _ (fun W h => h.1) Try.underlying27 rfl (by kernel_rfl)) hHeld ?_ ?_
  rotate_left
  · simp only [Act.put, List.setIfInBounds_toArray, List.set_cons_zero, List.set_cons_succ, i64_w, i32_w]
    rfl
  refine take_ (i := 1) (N := some 42) (v := .agg #[Value.slice A0_0 l0_0.length c0_0]) (a' := ?_) #[true, true, false, false, false] rfl rfl (by kernel_rfl) (fun _ _ _ h => h) (yieldsIf_load_mid (by rfl) 24 (.tmp 1) rfl gb0 0 rfl [Value.slice A0_0 l0_0.length c0_0] _ (fun W h => h.2) Try.underlying24 rfl (by kernel_rfl)) hHeld ?_ ?_
  rotate_left
  · simp only [Act.put, List.setIfInBounds_toArray, List.set_cons_zero, List.set_cons_succ, i64_w, i32_w]
    rfl
  refine one_ (i := 2) (N := some 43) #[true, true, true, false, false] rfl rfl (by kernel_rfl) (by decide) (fun K hK => ?_)
  refine goes_ Try.func17 (by kernel_rfl) rfl #[.agg #[.slice A0_0 l0_0.length c0_0]] (by rfl) rfl rfl (by simp only [List.map_toArray, List.map_cons, List.map_nil]; rfl) ?_
  with_reducible refine (laws_toGraph.calls k _ _ l0_0 y0_0 _ (Kd.C_below HR0_0.out HO.out.below) HC0_0.out HTO0.out).mono ?_
  rintro e w_ ⟨vEy0_0, rfl, hEy0_0, hb⟩
  refine ⟨_, rfl, ?_⟩
  obtain ⟨AEy0_0, cEy0_0, rfl⟩ := Kd.S_slice hEy0_0
  replace HO := Aside0.mk (HO.out.step hb)
  replace HW := Aside0.mk (Kd.R_below HW.out hb)
  replace HXy0_0 := Aside0.mk (Kd.S_below HXy0_0.out hb)
  replace HG := Aside0.mk (Kd.R_below HG.out hb);
  have HEy0_0 := Aside0.mk hEy0_0
  clear hb hEy0_0
  refine hK.out _ _ ⟨(HO.out.range 1 rfl), (HO.out.range 0 rfl)⟩ (fun hHeld => ?_)
  clear hK K
  refine norm_ (a' := ?_) ?_ ?_
  rotate_left
  · show Act.put _ (some 43) _ = _
    simp only [Act.put, List.setIfInBounds_toArray, List.set_cons_zero, List.set_cons_succ, i64_w, i32_w]
    rfl
  refine one_ (i := 3) (N := some 44) #[true, true, true, true, false] rfl rfl (by kernel_rfl) (by decide) (fun K hK => ?_)
  refine goes_ Try.func19 (by kernel_rfl) rfl #[.agg #[Value.slice AXy0_0 y0_0.length cXy0_0], .agg #[Value.slice AEy0_0 y0_0.length cEy0_0]] (by rfl) rfl rfl (by simp only [List.map_toArray, List.map_cons, List.map_nil]; rfl) ?_
  with_reducible refine (laws_eqGraph.calls k _ _ y0_0 _ _ y0_0 true _ (Kd.S_reads' HXy0_0.out).2.2 (Kd.S_reads' HXy0_0.out).2.1 (Kd.S_reads' HEy0_0.out).2.2 (Kd.S_reads' HEy0_0.out).2.1 HEQ0.out).mono ?_
  rintro e w_ ⟨rfl, hb⟩
  refine ⟨_, rfl, ?_⟩
  replace HO := Aside0.mk (HO.out.step hb)
  replace HW := Aside0.mk (Kd.R_below HW.out hb)
  replace HXy0_0 := Aside0.mk (Kd.S_below HXy0_0.out hb)
  replace HG := Aside0.mk (Kd.R_below HG.out hb);
  clear hb
  refine hK.out _ _ ⟨(HO.out.range 1 rfl), (HO.out.range 0 rfl)⟩ (fun hHeld => ?_)
  clear hK K
  refine norm_ (a' := ?_) ?_ ?_
  rotate_left
  · show Act.put _ (some 44) _ = _
    simp only [Act.put, List.setIfInBounds_toArray, List.set_cons_zero, List.set_cons_succ, i64_w, i32_w]
    rfl
  refine pure_ (i := 4) (N := some 45) (v := ?_) (a' := ?_) #[true, true, true, true, true] rfl rfl (by kernel_rfl) (fun _ _ _ h => h) (Or.inl ⟨by rfl, ?_⟩) ?_ ?_
  rotate_left
  · intro w'
    go_simp
    with_reducible rfl
  rotate_left
  · simp only [Act.put, List.setIfInBounds_toArray, List.set_cons_zero, List.set_cons_succ, i64_w, i32_w]
    rfl
  refine done_ (by kernel_rfl) ?_
  clear HEy0_0
  go_wp2_with (first | ((with_reducible refine gate_dst (N := 1) rfl ?_); refine H.own_box HO.out ?hg (N := 1) ?hd (cs := #[Value.slice A0_0 l0_0.length c0_0]) (t := 24) ?hr ?_; (case hd => rfl); (case hg => rfl); (case hr => first | (go_simp; done) | (go_simp; rfl)); intro gb0 w_ ho_ hb_; replace HO := Aside0.mk ho_; clear ho_ hb_) | ((with_reducible refine gate_dst (N := 14) rfl ?_); refine wpList_load_row rfl 24 (.tmp 1) rfl _ rfl 24 _ (0, 0) _ (HO.out.get 0 rfl) Try.underlying24 rfl (by kernel_rfl) ?_) | ((with_reducible refine gate_dst (N := 20) rfl ?_); refine wpList_load_row rfl 24 (.tmp 1) rfl _ rfl 24 _ (0, 0) _ (HO.out.get 0 rfl) Try.underlying24 rfl (by kernel_rfl) ?_) | ((with_reducible refine gate_dst (N := 25) rfl ?_); refine wpList_load_row rfl 24 (.tmp 1) rfl _ rfl 24 _ (0, 0) _ (HO.out.get 0 rfl) Try.underlying24 rfl (by kernel_rfl) ?_) | ((with_reducible refine gate_dst (N := 28) rfl ?_); refine wpList_load_row rfl 27 (.tmp 6) rfl _ rfl 27 _ (0, 0) _ (HO.out.get 1 rfl) Try.underlying27 rfl (by kernel_rfl) ?_) | ((with_reducible refine gate_dst (N := 46) rfl ?_); refine wpList_load_row rfl 27 (.tmp 6) rfl _ rfl 27 _ (0, 0) _ (HO.out.get 1 rfl) Try.underlying27 rfl (by kernel_rfl) ?_) | ((with_reducible refine gate_dst (N := 74) rfl ?_); refine wpList_load_row rfl 24 (.tmp 1) rfl _ rfl 24 _ (0, 0) _ (HO.out.get 0 rfl) Try.underlying24 rfl (by kernel_rfl) ?_))
  have hm0 : (0 : Int) ≤ 1 := by decide
  have HB := Aside0.mk HB0.out
  obtain ⟨M1, hM1⟩ : ∃ M1 : Int, 1 + (H.total y0_0 : Int) = M1 := ⟨_, rfl⟩
  have hmb1 : M1 ≤ 4611686018427387904 := by have := HB.out; omega
  have hm1 : 0 ≤ M1 := by omega
  refine (laws_markGraph.tame N1 N2 _ y0_0.length _ 1 _ (H.Rooms.of_S HXy0_0.out (Nat.le_refl _) (fun k_ hk_ _ => hk_.2)) hm0 (by rw [H.sum_total _ _ (Nat.le_refl _), List.take_length]; omega) (by omega)).mono ?_
  rintro e w_ ⟨he, ht⟩
  rw [H.sum_total _ _ (Nat.le_refl _), List.take_length, hM1] at he
  subst he
  replace HO := Aside0.mk (HO.out.tame ht HN1.out (by simp))
  replace HW := Aside0.mk (H.R_tame HW.out ht (.inl (Nat.le_refl _)))
  clear HXy0_0
  replace HG := Aside0.mk (H.R_tame HG.out ht (.inr (Nat.le_refl _)))
  clear ht hM1
  go_wp2_with (first | ((with_reducible refine gate_dst (N := 1) rfl ?_); refine H.own_box HO.out ?hg (N := 1) ?hd (cs := #[Value.slice A0_0 l0_0.length c0_0]) (t := 24) ?hr ?_; (case hd => rfl); (case hg => rfl); (case hr => first | (go_simp; done) | (go_simp; rfl)); intro gb0 w_ ho_ hb_; replace HO := Aside0.mk ho_; clear ho_ hb_) | ((with_reducible refine gate_dst (N := 14) rfl ?_); refine wpList_load_row rfl 24 (.tmp 1) rfl _ rfl 24 _ (0, 0) _ (HO.out.get 0 rfl) Try.underlying24 rfl (by kernel_rfl) ?_) | ((with_reducible refine gate_dst (N := 20) rfl ?_); refine wpList_load_row rfl 24 (.tmp 1) rfl _ rfl 24 _ (0, 0) _ (HO.out.get 0 rfl) Try.underlying24 rfl (by kernel_rfl) ?_) | ((with_reducible refine gate_dst (N := 25) rfl ?_); refine wpList_load_row rfl 24 (.tmp 1) rfl _ rfl 24 _ (0, 0) _ (HO.out.get 0 rfl) Try.underlying24 rfl (by kernel_rfl) ?_) | ((with_reducible refine gate_dst (N := 28) rfl ?_); refine wpList_load_row rfl 27 (.tmp 6) rfl _ rfl 27 _ (0, 0) _ (HO.out.get 1 rfl) Try.underlying27 rfl (by kernel_rfl) ?_) | ((with_reducible refine gate_dst (N := 46) rfl ?_); refine wpList_load_row rfl 27 (.tmp 6) rfl _ rfl 27 _ (0, 0) _ (HO.out.get 1 rfl) Try.underlying27 rfl (by kernel_rfl) ?_) | ((with_reducible refine gate_dst (N := 74) rfl ?_); refine wpList_load_row rfl 24 (.tmp 1) rfl _ rfl 24 _ (0, 0) _ (HO.out.get 0 rfl) Try.underlying24 rfl (by kernel_rfl) ?_))
  refine (laws_eqIntS.calls k _ _ s1 _ _ s1 true _ (Kd.R_reads' HG.out).2.2 (Kd.R_reads' HG.out).2.1 (Kd.R_reads' HW.out).2.2 (Kd.R_reads' HW.out).2.1 HEQR.out).mono ?_
  rintro e w_ ⟨rfl, hd⟩
  replace HO := Aside0.mk (HO.out.step hd.below)
  replace HW := Aside0.mk (Kd.R_below HW.out hd.below)
  replace HG := Aside0.mk (Kd.R_below HG.out hd.below);
  clear hd
  go_wp2_with (first | ((with_reducible refine gate_dst (N := 1) rfl ?_); refine H.own_box HO.out ?hg (N := 1) ?hd (cs := #[Value.slice A0_0 l0_0.length c0_0]) (t := 24) ?hr ?_; (case hd => rfl); (case hg => rfl); (case hr => first | (go_simp; done) | (go_simp; rfl)); intro gb0 w_ ho_ hb_; replace HO := Aside0.mk ho_; clear ho_ hb_) | ((with_reducible refine gate_dst (N := 14) rfl ?_); refine wpList_load_row rfl 24 (.tmp 1) rfl _ rfl 24 _ (0, 0) _ (HO.out.get 0 rfl) Try.underlying24 rfl (by kernel_rfl) ?_) | ((with_reducible refine gate_dst (N := 20) rfl ?_); refine wpList_load_row rfl 24 (.tmp 1) rfl _ rfl 24 _ (0, 0) _ (HO.out.get 0 rfl) Try.underlying24 rfl (by kernel_rfl) ?_) | ((with_reducible refine gate_dst (N := 25) rfl ?_); refine wpList_load_row rfl 24 (.tmp 1) rfl _ rfl 24 _ (0, 0) _ (HO.out.get 0 rfl) Try.underlying24 rfl (by kernel_rfl) ?_) | ((with_reducible refine gate_dst (N := 28) rfl ?_); refine wpList_load_row rfl 27 (.tmp 6) rfl _ rfl 27 _ (0, 0) _ (HO.out.get 1 rfl) Try.underlying27 rfl (by kernel_rfl) ?_) | ((with_reducible refine gate_dst (N := 46) rfl ?_); refine wpList_load_row rfl 27 (.tmp 6) rfl _ rfl 27 _ (0, 0) _ (HO.out.get 1 rfl) Try.underlying27 rfl (by kernel_rfl) ?_) | ((with_reducible refine gate_dst (N := 74) rfl ?_); refine wpList_load_row rfl 24 (.tmp 1) rfl _ rfl 24 _ (0, 0) _ (HO.out.get 0 rfl) Try.underlying24 rfl (by kernel_rfl) ?_))
  refine (laws_markIntS.calls k (fun k_ => N2 ≤ k_ ∧ k_ < N3) _ s1 1 _ _ w _ HO.out.below (Kd.R_lower HG.out HN2.out) HMKI.out).mono ?_
  rintro e w_ ⟨he, hs, hb, hk⟩
  rw [HK2.out] at he
  subst he
  replace HO := Aside0.mk (HO.out.kept hk hb (fun x hx hp => by have := HLT.out x hx; omega))
  replace HW := Aside0.mk (H.R_kept2 HW.out hk (.inl HN12.out))
  replace HG := Aside0.mk hs
  clear hs hb hk
  have HG' : Aside0 (∀ W (ok : Nat → Prop), (Kd.int .i64).R 3 W w.heap.size ok (.slice AG s1.length cG) (H.markI s1 1) → (Kd.int .i64).C W AG (H.markI s1 1).length (H.markI s1 1) ∧ (H.markI s1 1).length ≤ cG) := ⟨fun W ok h => by have h2 := Kd.R_reads' h; exact ⟨h2.2.2, by rw [← h2.1]; exact h2.2.1⟩⟩
  go_wp2_with (first | ((with_reducible refine gate_dst (N := 1) rfl ?_); refine H.own_box HO.out ?hg (N := 1) ?hd (cs := #[Value.slice A0_0 l0_0.length c0_0]) (t := 24) ?hr ?_; (case hd => rfl); (case hg => rfl); (case hr => first | (go_simp; done) | (go_simp; rfl)); intro gb0 w_ ho_ hb_; replace HO := Aside0.mk ho_; clear ho_ hb_) | ((with_reducible refine gate_dst (N := 14) rfl ?_); refine wpList_load_row rfl 24 (.tmp 1) rfl _ rfl 24 _ (0, 0) _ (HO.out.get 0 rfl) Try.underlying24 rfl (by kernel_rfl) ?_) | ((with_reducible refine gate_dst (N := 20) rfl ?_); refine wpList_load_row rfl 24 (.tmp 1) rfl _ rfl 24 _ (0, 0) _ (HO.out.get 0 rfl) Try.underlying24 rfl (by kernel_rfl) ?_) | ((with_reducible refine gate_dst (N := 25) rfl ?_); refine wpList_load_row rfl 24 (.tmp 1) rfl _ rfl 24 _ (0, 0) _ (HO.out.get 0 rfl) Try.underlying24 rfl (by kernel_rfl) ?_) | ((with_reducible refine gate_dst (N := 28) rfl ?_); refine wpList_load_row rfl 27 (.tmp 6) rfl _ rfl 27 _ (0, 0) _ (HO.out.get 1 rfl) Try.underlying27 rfl (by kernel_rfl) ?_) | ((with_reducible refine gate_dst (N := 46) rfl ?_); refine wpList_load_row rfl 27 (.tmp 6) rfl _ rfl 27 _ (0, 0) _ (HO.out.get 1 rfl) Try.underlying27 rfl (by kernel_rfl) ?_) | ((with_reducible refine gate_dst (N := 74) rfl ?_); refine wpList_load_row rfl 24 (.tmp 1) rfl _ rfl 24 _ (0, 0) _ (HO.out.get 0 rfl) Try.underlying24 rfl (by kernel_rfl) ?_))
  refine (calls_of_args (by rw [H.markI_len]) (laws_heldIntS.calls k AG cG (H.markI s1 1) 1 _ _ (HG'.out _ _ HG.out).1 (HG'.out _ _ HG.out).2 HHELD.out)).mono ?_
  rintro e w_ ⟨he, hd⟩
  rw [HK2.out] at he
  subst he
  replace HO := Aside0.mk (HO.out.step hd.below)
  replace HW := Aside0.mk (Kd.R_below HW.out hd.below)
  replace HG := Aside0.mk (Kd.R_below HG.out hd.below);
  clear hd
  go_wp2_with (first | ((with_reducible refine gate_dst (N := 1) rfl ?_); refine H.own_box HO.out ?hg (N := 1) ?hd (cs := #[Value.slice A0_0 l0_0.length c0_0]) (t := 24) ?hr ?_; (case hd => rfl); (case hg => rfl); (case hr => first | (go_simp; done) | (go_simp; rfl)); intro gb0 w_ ho_ hb_; replace HO := Aside0.mk ho_; clear ho_ hb_) | ((with_reducible refine gate_dst (N := 14) rfl ?_); refine wpList_load_row rfl 24 (.tmp 1) rfl _ rfl 24 _ (0, 0) _ (HO.out.get 0 rfl) Try.underlying24 rfl (by kernel_rfl) ?_) | ((with_reducible refine gate_dst (N := 20) rfl ?_); refine wpList_load_row rfl 24 (.tmp 1) rfl _ rfl 24 _ (0, 0) _ (HO.out.get 0 rfl) Try.underlying24 rfl (by kernel_rfl) ?_) | ((with_reducible refine gate_dst (N := 25) rfl ?_); refine wpList_load_row rfl 24 (.tmp 1) rfl _ rfl 24 _ (0, 0) _ (HO.out.get 0 rfl) Try.underlying24 rfl (by kernel_rfl) ?_) | ((with_reducible refine gate_dst (N := 28) rfl ?_); refine wpList_load_row rfl 27 (.tmp 6) rfl _ rfl 27 _ (0, 0) _ (HO.out.get 1 rfl) Try.underlying27 rfl (by kernel_rfl) ?_) | ((with_reducible refine gate_dst (N := 46) rfl ?_); refine wpList_load_row rfl 27 (.tmp 6) rfl _ rfl 27 _ (0, 0) _ (HO.out.get 1 rfl) Try.underlying27 rfl (by kernel_rfl) ?_) | ((with_reducible refine gate_dst (N := 74) rfl ?_); refine wpList_load_row rfl 24 (.tmp 1) rfl _ rfl 24 _ (0, 0) _ (HO.out.get 0 rfl) Try.underlying24 rfl (by kernel_rfl) ?_))
  refine (laws_toGraph.calls k _ _ l0_0 y0_0 _ (Kd.C_below HR0_0.out HO.out.below) HC0_0.out HTO0.out).mono ?_
  rintro e w_ ⟨vVy0_0, rfl, hVy0_0, hb⟩
  obtain ⟨AVy0_0, cVy0_0, rfl⟩ := Kd.S_slice hVy0_0
  replace HO := Aside0.mk (HO.out.step hb)
  replace HW := Aside0.mk (Kd.R_below HW.out hb)
  replace HG := Aside0.mk (Kd.R_below HG.out hb);
  have HVy0_0 := Aside0.mk (H.S_upto hVy0_0)
  clear hb hVy0_0
  go_wp2_with (first | ((with_reducible refine gate_dst (N := 1) rfl ?_); refine H.own_box HO.out ?hg (N := 1) ?hd (cs := #[Value.slice A0_0 l0_0.length c0_0]) (t := 24) ?hr ?_; (case hd => rfl); (case hg => rfl); (case hr => first | (go_simp; done) | (go_simp; rfl)); intro gb0 w_ ho_ hb_; replace HO := Aside0.mk ho_; clear ho_ hb_) | ((with_reducible refine gate_dst (N := 14) rfl ?_); refine wpList_load_row rfl 24 (.tmp 1) rfl _ rfl 24 _ (0, 0) _ (HO.out.get 0 rfl) Try.underlying24 rfl (by kernel_rfl) ?_) | ((with_reducible refine gate_dst (N := 20) rfl ?_); refine wpList_load_row rfl 24 (.tmp 1) rfl _ rfl 24 _ (0, 0) _ (HO.out.get 0 rfl) Try.underlying24 rfl (by kernel_rfl) ?_) | ((with_reducible refine gate_dst (N := 25) rfl ?_); refine wpList_load_row rfl 24 (.tmp 1) rfl _ rfl 24 _ (0, 0) _ (HO.out.get 0 rfl) Try.underlying24 rfl (by kernel_rfl) ?_) | ((with_reducible refine gate_dst (N := 28) rfl ?_); refine wpList_load_row rfl 27 (.tmp 6) rfl _ rfl 27 _ (0, 0) _ (HO.out.get 1 rfl) Try.underlying27 rfl (by kernel_rfl) ?_) | ((with_reducible refine gate_dst (N := 46) rfl ?_); refine wpList_load_row rfl 27 (.tmp 6) rfl _ rfl 27 _ (0, 0) _ (HO.out.get 1 rfl) Try.underlying27 rfl (by kernel_rfl) ?_) | ((with_reducible refine gate_dst (N := 74) rfl ?_); refine wpList_load_row rfl 24 (.tmp 1) rfl _ rfl 24 _ (0, 0) _ (HO.out.get 0 rfl) Try.underlying24 rfl (by kernel_rfl) ?_))
  refine (impl_NearestOf.calls _ _ y0_0 s1 s2 _ (Kd.S_reads' HVy0_0.out).2.2 (Kd.S_reads' HVy0_0.out).2.1 HIMPL.out).mono ?_
  rintro e w_ ⟨vH, rfl, hs, hb⟩
  obtain ⟨AH, cH, rfl⟩ := Kd.R_slice hs
  replace HO := Aside0.mk (HO.out.step hb)
  replace HW := Aside0.mk (Kd.R_below HW.out hb)
  replace HG := Aside0.mk (Kd.R_below HG.out hb)
  replace HVy0_0 := Aside0.mk (Kd.S_below HVy0_0.out hb);
  have HH := Aside0.mk hs
  clear hs hb
  clear HVy0_0
  go_wp2_with (first | ((with_reducible refine gate_dst (N := 1) rfl ?_); refine H.own_box HO.out ?hg (N := 1) ?hd (cs := #[Value.slice A0_0 l0_0.length c0_0]) (t := 24) ?hr ?_; (case hd => rfl); (case hg => rfl); (case hr => first | (go_simp; done) | (go_simp; rfl)); intro gb0 w_ ho_ hb_; replace HO := Aside0.mk ho_; clear ho_ hb_) | ((with_reducible refine gate_dst (N := 14) rfl ?_); refine wpList_load_row rfl 24 (.tmp 1) rfl _ rfl 24 _ (0, 0) _ (HO.out.get 0 rfl) Try.underlying24 rfl (by kernel_rfl) ?_) | ((with_reducible refine gate_dst (N := 20) rfl ?_); refine wpList_load_row rfl 24 (.tmp 1) rfl _ rfl 24 _ (0, 0) _ (HO.out.get 0 rfl) Try.underlying24 rfl (by kernel_rfl) ?_) | ((with_reducible refine gate_dst (N := 25) rfl ?_); refine wpList_load_row rfl 24 (.tmp 1) rfl _ rfl 24 _ (0, 0) _ (HO.out.get 0 rfl) Try.underlying24 rfl (by kernel_rfl) ?_) | ((with_reducible refine gate_dst (N := 28) rfl ?_); refine wpList_load_row rfl 27 (.tmp 6) rfl _ rfl 27 _ (0, 0) _ (HO.out.get 1 rfl) Try.underlying27 rfl (by kernel_rfl) ?_) | ((with_reducible refine gate_dst (N := 46) rfl ?_); refine wpList_load_row rfl 27 (.tmp 6) rfl _ rfl 27 _ (0, 0) _ (HO.out.get 1 rfl) Try.underlying27 rfl (by kernel_rfl) ?_) | ((with_reducible refine gate_dst (N := 74) rfl ?_); refine wpList_load_row rfl 24 (.tmp 1) rfl _ rfl 24 _ (0, 0) _ (HO.out.get 0 rfl) Try.underlying24 rfl (by kernel_rfl) ?_))
  refine (laws_eqIntS.calls k _ _ s1 _ _ s1 true _ (Kd.R_reads' HH.out).2.2 (Kd.R_reads' HH.out).2.1 (Kd.R_reads' HW.out).2.2 (Kd.R_reads' HW.out).2.1 HEQR.out).mono ?_
  rintro e w_ ⟨rfl, hd⟩
  replace HO := Aside0.mk (HO.out.step hd.below)
  replace HW := Aside0.mk (Kd.R_below HW.out hd.below)
  replace HG := Aside0.mk (Kd.R_below HG.out hd.below)
  replace HH := Aside0.mk (Kd.R_below HH.out hd.below);
  clear hd
  go_wp2_with (first | ((with_reducible refine gate_dst (N := 1) rfl ?_); refine H.own_box HO.out ?hg (N := 1) ?hd (cs := #[Value.slice A0_0 l0_0.length c0_0]) (t := 24) ?hr ?_; (case hd => rfl); (case hg => rfl); (case hr => first | (go_simp; done) | (go_simp; rfl)); intro gb0 w_ ho_ hb_; replace HO := Aside0.mk ho_; clear ho_ hb_) | ((with_reducible refine gate_dst (N := 14) rfl ?_); refine wpList_load_row rfl 24 (.tmp 1) rfl _ rfl 24 _ (0, 0) _ (HO.out.get 0 rfl) Try.underlying24 rfl (by kernel_rfl) ?_) | ((with_reducible refine gate_dst (N := 20) rfl ?_); refine wpList_load_row rfl 24 (.tmp 1) rfl _ rfl 24 _ (0, 0) _ (HO.out.get 0 rfl) Try.underlying24 rfl (by kernel_rfl) ?_) | ((with_reducible refine gate_dst (N := 25) rfl ?_); refine wpList_load_row rfl 24 (.tmp 1) rfl _ rfl 24 _ (0, 0) _ (HO.out.get 0 rfl) Try.underlying24 rfl (by kernel_rfl) ?_) | ((with_reducible refine gate_dst (N := 28) rfl ?_); refine wpList_load_row rfl 27 (.tmp 6) rfl _ rfl 27 _ (0, 0) _ (HO.out.get 1 rfl) Try.underlying27 rfl (by kernel_rfl) ?_) | ((with_reducible refine gate_dst (N := 46) rfl ?_); refine wpList_load_row rfl 27 (.tmp 6) rfl _ rfl 27 _ (0, 0) _ (HO.out.get 1 rfl) Try.underlying27 rfl (by kernel_rfl) ?_) | ((with_reducible refine gate_dst (N := 74) rfl ?_); refine wpList_load_row rfl 24 (.tmp 1) rfl _ rfl 24 _ (0, 0) _ (HO.out.get 0 rfl) Try.underlying24 rfl (by kernel_rfl) ?_))
  refine (calls_of_args (by rw [H.markI_len]) (laws_heldIntS.calls k AG cG (H.markI s1 1) 1 _ _ (HG'.out _ _ HG.out).1 (HG'.out _ _ HG.out).2 HHELD.out)).mono ?_
  rintro e w_ ⟨he, hd⟩
  rw [HK2.out] at he
  subst he
  replace HO := Aside0.mk (HO.out.step hd.below)
  replace HW := Aside0.mk (Kd.R_below HW.out hd.below)
  replace HG := Aside0.mk (Kd.R_below HG.out hd.below)
  replace HH := Aside0.mk (Kd.R_below HH.out hd.below);
  clear hd
  go_wp2_with (first | ((with_reducible refine gate_dst (N := 1) rfl ?_); refine H.own_box HO.out ?hg (N := 1) ?hd (cs := #[Value.slice A0_0 l0_0.length c0_0]) (t := 24) ?hr ?_; (case hd => rfl); (case hg => rfl); (case hr => first | (go_simp; done) | (go_simp; rfl)); intro gb0 w_ ho_ hb_; replace HO := Aside0.mk ho_; clear ho_ hb_) | ((with_reducible refine gate_dst (N := 14) rfl ?_); refine wpList_load_row rfl 24 (.tmp 1) rfl _ rfl 24 _ (0, 0) _ (HO.out.get 0 rfl) Try.underlying24 rfl (by kernel_rfl) ?_) | ((with_reducible refine gate_dst (N := 20) rfl ?_); refine wpList_load_row rfl 24 (.tmp 1) rfl _ rfl 24 _ (0, 0) _ (HO.out.get 0 rfl) Try.underlying24 rfl (by kernel_rfl) ?_) | ((with_reducible refine gate_dst (N := 25) rfl ?_); refine wpList_load_row rfl 24 (.tmp 1) rfl _ rfl 24 _ (0, 0) _ (HO.out.get 0 rfl) Try.underlying24 rfl (by kernel_rfl) ?_) | ((with_reducible refine gate_dst (N := 28) rfl ?_); refine wpList_load_row rfl 27 (.tmp 6) rfl _ rfl 27 _ (0, 0) _ (HO.out.get 1 rfl) Try.underlying27 rfl (by kernel_rfl) ?_) | ((with_reducible refine gate_dst (N := 46) rfl ?_); refine wpList_load_row rfl 27 (.tmp 6) rfl _ rfl 27 _ (0, 0) _ (HO.out.get 1 rfl) Try.underlying27 rfl (by kernel_rfl) ?_) | ((with_reducible refine gate_dst (N := 74) rfl ?_); refine wpList_load_row rfl 24 (.tmp 1) rfl _ rfl 24 _ (0, 0) _ (HO.out.get 0 rfl) Try.underlying24 rfl (by kernel_rfl) ?_))
  go_ret
  exact ⟨rfl, HO.out.below⟩
theorem laws_FnExactNearestOf.calls (k : Nat) (A0_0 : Option Addr) (c0_0 : Nat) (l0_0 : List (List Int)) (w : World) (hr0_0 : Kd.C (Kd.slice 3 (Kd.int .i64)) w A0_0 l0_0.length l0_0) (hc0_0 : l0_0.length ≤ c0_0) (h : laws_FnExactNearestOf.ok k l0_0) :
    Calls Try.prog 10 #[.agg #[.slice A0_0 l0_0.length c0_0]] w fun e w' => e = .returned (.bool true) ∧ Below w.heap.size w w' := by
  unfold laws_FnExactNearestOf.ok at h
  rcases h with h | h
  · exact laws_FnExactNearestOf.s0 k A0_0 c0_0 l0_0 w hr0_0 hc0_0 h
  · exact laws_FnExactNearestOf.whole k A0_0 c0_0 l0_0 w hr0_0 hc0_0 h
end Go.Proofs.Ytplcipjlkogadaa.P

namespace Go.Proofs.Ytplcipjlkogadaa.Q
open Go.RowKit Go.Proofs.Ytplcipjlkogadaa.P Go.Proofs.Ytplcipjlkogadaa.H Go.Proofs.YtplcipjlkogadaaW.PrintWords
theorem nearestOf_of (l0_0 : List (List Int)) (hl0 : Len (Len I64) l0_0) (core : Small l0_0 → ∃ (s1 : List Int) (s2 : Bool), Ev (fun k => spec_NearestOf.f k l0_0) (s1, s2) ∧ impl_NearestOf.f l0_0 = some (s1, s2) ∧ s1.length ≤ 1048576) : ∃ k, laws_FnExactNearestOf.ok k l0_0 := by
  unfold laws_FnExactNearestOf.ok
  obtain ⟨z0, ⟨Kz0, hz0⟩, hcase0⟩ := szGraph_ev l0_0 1048576 (by decide) (by decide) hl0
  rcases hcase0 with hneg0 | ⟨h00, h10', hs0⟩
  case inl =>
    exact ⟨Kz0, .inl (by unfold laws_FnExactNearestOf.skip0; exact ⟨z0, hz0 _ (by omega), hneg0⟩)⟩
  obtain ⟨s1, s2, ⟨Ksp, hsp⟩, him, hsm⟩ := core hs0
  obtain ⟨Keq, heq⟩ := eqIntS_ev s1 hsm
  obtain ⟨Khd, hhd⟩ := heldI_ev s1 1 (by decide) (by omega)
  obtain ⟨Kmk, hmk⟩ := markI_ev s1 1 (by decide) (by omega)
  obtain ⟨Kt0, ht0⟩ := toGraph_ev l0_0 hs0
  obtain ⟨Ke0, he0⟩ := eqGraph_ev l0_0 hs0
  have hty0 := total_small hs0
  have hln0 := hs0.1
  refine ⟨Kz0 + Ksp + Keq + Khd + Kmk + Kt0 + Ke0, .inr (?_)⟩
  unfold laws_FnExactNearestOf.good
  exact ⟨z0, l0_0, s1, s2, hz0 _ (by omega), h00, ht0 _ (by omega), hsp _ (by omega), him, heq _ (by omega), he0 _ (by omega), by omega, hhd _ (by omega), hmk _ (by omega), hln0, by omega⟩
end Go.Proofs.Ytplcipjlkogadaa.Q

namespace Go.Proofs.Ytplcipjlkogadaa.Q
open Go.RowKit Go.Proofs.Ytplcipjlkogadaa.P Go.Proofs.Ytplcipjlkogadaa.H Go.Proofs.YtplcipjlkogadaaW.PrintWords
theorem getD_memI {l : List Int} {m : Nat} (h : m < l.length) : l.getD m 0 ∈ l := by
  rw [List.getD_eq_getElem?_getD, List.getElem?_eq_getElem h]
  exact List.getElem_mem h
theorem drop_getD {l : List Int} {m : Nat} (h : m < l.length) : l.drop m = l.getD m 0 :: l.drop (m + 1) := by
  rw [List.drop_eq_getElem_cons h, List.getD_eq_getElem?_getD, List.getElem?_eq_getElem h]
  rfl
def nstep (dom : List (List Int)) (b best d : Int) : Int := if d = b then best else if best < 0 then d else if ((dom.getD d.toNat []).length : Int) > ((dom.getD best.toNat []).length : Int) then d else best
theorem near_inner {dom : List (List Int)} {acc : List Int} {b : Nat} {n : Int} {r : List Int} {l : List Int} (hacc : acc.length < 1048576) (hb : (b : Int) < 1048576) (hl : l.length ≤ 1048576) (hin : ∀ y ∈ l, 0 ≤ y ∧ y < (dom.length : Int)) :
    ∀ m, m ≤ l.length → ∀ best : Int, (best < 0 ∨ (0 ≤ best ∧ best < (dom.length : Int))) → Ev (fun k => spec_l10Nearest.l0 k dom (acc ++ [(l.drop m).foldl (nstep dom (b : Int)) best]) dom n ((b : Int) + 1)) r → Ev (fun k => spec_l10Nearest.l1 k dom acc (b : Int) best dom n (b : Int) l (l.length : Int) (m : Int)) r := by
  refine down (n := l.length) (p := fun m => ∀ best : Int, (best < 0 ∨ (0 ≤ best ∧ best < (dom.length : Int))) → Ev (fun k => spec_l10Nearest.l0 k dom (acc ++ [(l.drop m).foldl (nstep dom (b : Int)) best]) dom n ((b : Int) + 1)) r → Ev (fun k => spec_l10Nearest.l1 k dom acc (b : Int) best dom n (b : Int) l (l.length : Int) (m : Int)) r) ?h0 ?hs
  case h0 =>
    intro best _ h
    rw [List.drop_length, List.foldl_nil] at h
    refine Ev.step (fun k => ?_) h
    simp only [spec_l10Nearest.l1]
    rw [if_neg (by omega), if_pos (by omega), w64 (by omega) (by omega)]
  case hs =>
    intro m hm ih best hbest h
    have hx := hin _ (getD_memI hm)
    rw [drop_getD hm, List.foldl_cons] at h
    obtain ⟨d, hd⟩ : ∃ d, l.getD m 0 = d := ⟨_, rfl⟩
    have hrd : rd l (m : Int) = d := hd
    rw [hd] at hx h
    have hnb : nstep dom (b : Int) best d < 0 ∨ (0 ≤ nstep dom (b : Int) best d ∧ nstep dom (b : Int) best d < (dom.length : Int)) := by
      unfold nstep
      split
      · exact hbest
      · split
        · exact .inr hx
        · split
          · exact .inr hx
          · exact hbest
    refine Ev.step (fun k => ?_) (ih (nstep dom (b : Int) best d) hnb h)
    have e1 : rd_L1 dom d = dom.getD d.toNat [] := rfl
    have e2 : rd_L1 dom best = dom.getD best.toNat [] := rfl
    simp only [spec_l10Nearest.l1]
    rw [if_pos (by omega), if_pos (by omega), if_pos (by omega), hrd, w64 (show -9223372036854775808 ≤ (m : Int) + 1 by omega) (by omega)]
    unfold nstep
    by_cases c1 : d = (b : Int)
    · rw [if_pos c1, if_pos c1]; rfl
    · rw [if_neg c1, if_neg c1]
      by_cases c2 : best < 0
      · rw [if_pos c2, if_pos c2]; rfl
      · rw [if_neg c2, if_neg c2, if_pos hx.1, if_pos hx.2, if_pos (by omega), if_pos (by omega), e1, e2]
        by_cases c3 : ((dom.getD d.toNat []).length : Int) > ((dom.getD best.toNat []).length : Int)
        · rw [if_pos c3, if_pos c3]; rfl
        · rw [if_neg c3, if_neg c3]; rfl
section
variable {g : List (List Int)}
theorem domL_at {b : Nat} (hb : b < g.length) : (domL g).getD b [] = listTo ((domF g).getD b []) 12 := by
  have hbl : b < (domF g).length := by unfold domF; rw [matF_len]; exact hb
  unfold domL
  rw [List.getD_eq_getElem?_getD, List.getElem?_map, List.getD_eq_getElem?_getD, List.getElem?_eq_getElem hbl]
  rfl
theorem dom_self (hG : goodG g = true) {b : Nat} (hb : b < g.length) {y : Nat} (hy : (y : Int) ∈ (domL g).getD b []) : y < g.length ∧ 0 < (listTo ((domF g).getD y []) 12).length := by
  have hr := goodG_rows hG
  have hm := ((domL_rel hG).mem b hb _).1 hy
  have hyr := (listTo_reach hG _).1 hm.1
  have hyn := hyr.rng hG (by decide) (by have := hr.1.1; omega)
  have hyl : y < g.length := by omega
  refine ⟨hyl, ?_⟩
  have h2 : (y : Int) ∈ (domL g).getD y [] := ((domL_rel hG).mem y hyl _).2 ⟨hm.1, hm.1, fun h => ((listTo_reach hG _).1 h).ne rfl⟩
  rw [domL_at hyl] at h2
  exact List.length_pos_of_mem h2
theorem near_run (hG : goodG g = true) {b : Nat} (hb : b < g.length) : ∀ i, i ≤ 12 →
    (listTo ((domF g).getD b []) i).foldl (nstep (domL g) (b : Int)) (-1) = (nrTo (domF g) (((domF g).getD b []).set b false) i).1 ∧
    (((nrTo (domF g) (((domF g).getD b []).set b false) i).1 = -1 ∧ (nrTo (domF g) (((domF g).getD b []).set b false) i).2 = 0) ∨ (0 ≤ (nrTo (domF g) (((domF g).getD b []).set b false) i).1 ∧ (nrTo (domF g) (((domF g).getD b []).set b false) i).1.toNat < g.length ∧ (nrTo (domF g) (((domF g).getD b []).set b false) i).2 = (listTo ((domF g).getD (nrTo (domF g) (((domF g).getD b []).set b false) i).1.toNat []) 12).length)) := by
  intro i
  induction i with
  | zero => intro _; exact ⟨rfl, .inl ⟨rfl, rfl⟩⟩
  | succ i ih =>
    intro hi
    obtain ⟨h1, h2⟩ := ih (by omega)
    have hrl : ((domF g).getD b []).length = 12 := by
      unfold domF
      rw [matF_row hb, rowF_len]
    have hself : ∀ y : Nat, y < 12 → ((domF g).getD b []).getD y false = true → y < g.length ∧ 0 < (listTo ((domF g).getD y []) 12).length := fun y hy h => dom_self hG hb (by rw [domL_at hb, listTo_mem]; exact ⟨y, hy, rfl, h⟩)
    have hst : nrTo (domF g) (((domF g).getD b []).set b false) (i + 1) = if (((domF g).getD b []).set b false).getD i false && decide ((nrTo (domF g) (((domF g).getD b []).set b false) i).2 < (listTo ((domF g).getD i []) 12).length) then ((i : Int), (listTo ((domF g).getD i []) 12).length) else nrTo (domF g) (((domF g).getD b []).set b false) i := rfl
    have hset : (((domF g).getD b []).set b false).getD i false = if b = i then false else ((domF g).getD b []).getD i false := by
      by_cases e : b = i
      · subst e
        rw [if_pos rfl, List.getD_eq_getElem?_getD, List.getElem?_set_self (by omega)]
        rfl
      · rw [if_neg e]
        simp only [List.getD_eq_getElem?_getD, List.getElem?_set_ne e]
    rw [hset] at hst
    obtain ⟨st, hp⟩ : ∃ st, nrTo (domF g) (((domF g).getD b []).set b false) i = st := ⟨_, rfl⟩
    rw [hp] at h1 h2 hst
    rw [hst, listTo_step]
    cases hbit : ((domF g).getD b []).getD i false with
    | false =>
      rw [if_neg (by simp)]
      have : (if b = i then false else false) = false := by split <;> rfl
      rw [this, Bool.false_and, if_neg (by simp)]
      exact ⟨h1, h2⟩
    | true =>
      rw [if_pos rfl, List.foldl_append, List.foldl_cons, List.foldl_nil, h1]
      by_cases e : b = i
      · rw [if_pos e, Bool.false_and, if_neg (by simp)]
        refine ⟨?_, h2⟩
        unfold nstep
        rw [if_pos (by omega)]
      · obtain ⟨hig, hpos⟩ := hself i (by omega) hbit
        have hdi : (domL g).getD i [] = listTo ((domF g).getD i []) 12 := domL_at hig
        rw [if_neg e, Bool.true_and]
        unfold nstep
        rw [if_neg (by omega), Int.toNat_natCast, hdi]
        rcases h2 with ⟨a1, a2⟩ | ⟨a1, a2, a3⟩
        · rw [a1, a2, if_pos (by decide), decide_eq_true hpos, if_pos rfl]
          exact ⟨rfl, .inr ⟨by omega, by rw [Int.toNat_natCast]; exact hig, by rw [Int.toNat_natCast]⟩⟩
        · rw [if_neg (by omega), domL_at a2, ← a3]
          by_cases c : st.2 < (listTo ((domF g).getD i []) 12).length
          · rw [decide_eq_true c, if_pos rfl, if_pos (by omega)]
            exact ⟨rfl, .inr ⟨by omega, by rw [Int.toNat_natCast]; exact hig, by rw [Int.toNat_natCast]⟩⟩
          · rw [decide_eq_false c, if_neg (show ¬ (((listTo ((domF g).getD i []) 12).length : Nat) : Int) > ((st.2 : Nat) : Int) by omega), if_neg (show ¬ (false = true) by simp)]
            exact ⟨rfl, .inr ⟨a1, a2, a3⟩⟩
end
theorem nearestOf_core (g : List (List Int)) (hg : Small g) : ∃ (s1 : List Int) (s2 : Bool), Ev (fun k => spec_NearestOf.f k g) (s1, s2) ∧ impl_NearestOf.f g = some (s1, s2) ∧ s1.length ≤ 1048576 := by
  unfold impl_NearestOf.f spec_NearestOf.f
  cases hG : goodG g with
  | false =>
    refine ⟨[], false, (specGoodGraph_ev g hg).bind ?_, by rw [if_neg (by simp)], by simp⟩
    rw [hG]
    exact ev_is fun k => by rw [if_neg (by simp)]
  | true =>
    have hr := goodG_rows hG
    have hn2 : g.length ≤ 12 := hr.1.2
    have hdl : (domL g).length = g.length := (domL_rel hG).len
    refine ⟨nfTo (domF g) g.length g.length, true, (specGoodGraph_ev g hg).bind ?_, by rw [if_pos rfl], by rw [nfTo_len]; omega⟩
    rw [hG]
    have e : spec_l10Dominators.f g = some (domL g) := by unfold spec_l10Dominators.f; rw [hG, if_pos rfl]
    have key : Ev (fun k => spec_l10Nearest.f k g) (nfTo (domF g) g.length g.length) := by
      unfold spec_l10Nearest.f
      simp only [e, Option.bind_some]
      rw [hdl]
      obtain ⟨OUT, hOUT⟩ : ∃ OUT, nfTo (domF g) g.length g.length = OUT := ⟨_, rfl⟩
      have hol : OUT.length = g.length := by rw [← hOUT, nfTo_len]
      have hat : ∀ t, t < g.length → OUT[t]? = some (nfB (domF g) t) := by
        intro t ht
        rw [← hOUT]
        unfold nfTo
        rw [List.getElem?_map, List.getElem?_range ht, Option.map_some, if_pos ht]
      rw [hOUT]
      exact down0 (n := g.length) (p := fun b => Ev (fun k => spec_l10Nearest.l0 k (domL g) (OUT.take b) (domL g) (g.length : Int) (b : Int)) OUT)
        (Ev.step (f := fun _ => some OUT) (fun k => by simp only [spec_l10Nearest.l0]; rw [if_neg (by omega), List.take_of_length_le (by omega)]) (Ev.now _))
        (fun b hb ih => by
          have hrow := domL_at hb
          have hlen := listTo_len ((domF g).getD b []) 12
          refine Ev.step (fun k => ?_) (near_inner (dom := domL g) (acc := OUT.take b) (b := b) (n := (g.length : Int)) (r := OUT) (l := (domL g).getD b []) (by rw [List.length_take]; omega) (by omega) (by rw [hrow]; omega) (fun y hy => ?_) 0 (Nat.zero_le _) (-1) (.inl (by decide)) ?_)
          · simp only [spec_l10Nearest.l0]
            rw [if_pos (by omega), if_pos (by omega), if_pos (by omega)]
            rfl
          · have hm := ((domL_rel hG).mem b hb y).1 hy
            have := ((listTo_reach hG y).1 hm.1).rng hG (by decide) (by have := hr.1.1; omega)
            omega
          · rw [List.drop_zero, hrow, (near_run hG hb 12 (by decide)).1]
            have hto : OUT.take (b + 1) = OUT.take b ++ [nfB (domF g) b] := by rw [List.take_add_one, hat b hb]; rfl
            rw [hto] at ih
            exact ih)
    refine Ev.congr (fun k => by rw [if_pos rfl]) (key.bind ?_)
    exact Ev.now _
theorem nearestOf_law (g : List (List Int)) (hn : g.length ≤ 9223372036854775807) (hl : Len (Len I64) g) : ∃ k, laws_FnExactNearestOf.ok k g := nearestOf_of g hl (fun hg => nearestOf_core g hg)
end Go.Proofs.Ytplcipjlkogadaa.Q
