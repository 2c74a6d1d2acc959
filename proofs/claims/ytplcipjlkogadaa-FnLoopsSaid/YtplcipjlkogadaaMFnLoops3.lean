import Derived.Test.YtplcipjlkogadaaMFnLoops1
import Derived.Test.YtplcipjlkogadaaMFnLoops2
set_option linter.unusedVariables false
set_option linter.unusedSimpArgs false
set_option linter.unusedSectionVars false
namespace Go.Proofs.Ytplcipjlkogadaa.P
open Go.RowKit Go.Proofs.YtplcipjlkogadaaW.PrintWords Go.Proofs.YtplcipjlkogadaaW.PrintLast Go.Proofs.YtplcipjlkogadaaW.PrintMore
attribute [local go_sem] max2_int min2_int max_two min_two max_three min_three max_four min_four
def spec_l1Put.l0 : Nat → List Int → Int → Int → Option (List Int)
  | 0, _, _, _ => none
  | k + 1, x0, x1, x5 => if x5 < (x0.length : Int) then (if 0 ≤ x5 then (if (rd x0 x5) < x1 then (spec_l1Put.l0 k x0 x1 (wrap64 (x5 + 1))) else (if (rd x0 x5) = x1 then (some x0) else (if x5 ≤ (x0.length : Int) then ((some (x0.take (x5 : Int).toNat : List Int)).bind fun y158 => (if ([] : List Int).length + y158.length < 17592186044416 then ((some (([] : List Int) ++ y158 : List Int)).bind fun y162 => (if y162.length < 17592186044416 then ((some (y162 ++ [x1] : List Int)).bind fun y165 => ((some (x0.drop (x5 : Int).toNat : List Int)).bind fun y168 => (if y165.length + y168.length < 17592186044416 then (some (y165 ++ y168)) else (none)))) else (none))) else (none))) else (none)))) else (none)) else (if 0 ≤ x5 then (if x5 ≤ (x0.length : Int) then ((some (x0.take (x5 : Int).toNat : List Int)).bind fun y175 => (if ([] : List Int).length + y175.length < 17592186044416 then ((some (([] : List Int) ++ y175 : List Int)).bind fun y179 => (if y179.length < 17592186044416 then ((some (y179 ++ [x1] : List Int)).bind fun y182 => ((some (x0.drop (x5 : Int).toNat : List Int)).bind fun y185 => (if y182.length + y185.length < 17592186044416 then (some (y182 ++ y185)) else (none)))) else (none))) else (none))) else (none)) else (none))
def spec_l1Put.f (k : Nat) (l0 : List Int) (a1 : Int) : Option (List Int) := spec_l1Put.l0 k l0 a1 0
set_option maxHeartbeats 8000000 in
set_option maxRecDepth 100000 in
theorem spec_l1Put.calls (k : Nat) (P0_ : Nat → Prop) (u9000_ : Value) (l0 : List Int) (a1 : Int) (r : List Int) (w0 w : World) (hB : Below w0.heap.size w0 w) (ho0 : Kd.R (Kd.int .i64) 3 w w0.heap.size P0_ u9000_ l0) (h : spec_l1Put.f k l0 a1 = some r) :
    Calls Try.prog 73 #[u9000_, .int .i64 a1] w fun e w' => ∃ v0_ : Value, e = .returned (v0_) ∧ Kd.R (Kd.int .i64) 3 w' w0.heap.size (fun k_ => (P0_ k_ ∨ w.heap.size ≤ k_)) v0_ r ∧ Below w0.heap.size w0 w' ∧ Kept w w' (fun k_ => P0_ k_) := by
  have HO0 := Aside0.mk (show Kd.R (Kd.int .i64) 3 w w0.heap.size (fun k_ => (P0_ k_ ∨ w.heap.size ≤ k_)) u9000_ l0 from Kd.R_mono ho0 (fun k_ hk => (.inl hk)))
  have HK := Aside0.mk (Kept.refl w (fun k_ => P0_ k_))
  have HW0 := Aside0.mk hB.size
  have HB := Aside0.mk hB
  clear hB
  have H : (spec_l1Put.l0 k l0 a1 0) = some r := h
  clear h
  have H' := Aside0.mk H
  clear H
  go_enter Try.func73, Try.ntmps73
  go_wp2
  go_loopg [5] k (fun kq v5 w' => ∃ (x5_1 : Int), v5 = .int .i64 x5_1 ∧ Aside0 (spec_l1Put.l0 kq l0 a1 x5_1 = some r) ∧ Aside0 (kq ≤ k) ∧ Aside0 (Kd.R (Kd.int .i64) 3 w' w0.heap.size (fun k_ => (P0_ k_ ∨ w.heap.size ≤ k_)) u9000_ l0) ∧ Aside0 (Kept w w' (fun k_ => P0_ k_)) ∧ Aside0 (Below w0.heap.size w0 w'))
  case atStart => exact ⟨(0), (by first | rfl | (simp; done) | (simp [*]; done)), H', ⟨Nat.le_refl _⟩, ⟨by (with_reducible repeat (first | apply Kd.R_alloc | apply Kd.R_drewN | apply Kd.R_drew)); exact HO0.out⟩, ⟨by repeat (first | (with_reducible first | exact HK.out | apply Kept.alloc | apply Kept.drewN | apply Kept.drew) | exact HK.out)⟩, ⟨by repeat (first | (with_reducible first | exact HB.out | apply below_alloc | apply pw_below_drewN | apply below_drew1) | exact HB.out)⟩⟩
  case round =>
    clear H'
    try clear p2
    obtain ⟨x5_1, rfl, HA, HK1, HO_0, HK, HB⟩ := hrel
    cases gk with
    | zero => exact absurd HA.out (by simp [spec_l1Put.l0])
    | succ k1 =>
      have H := HA.out
      clear HA
      simp only [spec_l1Put.l0] at H
      by_cases c3 : x5_1 < (l0.length : Int)
      · rw [if_pos c3] at H
        have c3b0 : decide (x5_1 < (l0.length : Int)) = true := decide_eq_true c3
        clear c3
        by_cases c4 : 0 ≤ x5_1
        · rw [if_pos c4] at H
          have c4b0 : decide (0 ≤ x5_1) = true := decide_eq_true c4
          clear c4
          by_cases c5 : (rd l0 x5_1) < a1
          · rw [if_pos c5] at H
            have c5b0 : decide ((rd l0 x5_1) < a1) = true := decide_eq_true c5
            clear c5
            as_aux_lemma =>
              have H' := Aside0.mk H
              clear H
              obtain ⟨Ao6, co6, eo6⟩ := Kd.R_slice HO_0.out
              subst eo6
              have p156 : 0 ≤ (x5_1 : Int) := of_decide_eq_true (by first | (with_reducible assumption) | assumption)
              have q156 : x5_1 < (l0.length : Int) := of_decide_eq_true (by first | (with_reducible assumption) | assumption)
              obtain ⟨ad156, e156, hx156_0⟩ := Kd.at_int (Kd.R_reads' HO_0.out).2.2 x5_1 p156 q156
              cases e156
              replace p156 := eq_true p156
              replace q156 := eq_true q156
              go_wp2
              go_roundg k1
              case measure => have := HK1.out; omega
              case rel => exact ⟨(wrap64 (x5_1 + 1)), (by first | rfl | (simp; done) | (simp [*]; done)), H', ⟨by have := HK1.out; omega⟩, ⟨by (with_reducible repeat (first | apply Kd.R_alloc | apply Kd.R_drewN | apply Kd.R_drew)); exact HO_0.out⟩, ⟨by repeat (first | (with_reducible first | exact HK.out | apply Kept.alloc | apply Kept.drewN | apply Kept.drew) | exact HK.out)⟩, ⟨by repeat (first | (with_reducible first | exact HB.out | apply below_alloc | apply pw_below_drewN | apply below_drew1) | exact HB.out)⟩⟩
          · rw [if_neg c5] at H
            have c5b0 : decide ((rd l0 x5_1) < a1) = false := decide_eq_false c5
            clear c5
            by_cases c7 : (rd l0 x5_1) = a1
            · rw [if_pos c7] at H
              have c7b0 : ((rd l0 x5_1) == a1) = true := beq_iff_eq.mpr c7
              have c7b1 : ((rd l0 x5_1) != a1) = false := bne_eq_false_iff_eq.mpr c7
              clear c7
              as_aux_lemma =>
                obtain rfl := Option.some.inj H
                obtain ⟨Ao8, co8, eo8⟩ := Kd.R_slice HO_0.out
                subst eo8
                have p156 : 0 ≤ (x5_1 : Int) := of_decide_eq_true (by first | (with_reducible assumption) | assumption)
                have q156 : x5_1 < (l0.length : Int) := of_decide_eq_true (by first | (with_reducible assumption) | assumption)
                obtain ⟨ad156, e156, hx156_0⟩ := Kd.at_int (Kd.R_reads' HO_0.out).2.2 x5_1 p156 q156
                cases e156
                replace p156 := eq_true p156
                replace q156 := eq_true q156
                have p157 : 0 ≤ (x5_1 : Int) := of_decide_eq_true (by first | (with_reducible assumption) | assumption)
                have q157 : x5_1 < (l0.length : Int) := of_decide_eq_true (by first | (with_reducible assumption) | assumption)
                obtain ⟨ad157, e157, hx157_0⟩ := Kd.at_int (Kd.R_reads' HO_0.out).2.2 x5_1 p157 q157
                obtain rfl : ad156 = ad157 := (by injection e157)
                replace p157 := eq_true p157
                replace q157 := eq_true q157
                go_wp2
                go_ret
                exact ⟨_, by first | rfl | (simp [errW_none, errW_some] <;> rfl) | (simp [*, errW_none, errW_some] <;> rfl), by (with_reducible repeat (first | apply Kd.R_alloc | apply Kd.R_drewN | apply Kd.R_drew)); exact HO_0.out, by repeat (first | (with_reducible first | exact HB.out | apply below_alloc | apply pw_below_drewN | apply below_drew1) | exact HB.out), by repeat (first | (with_reducible first | exact HK.out | apply Kept.alloc | apply Kept.drewN | apply Kept.drew) | exact HK.out)⟩
            · rw [if_neg c7] at H
              have c7b0 : ((rd l0 x5_1) == a1) = false := beq_eq_false_iff_ne.mpr c7
              have c7b1 : ((rd l0 x5_1) != a1) = true := bne_iff_ne.mpr c7
              have c9b0 := eq_true (of_decide_eq_true (by first | (with_reducible assumption) | assumption) : 0 ≤ x5_1)
              by_cases c10 : x5_1 ≤ (l0.length : Int)
              · rw [if_pos c10] at H
                have c10b0 := eq_true c10
                have c10b1 : decide (x5_1 ≤ (l0.length : Int)) = true := decide_eq_true c10
                clear c10
                obtain ⟨y158, hy158⟩ : ∃ y_ : List Int, y_ = (l0.take (x5_1 : Int).toNat) := ⟨_, rfl⟩
                replace H : (if ([] : List Int).length + y158.length < 17592186044416 then ((some (([] : List Int) ++ y158 : List Int)).bind fun y162 => (if y162.length < 17592186044416 then ((some (y162 ++ [a1] : List Int)).bind fun y165 => ((some (l0.drop (x5_1 : Int).toNat : List Int)).bind fun y168 => (if y165.length + y168.length < 17592186044416 then (some (y165 ++ y168)) else (none)))) else (none))) else (none)) = some r := by first | (rw [hy158]; with_reducible exact H) | (have H2_ := (Option.bind_some _ _).symm.trans H; rw [hy158]; with_reducible exact H2_) | (have H2_ := (Option.bind_some _ _).symm.trans H; with_reducible exact H2_) | with_reducible exact H | (rw [hy158]; exact H) | exact H
                have Ny158 := Aside0.mk hy158
                clear hy158
                by_cases c11 : ([] : List Int).length + y158.length < 17592186044416
                · rw [if_pos c11] at H
                  have LMc11 := Aside0.mk c11
                  clear c11
                  obtain ⟨y162, hy162⟩ : ∃ y_ : List Int, y_ = (([] : List Int) ++ y158) := ⟨_, rfl⟩
                  replace H : (if y162.length < 17592186044416 then ((some (y162 ++ [a1] : List Int)).bind fun y165 => ((some (l0.drop (x5_1 : Int).toNat : List Int)).bind fun y168 => (if y165.length + y168.length < 17592186044416 then (some (y165 ++ y168)) else (none)))) else (none)) = some r := by first | (rw [hy162]; with_reducible exact H) | (have H2_ := (Option.bind_some _ _).symm.trans H; rw [hy162]; with_reducible exact H2_) | (have H2_ := (Option.bind_some _ _).symm.trans H; with_reducible exact H2_) | with_reducible exact H | (rw [hy162]; exact H) | exact H
                  have Ny162 := Aside0.mk hy162
                  clear hy162
                  by_cases c12 : y162.length < 17592186044416
                  · rw [if_pos c12] at H
                    have LMc12 := Aside0.mk c12
                    clear c12
                    obtain ⟨y165, hy165⟩ : ∃ y_ : List Int, y_ = (y162 ++ [a1]) := ⟨_, rfl⟩
                    replace H : ((some (l0.drop (x5_1 : Int).toNat : List Int)).bind fun y168 => (if y165.length + y168.length < 17592186044416 then (some (y165 ++ y168)) else (none))) = some r := by first | (rw [hy165]; with_reducible exact H) | (have H2_ := (Option.bind_some _ _).symm.trans H; rw [hy165]; with_reducible exact H2_) | (have H2_ := (Option.bind_some _ _).symm.trans H; with_reducible exact H2_) | with_reducible exact H | (rw [hy165]; exact H) | exact H
                    have Ny165 := Aside0.mk hy165
                    clear hy165
                    have c13b0 := eq_true (of_decide_eq_true (by first | (with_reducible assumption) | assumption) : 0 ≤ x5_1)
                    have c14b0 := eq_true (of_decide_eq_true (by first | (with_reducible assumption) | assumption) : x5_1 ≤ (l0.length : Int))
                    obtain ⟨y168, hy168⟩ : ∃ y_ : List Int, y_ = (l0.drop (x5_1 : Int).toNat) := ⟨_, rfl⟩
                    replace H : (if y165.length + y168.length < 17592186044416 then (some (y165 ++ y168)) else (none)) = some r := by first | (rw [hy168]; with_reducible exact H) | (have H2_ := (Option.bind_some _ _).symm.trans H; rw [hy168]; with_reducible exact H2_) | (have H2_ := (Option.bind_some _ _).symm.trans H; with_reducible exact H2_) | with_reducible exact H | (rw [hy168]; exact H) | exact H
                    have Ny168 := Aside0.mk hy168
                    clear hy168
                    by_cases c15 : y165.length + y168.length < 17592186044416
                    · rw [if_pos c15] at H
                      have LMc15 := Aside0.mk c15
                      clear c15
                      obtain ⟨y172, hy172⟩ : ∃ y_ : List Int, y_ = (y165 ++ y168) := ⟨_, rfl⟩
                      replace H : (some y172) = some r := by first | (rw [hy172]; with_reducible exact H) | (have H2_ := (Option.bind_some _ _).symm.trans H; rw [hy172]; with_reducible exact H2_) | (have H2_ := (Option.bind_some _ _).symm.trans H; with_reducible exact H2_) | with_reducible exact H | (rw [hy172]; exact H) | exact H
                      have Ny172 := Aside0.mk hy172
                      clear hy172
                      as_aux_lemma =>
                        obtain rfl := Option.some.inj H
                        obtain ⟨Ao16, co16, eo16⟩ := Kd.R_slice HO_0.out
                        subst eo16
                        have p156 : 0 ≤ (x5_1 : Int) := of_decide_eq_true (by first | (with_reducible assumption) | assumption)
                        have q156 : x5_1 < (l0.length : Int) := of_decide_eq_true (by first | (with_reducible assumption) | assumption)
                        obtain ⟨ad156, e156, hx156_0⟩ := Kd.at_int (Kd.R_reads' HO_0.out).2.2 x5_1 p156 q156
                        cases e156
                        replace p156 := eq_true p156
                        replace q156 := eq_true q156
                        have p157 : 0 ≤ (x5_1 : Int) := of_decide_eq_true (by first | (with_reducible assumption) | assumption)
                        have q157 : x5_1 < (l0.length : Int) := of_decide_eq_true (by first | (with_reducible assumption) | assumption)
                        obtain ⟨ad157, e157, hx157_0⟩ := Kd.at_int (Kd.R_reads' HO_0.out).2.2 x5_1 p157 q157
                        obtain rfl : ad156 = ad157 := (by injection e157)
                        replace p157 := eq_true p157
                        replace q157 := eq_true q157
                        have q17 : (x5_1 : Int) ≤ ((l0.length : Int) : Int) := of_decide_eq_true (by first | (with_reducible assumption) | assumption)
                        obtain ⟨i017, hi017, _, hsz17, _⟩ := info_parts info3
                        have hroom17 : l0.length ≤ co16 := (Kd.R_reads' HO_0.out).2.1
                        have hC17 : Kd.C (Kd.int .i64) _ (some ad156) l0.length l0 := (Kd.R_reads' HO_0.out).2.2
                        have hcut17 := cut_to (P := Try.prog) 31 3 .i64 Try.underlying31 hi017 (some ad156) l0.length co16 x5_1 (of_decide_eq_true (by first | (with_reducible assumption) | assumption)) q17 hroom17
                        have hr17 := Kd.C_take (m := (x5_1 : Int).toNat) hC17 (by omega)
                        have hy17 : y158.length = (x5_1 : Int).toNat := (by rw [Ny158.out, List.length_take]; omega)
                        rw [← Ny158.out] at hr17
                        rw [← hy17] at hcut17
                        have HR161 := Aside0.mk hr17
                        have HC161 := Aside0.mk (show y158.length ≤ co16 from by omega)
                        clear hr17 hC17 hroom17 hi017 hsz17
                        have KY17 := Aside0.mk hy17
                        clear hy17
                        have KL17 := Aside0.mk (show (x5_1 : Int).toNat ≤ l0.length from by omega)
                        replace q17 := eq_true q17
                        go_wp2_with (first | ((with_reducible refine gate_builtin (b := .append) (xs := #[.tmp 34, .tmp 37]) rfl ?_); at_builtin; refine Kd.R_append_rows (Kd.int .i64) (w0 := w0) w0.heap.size rfl (.tmp 34) (.tmp 37) 31 3 (.int .i64 0) 8 rfl Try.underlying31 info3 rfl (by decide) (by omega) (.slice none 0 0) ([] : List Int) y158 _ _ _ (fun k_ => (P0_ k_ ∨ w.heap.size ≤ k_) ∧ some k_ ≠ (.slice (some ad156) l0.length co16 : Value).ownBlock) (fun _ => False) rfl rfl ?aO ?aR (fun _ _ h => h) (fun _ h => h.elim) ?aF ?aB ?aS ?aL ?_; (case aR => repeat (first | exact (by repeat (first | (with_reducible exact HR161.out) | (with_reducible refine Kd.C_alloc ?_ _) | (with_reducible refine Kd.C_drewN ?_ _) | (with_reducible refine Kd.C_drew ?_) | exact HR161.out)) | (with_reducible refine Kd.C_alloc ?_ _) | (with_reducible refine Kd.C_drewN ?_ _) | (with_reducible refine Kd.C_drew ?_))); (case aB => exact (by repeat (first | (with_reducible first | exact HB.out | apply below_alloc | apply pw_below_drewN | apply below_drew1) | exact HB.out))); (case aF => exact (fun k_ hk => ⟨(.inr (Nat.le_trans (by first | exact HK.out.1 | exact (show Kept w _ (fun k_ => P0_ k_) from by repeat (first | (with_reducible first | exact HK.out | apply Kept.alloc | apply Kept.drewN | apply Kept.drew) | exact HK.out)).1) hk)), Kd.fresh' (Kd.R_lt (by (with_reducible repeat (first | apply Kd.R_alloc | apply Kd.R_drewN | apply Kd.R_drew)); exact HO_0.out)) k_ hk⟩)); (case aO => exact ((Kd.R_nil _ _ _ _ (fun k_ => (P0_ k_ ∨ w.heap.size ≤ k_) ∧ some k_ ≠ (.slice (some ad156) l0.length co16 : Value).ownBlock)))); (case aS => exact (below_size (by repeat (first | (with_reducible first | exact HB.out | apply below_alloc | apply pw_below_drewN | apply below_drew1) | exact HB.out)))); (case aL => have := LMc11.out; omega); intro v163 w18 ho hb hg hat; rw [← Ny162.out] at ho; have n0_ := Aside0.mk (Kd.R_after (Kd.R_apart_nil (by (with_reducible repeat (first | apply Kd.R_alloc | apply Kd.R_drewN | apply Kd.R_drew)); exact HO_0.out)) hg hat); have n1_ := Aside0.mk (hb); have n2_ := Aside0.mk (Kept.of_grown (S := (fun k_ => P0_ k_)) hg (by repeat (first | (with_reducible first | exact HK.out | apply Kept.alloc | apply Kept.drewN | apply Kept.drew) | exact HK.out)) (fun k_ e_ => by simp [Value.ownBlock] at e_)); have n3_ := Aside0.mk ((show Kd.C (Kd.int .i64) w18 (some ad156) y158.length y158 from by rw [Ny158.out]; exact Kd.C_take (m := (x5_1 : Int).toNat) ((Kd.R_reads' (Kd.R_after (Kd.R_apart_nil (by (with_reducible repeat (first | apply Kd.R_alloc | apply Kd.R_drewN | apply Kd.R_drew)); exact HO_0.out)) hg hat)).2.2) KL17.out)); have n4_ := Aside0.mk (ho); clear HO_0; clear HB; clear HK; clear HR161; have HO_0 := n0_; have HB := n1_; have HK := n2_; have HR161 := n3_; have HO164 := n4_; clear n0_ n1_ n2_ n3_ n4_; clear ho hb hg hat) | ((with_reducible refine gate_builtin (b := .append) (xs := #[.tmp 39, .tmp 41]) rfl ?_); at_builtin; refine Kd.R_append (Kd.int .i64) (w0 := w0) w0.heap.size rfl (.tmp 39) (.tmp 41) 31 3 (.int .i64 0) 8 rfl Try.underlying31 info3 rfl (by decide) (by omega) v163 y162 a1 [.int .i64 a1] (fun k_ => (P0_ k_ ∨ w.heap.size ≤ k_) ∧ some k_ ≠ (.slice (some ad156) l0.length co16 : Value).ownBlock) (fun _ => False) rfl rfl ?aP (fun _ hk => hk.elim) ?aF ?aO ?aB ?aS ?aL ?_; (case aP => exact rfl); (case aB => exact (by repeat (first | (with_reducible first | exact HB.out | apply below_alloc | apply pw_below_drewN | apply below_drew1) | exact HB.out))); (case aF => exact (fun k_ hk => ⟨(.inr (Nat.le_trans (by first | exact HK.out.1 | exact (show Kept w _ (fun k_ => P0_ k_) from by repeat (first | (with_reducible first | exact HK.out | apply Kept.alloc | apply Kept.drewN | apply Kept.drew) | exact HK.out)).1) hk)), Kd.fresh' (Kd.R_lt (by (with_reducible repeat (first | apply Kd.R_alloc | apply Kd.R_drewN | apply Kd.R_drew)); exact HO_0.out)) k_ hk⟩)); (case aO => exact (by (with_reducible repeat (first | apply Kd.R_alloc | apply Kd.R_drewN | apply Kd.R_drew)); exact HO164.out)); (case aS => exact (below_size (by repeat (first | (with_reducible first | exact HB.out | apply below_alloc | apply pw_below_drewN | apply below_drew1) | exact HB.out)))); (case aL => have := LMc12.out; omega); intro v166 w19 ho hb hg hat; rw [← Ny165.out] at ho; have n0_ := Aside0.mk (Kd.R_after (ok := (fun k_ => (P0_ k_ ∨ w.heap.size ≤ k_))) (by (with_reducible repeat (first | apply Kd.R_alloc | apply Kd.R_drewN | apply Kd.R_drew)); exact HO_0.out) hg hat); have n1_ := Aside0.mk (hb); have n2_ := Aside0.mk (Kept.of_grown (S := (fun k_ => P0_ k_)) hg (by repeat (first | (with_reducible first | exact HK.out | apply Kept.alloc | apply Kept.drewN | apply Kept.drew) | exact HK.out)) (fun k_ e_ => (HO164.out.1 k_ e_).1)); have n3_ := Aside0.mk ((show Kd.C (Kd.int .i64) w19 (some ad156) y158.length y158 from by rw [Ny158.out]; exact Kd.C_take (m := (x5_1 : Int).toNat) ((Kd.R_reads' (Kd.R_after (ok := (fun k_ => (P0_ k_ ∨ w.heap.size ≤ k_))) (by (with_reducible repeat (first | apply Kd.R_alloc | apply Kd.R_drewN | apply Kd.R_drew)); exact HO_0.out) hg hat)).2.2) KL17.out)); have n4_ := Aside0.mk (ho); clear HO_0; clear HB; clear HK; clear HR161; clear HO164; have HO_0 := n0_; have HB := n1_; have HK := n2_; have HR161 := n3_; have HO167 := n4_; clear n0_ n1_ n2_ n3_ n4_; clear ho hb hg hat; have q20 : (x5_1 : Int) ≤ ((l0.length : Int) : Int) := of_decide_eq_true (by first | (with_reducible assumption) | assumption); obtain ⟨i020, hi020, _, hsz20, _⟩ := info_parts info3; have hroom20 : l0.length ≤ co16 := (Kd.R_reads' HO_0.out).2.1; have hC20 : Kd.C (Kd.int .i64) _ (some ad156) l0.length l0 := (Kd.R_reads' HO_0.out).2.2; have q020 : (0 : Int) ≤ (x5_1 : Int) := of_decide_eq_true (by first | (with_reducible assumption) | assumption); have hcut20 := cut_from (P := Try.prog) 31 3 .i64 Try.underlying31 hi020 1 hsz20 (some ad156) l0.length co16 x5_1 q020 q20; have hr20 := Kd.C_drop (m := (x5_1 : Int).toNat) (c := co16) hC20 (by omega) hroom20; obtain ⟨A20, hA20⟩ : ∃ A1, A1 = (if co16 = (x5_1 : Int).toNat then (some ad156) else ((some ad156) : Option Addr).map (·.add ((x5_1 : Int).toNat * 1))) := ⟨_, rfl⟩; obtain ⟨c20, hc20⟩ : ∃ c1, c1 = co16 - (x5_1 : Int).toNat := ⟨_, rfl⟩; have hy20 : y168.length = l0.length - (x5_1 : Int).toNat := (by rw [Ny168.out, List.length_drop] <;> omega); rw [show (l0).drop (x5_1 : Int).toNat = y168 from Ny168.out.symm] at hr20; replace hr20 : Kd.C (Kd.int .i64) _ A20 y168.length y168 := (by rw [hA20]; exact hr20); rw [← hy20, ← hA20, ← hc20] at hcut20; have HR171 := Aside0.mk hr20; have HC171 := Aside0.mk (show y168.length ≤ c20 from by rw [hy20, hc20]; exact Nat.sub_le_sub_right hroom20 _); clear hr20 hC20 hroom20 hi020 hsz20 hc20; have KY20 := Aside0.mk hy20; have KA20 := Aside0.mk hA20; clear hy20 hA20; have KL20 := Aside0.mk (show (x5_1 : Int).toNat ≤ l0.length from by omega); replace q20 := eq_true q20) | ((with_reducible refine gate_builtin (b := .append) (xs := #[.tmp 43, .tmp 46]) rfl ?_); at_builtin; refine Kd.R_append_rows (Kd.int .i64) (w0 := w0) w0.heap.size rfl (.tmp 43) (.tmp 46) 31 3 (.int .i64 0) 8 rfl Try.underlying31 info3 rfl (by decide) (by omega) v166 y165 y168 _ _ _ (fun k_ => (P0_ k_ ∨ w.heap.size ≤ k_) ∧ some k_ ≠ (.slice (some ad156) l0.length co16 : Value).ownBlock) (fun _ => False) rfl rfl ?aO ?aR (fun _ _ h => h) (fun _ h => h.elim) ?aF ?aB ?aS ?aL ?_; (case aR => repeat (first | exact (by repeat (first | (with_reducible exact HR171.out) | (with_reducible refine Kd.C_alloc ?_ _) | (with_reducible refine Kd.C_drewN ?_ _) | (with_reducible refine Kd.C_drew ?_) | exact HR171.out)) | (with_reducible refine Kd.C_alloc ?_ _) | (with_reducible refine Kd.C_drewN ?_ _) | (with_reducible refine Kd.C_drew ?_))); (case aB => exact (by repeat (first | (with_reducible first | exact HB.out | apply below_alloc | apply pw_below_drewN | apply below_drew1) | exact HB.out))); (case aF => exact (fun k_ hk => ⟨(.inr (Nat.le_trans (by first | exact HK.out.1 | exact (show Kept w _ (fun k_ => P0_ k_) from by repeat (first | (with_reducible first | exact HK.out | apply Kept.alloc | apply Kept.drewN | apply Kept.drew) | exact HK.out)).1) hk)), Kd.fresh' (Kd.R_lt (by (with_reducible repeat (first | apply Kd.R_alloc | apply Kd.R_drewN | apply Kd.R_drew)); exact HO_0.out)) k_ hk⟩)); (case aO => exact (by (with_reducible repeat (first | apply Kd.R_alloc | apply Kd.R_drewN | apply Kd.R_drew)); exact HO167.out)); (case aS => exact (below_size (by repeat (first | (with_reducible first | exact HB.out | apply below_alloc | apply pw_below_drewN | apply below_drew1) | exact HB.out)))); (case aL => have := LMc15.out; omega); intro v173 w21 ho hb hg hat; rw [← Ny172.out] at ho; have n0_ := Aside0.mk (Kd.R_after (ok := (fun k_ => (P0_ k_ ∨ w.heap.size ≤ k_))) (by (with_reducible repeat (first | apply Kd.R_alloc | apply Kd.R_drewN | apply Kd.R_drew)); exact HO_0.out) hg hat); have n1_ := Aside0.mk (hb); have n2_ := Aside0.mk (Kept.of_grown (S := (fun k_ => P0_ k_)) hg (by repeat (first | (with_reducible first | exact HK.out | apply Kept.alloc | apply Kept.drewN | apply Kept.drew) | exact HK.out)) (fun k_ e_ => (HO167.out.1 k_ e_).1)); have n3_ := Aside0.mk ((show Kd.C (Kd.int .i64) w21 (some ad156) y158.length y158 from by rw [Ny158.out]; exact Kd.C_take (m := (x5_1 : Int).toNat) ((Kd.R_reads' (Kd.R_after (ok := (fun k_ => (P0_ k_ ∨ w.heap.size ≤ k_))) (by (with_reducible repeat (first | apply Kd.R_alloc | apply Kd.R_drewN | apply Kd.R_drew)); exact HO_0.out) hg hat)).2.2) KL17.out)); have n4_ := Aside0.mk ((show Kd.C (Kd.int .i64) w21 A20 y168.length y168 from by rw [Ny168.out, KA20.out]; exact Kd.C_drop (m := (x5_1 : Int).toNat) (c := co16) ((Kd.R_reads' (Kd.R_after (ok := (fun k_ => (P0_ k_ ∨ w.heap.size ≤ k_))) (by (with_reducible repeat (first | apply Kd.R_alloc | apply Kd.R_drewN | apply Kd.R_drew)); exact HO_0.out) hg hat)).2.2) KL20.out ((Kd.R_reads' (Kd.R_after (ok := (fun k_ => (P0_ k_ ∨ w.heap.size ≤ k_))) (by (with_reducible repeat (first | apply Kd.R_alloc | apply Kd.R_drewN | apply Kd.R_drew)); exact HO_0.out) hg hat)).2.1))); have n5_ := Aside0.mk (ho); clear HO_0; clear HB; clear HK; clear HR161; clear HR171; clear HO167; have HO_0 := n0_; have HB := n1_; have HK := n2_; have HR161 := n3_; have HR171 := n4_; have HO174 := n5_; clear n0_ n1_ n2_ n3_ n4_ n5_; clear ho hb hg hat))
                        go_ret
                        exact ⟨_, by first | rfl | (simp [errW_none, errW_some] <;> rfl) | (simp [*, errW_none, errW_some] <;> rfl), by (with_reducible repeat (first | apply Kd.R_alloc | apply Kd.R_drewN | apply Kd.R_drew)); exact Kd.R_mono HO174.out (fun _ hk => hk.1), by repeat (first | (with_reducible first | exact HB.out | apply below_alloc | apply pw_below_drewN | apply below_drew1) | exact HB.out), by repeat (first | (with_reducible first | exact HK.out | apply Kept.alloc | apply Kept.drewN | apply Kept.drew) | exact HK.out)⟩
                    · rw [if_neg c15] at H
                      exact absurd H (by simp)
                  · rw [if_neg c12] at H
                    exact absurd H (by simp)
                · rw [if_neg c11] at H
                  exact absurd H (by simp)
              · rw [if_neg c10] at H
                exact absurd H (by simp)
        · rw [if_neg c4] at H
          exact absurd H (by simp)
      · rw [if_neg c3] at H
        have c3b0 : decide (x5_1 < (l0.length : Int)) = false := decide_eq_false c3
        clear c3
        by_cases c22 : 0 ≤ x5_1
        · rw [if_pos c22] at H
          have c22b0 := eq_true c22
          have c22b1 : decide (0 ≤ x5_1) = true := decide_eq_true c22
          clear c22
          by_cases c23 : x5_1 ≤ (l0.length : Int)
          · rw [if_pos c23] at H
            have c23b0 := eq_true c23
            have c23b1 : decide (x5_1 ≤ (l0.length : Int)) = true := decide_eq_true c23
            clear c23
            obtain ⟨y175, hy175⟩ : ∃ y_ : List Int, y_ = (l0.take (x5_1 : Int).toNat) := ⟨_, rfl⟩
            replace H : (if ([] : List Int).length + y175.length < 17592186044416 then ((some (([] : List Int) ++ y175 : List Int)).bind fun y179 => (if y179.length < 17592186044416 then ((some (y179 ++ [a1] : List Int)).bind fun y182 => ((some (l0.drop (x5_1 : Int).toNat : List Int)).bind fun y185 => (if y182.length + y185.length < 17592186044416 then (some (y182 ++ y185)) else (none)))) else (none))) else (none)) = some r := by first | (rw [hy175]; with_reducible exact H) | (have H2_ := (Option.bind_some _ _).symm.trans H; rw [hy175]; with_reducible exact H2_) | (have H2_ := (Option.bind_some _ _).symm.trans H; with_reducible exact H2_) | with_reducible exact H | (rw [hy175]; exact H) | exact H
            have Ny175 := Aside0.mk hy175
            clear hy175
            by_cases c24 : ([] : List Int).length + y175.length < 17592186044416
            · rw [if_pos c24] at H
              have LMc24 := Aside0.mk c24
              clear c24
              obtain ⟨y179, hy179⟩ : ∃ y_ : List Int, y_ = (([] : List Int) ++ y175) := ⟨_, rfl⟩
              replace H : (if y179.length < 17592186044416 then ((some (y179 ++ [a1] : List Int)).bind fun y182 => ((some (l0.drop (x5_1 : Int).toNat : List Int)).bind fun y185 => (if y182.length + y185.length < 17592186044416 then (some (y182 ++ y185)) else (none)))) else (none)) = some r := by first | (rw [hy179]; with_reducible exact H) | (have H2_ := (Option.bind_some _ _).symm.trans H; rw [hy179]; with_reducible exact H2_) | (have H2_ := (Option.bind_some _ _).symm.trans H; with_reducible exact H2_) | with_reducible exact H | (rw [hy179]; exact H) | exact H
              have Ny179 := Aside0.mk hy179
              clear hy179
              by_cases c25 : y179.length < 17592186044416
              · rw [if_pos c25] at H
                have LMc25 := Aside0.mk c25
                clear c25
                obtain ⟨y182, hy182⟩ : ∃ y_ : List Int, y_ = (y179 ++ [a1]) := ⟨_, rfl⟩
                replace H : ((some (l0.drop (x5_1 : Int).toNat : List Int)).bind fun y185 => (if y182.length + y185.length < 17592186044416 then (some (y182 ++ y185)) else (none))) = some r := by first | (rw [hy182]; with_reducible exact H) | (have H2_ := (Option.bind_some _ _).symm.trans H; rw [hy182]; with_reducible exact H2_) | (have H2_ := (Option.bind_some _ _).symm.trans H; with_reducible exact H2_) | with_reducible exact H | (rw [hy182]; exact H) | exact H
                have Ny182 := Aside0.mk hy182
                clear hy182
                have c26b0 := eq_true (of_decide_eq_true (by first | (with_reducible assumption) | assumption) : 0 ≤ x5_1)
                have c27b0 := eq_true (of_decide_eq_true (by first | (with_reducible assumption) | assumption) : x5_1 ≤ (l0.length : Int))
                obtain ⟨y185, hy185⟩ : ∃ y_ : List Int, y_ = (l0.drop (x5_1 : Int).toNat) := ⟨_, rfl⟩
                replace H : (if y182.length + y185.length < 17592186044416 then (some (y182 ++ y185)) else (none)) = some r := by first | (rw [hy185]; with_reducible exact H) | (have H2_ := (Option.bind_some _ _).symm.trans H; rw [hy185]; with_reducible exact H2_) | (have H2_ := (Option.bind_some _ _).symm.trans H; with_reducible exact H2_) | with_reducible exact H | (rw [hy185]; exact H) | exact H
                have Ny185 := Aside0.mk hy185
                clear hy185
                by_cases c28 : y182.length + y185.length < 17592186044416
                · rw [if_pos c28] at H
                  have LMc28 := Aside0.mk c28
                  clear c28
                  obtain ⟨y189, hy189⟩ : ∃ y_ : List Int, y_ = (y182 ++ y185) := ⟨_, rfl⟩
                  replace H : (some y189) = some r := by first | (rw [hy189]; with_reducible exact H) | (have H2_ := (Option.bind_some _ _).symm.trans H; rw [hy189]; with_reducible exact H2_) | (have H2_ := (Option.bind_some _ _).symm.trans H; with_reducible exact H2_) | with_reducible exact H | (rw [hy189]; exact H) | exact H
                  have Ny189 := Aside0.mk hy189
                  clear hy189
                  as_aux_lemma =>
                    obtain rfl := Option.some.inj H
                    obtain ⟨Ao29, co29, eo29⟩ := Kd.R_slice HO_0.out
                    subst eo29
                    have q30 : (x5_1 : Int) ≤ ((l0.length : Int) : Int) := of_decide_eq_true (by first | (with_reducible assumption) | assumption)
                    obtain ⟨i030, hi030, _, hsz30, _⟩ := info_parts info3
                    have hroom30 : l0.length ≤ co29 := (Kd.R_reads' HO_0.out).2.1
                    have hC30 : Kd.C (Kd.int .i64) _ Ao29 l0.length l0 := (Kd.R_reads' HO_0.out).2.2
                    have hcut30 := cut_to (P := Try.prog) 31 3 .i64 Try.underlying31 hi030 Ao29 l0.length co29 x5_1 (of_decide_eq_true (by first | (with_reducible assumption) | assumption)) q30 hroom30
                    have hr30 := Kd.C_take (m := (x5_1 : Int).toNat) hC30 (by omega)
                    have hy30 : y175.length = (x5_1 : Int).toNat := (by rw [Ny175.out, List.length_take]; omega)
                    rw [← Ny175.out] at hr30
                    rw [← hy30] at hcut30
                    have HR178 := Aside0.mk hr30
                    have HC178 := Aside0.mk (show y175.length ≤ co29 from by omega)
                    clear hr30 hC30 hroom30 hi030 hsz30
                    have KY30 := Aside0.mk hy30
                    clear hy30
                    have KL30 := Aside0.mk (show (x5_1 : Int).toNat ≤ l0.length from by omega)
                    replace q30 := eq_true q30
                    go_wp2_with (first | ((with_reducible refine gate_builtin (b := .append) (xs := #[.tmp 34, .tmp 37]) rfl ?_); at_builtin; refine Kd.R_append_rows (Kd.int .i64) (w0 := w0) w0.heap.size rfl (.tmp 34) (.tmp 37) 31 3 (.int .i64 0) 8 rfl Try.underlying31 info3 rfl (by decide) (by omega) (.slice none 0 0) ([] : List Int) y175 _ _ _ (fun k_ => (P0_ k_ ∨ w.heap.size ≤ k_) ∧ some k_ ≠ (.slice Ao29 l0.length co29 : Value).ownBlock) (fun _ => False) rfl rfl ?aO ?aR (fun _ _ h => h) (fun _ h => h.elim) ?aF ?aB ?aS ?aL ?_; (case aR => repeat (first | exact (by repeat (first | (with_reducible exact HR178.out) | (with_reducible refine Kd.C_alloc ?_ _) | (with_reducible refine Kd.C_drewN ?_ _) | (with_reducible refine Kd.C_drew ?_) | exact HR178.out)) | (with_reducible refine Kd.C_alloc ?_ _) | (with_reducible refine Kd.C_drewN ?_ _) | (with_reducible refine Kd.C_drew ?_))); (case aB => exact (by repeat (first | (with_reducible first | exact HB.out | apply below_alloc | apply pw_below_drewN | apply below_drew1) | exact HB.out))); (case aF => exact (fun k_ hk => ⟨(.inr (Nat.le_trans (by first | exact HK.out.1 | exact (show Kept w _ (fun k_ => P0_ k_) from by repeat (first | (with_reducible first | exact HK.out | apply Kept.alloc | apply Kept.drewN | apply Kept.drew) | exact HK.out)).1) hk)), Kd.fresh' (Kd.R_lt (by (with_reducible repeat (first | apply Kd.R_alloc | apply Kd.R_drewN | apply Kd.R_drew)); exact HO_0.out)) k_ hk⟩)); (case aO => exact ((Kd.R_nil _ _ _ _ (fun k_ => (P0_ k_ ∨ w.heap.size ≤ k_) ∧ some k_ ≠ (.slice Ao29 l0.length co29 : Value).ownBlock)))); (case aS => exact (below_size (by repeat (first | (with_reducible first | exact HB.out | apply below_alloc | apply pw_below_drewN | apply below_drew1) | exact HB.out)))); (case aL => have := LMc24.out; omega); intro v180 w31 ho hb hg hat; rw [← Ny179.out] at ho; have n0_ := Aside0.mk (Kd.R_after (Kd.R_apart_nil (by (with_reducible repeat (first | apply Kd.R_alloc | apply Kd.R_drewN | apply Kd.R_drew)); exact HO_0.out)) hg hat); have n1_ := Aside0.mk (hb); have n2_ := Aside0.mk (Kept.of_grown (S := (fun k_ => P0_ k_)) hg (by repeat (first | (with_reducible first | exact HK.out | apply Kept.alloc | apply Kept.drewN | apply Kept.drew) | exact HK.out)) (fun k_ e_ => by simp [Value.ownBlock] at e_)); have n3_ := Aside0.mk ((show Kd.C (Kd.int .i64) w31 Ao29 y175.length y175 from by rw [Ny175.out]; exact Kd.C_take (m := (x5_1 : Int).toNat) ((Kd.R_reads' (Kd.R_after (Kd.R_apart_nil (by (with_reducible repeat (first | apply Kd.R_alloc | apply Kd.R_drewN | apply Kd.R_drew)); exact HO_0.out)) hg hat)).2.2) KL30.out)); have n4_ := Aside0.mk (ho); clear HO_0; clear HB; clear HK; clear HR178; have HO_0 := n0_; have HB := n1_; have HK := n2_; have HR178 := n3_; have HO181 := n4_; clear n0_ n1_ n2_ n3_ n4_; clear ho hb hg hat) | ((with_reducible refine gate_builtin (b := .append) (xs := #[.tmp 39, .tmp 41]) rfl ?_); at_builtin; refine Kd.R_append (Kd.int .i64) (w0 := w0) w0.heap.size rfl (.tmp 39) (.tmp 41) 31 3 (.int .i64 0) 8 rfl Try.underlying31 info3 rfl (by decide) (by omega) v180 y179 a1 [.int .i64 a1] (fun k_ => (P0_ k_ ∨ w.heap.size ≤ k_) ∧ some k_ ≠ (.slice Ao29 l0.length co29 : Value).ownBlock) (fun _ => False) rfl rfl ?aP (fun _ hk => hk.elim) ?aF ?aO ?aB ?aS ?aL ?_; (case aP => exact rfl); (case aB => exact (by repeat (first | (with_reducible first | exact HB.out | apply below_alloc | apply pw_below_drewN | apply below_drew1) | exact HB.out))); (case aF => exact (fun k_ hk => ⟨(.inr (Nat.le_trans (by first | exact HK.out.1 | exact (show Kept w _ (fun k_ => P0_ k_) from by repeat (first | (with_reducible first | exact HK.out | apply Kept.alloc | apply Kept.drewN | apply Kept.drew) | exact HK.out)).1) hk)), Kd.fresh' (Kd.R_lt (by (with_reducible repeat (first | apply Kd.R_alloc | apply Kd.R_drewN | apply Kd.R_drew)); exact HO_0.out)) k_ hk⟩)); (case aO => exact (by (with_reducible repeat (first | apply Kd.R_alloc | apply Kd.R_drewN | apply Kd.R_drew)); exact HO181.out)); (case aS => exact (below_size (by repeat (first | (with_reducible first | exact HB.out | apply below_alloc | apply pw_below_drewN | apply below_drew1) | exact HB.out)))); (case aL => have := LMc25.out; omega); intro v183 w32 ho hb hg hat; rw [← Ny182.out] at ho; have n0_ := Aside0.mk (Kd.R_after (ok := (fun k_ => (P0_ k_ ∨ w.heap.size ≤ k_))) (by (with_reducible repeat (first | apply Kd.R_alloc | apply Kd.R_drewN | apply Kd.R_drew)); exact HO_0.out) hg hat); have n1_ := Aside0.mk (hb); have n2_ := Aside0.mk (Kept.of_grown (S := (fun k_ => P0_ k_)) hg (by repeat (first | (with_reducible first | exact HK.out | apply Kept.alloc | apply Kept.drewN | apply Kept.drew) | exact HK.out)) (fun k_ e_ => (HO181.out.1 k_ e_).1)); have n3_ := Aside0.mk ((show Kd.C (Kd.int .i64) w32 Ao29 y175.length y175 from by rw [Ny175.out]; exact Kd.C_take (m := (x5_1 : Int).toNat) ((Kd.R_reads' (Kd.R_after (ok := (fun k_ => (P0_ k_ ∨ w.heap.size ≤ k_))) (by (with_reducible repeat (first | apply Kd.R_alloc | apply Kd.R_drewN | apply Kd.R_drew)); exact HO_0.out) hg hat)).2.2) KL30.out)); have n4_ := Aside0.mk (ho); clear HO_0; clear HB; clear HK; clear HR178; clear HO181; have HO_0 := n0_; have HB := n1_; have HK := n2_; have HR178 := n3_; have HO184 := n4_; clear n0_ n1_ n2_ n3_ n4_; clear ho hb hg hat; have q33 : (x5_1 : Int) ≤ ((l0.length : Int) : Int) := of_decide_eq_true (by first | (with_reducible assumption) | assumption); obtain ⟨i033, hi033, _, hsz33, _⟩ := info_parts info3; have hroom33 : l0.length ≤ co29 := (Kd.R_reads' HO_0.out).2.1; have hC33 : Kd.C (Kd.int .i64) _ Ao29 l0.length l0 := (Kd.R_reads' HO_0.out).2.2; have q033 : (0 : Int) ≤ (x5_1 : Int) := of_decide_eq_true (by first | (with_reducible assumption) | assumption); have hcut33 := cut_from (P := Try.prog) 31 3 .i64 Try.underlying31 hi033 1 hsz33 Ao29 l0.length co29 x5_1 q033 q33; have hr33 := Kd.C_drop (m := (x5_1 : Int).toNat) (c := co29) hC33 (by omega) hroom33; obtain ⟨A33, hA33⟩ : ∃ A1, A1 = (if co29 = (x5_1 : Int).toNat then Ao29 else (Ao29 : Option Addr).map (·.add ((x5_1 : Int).toNat * 1))) := ⟨_, rfl⟩; obtain ⟨c33, hc33⟩ : ∃ c1, c1 = co29 - (x5_1 : Int).toNat := ⟨_, rfl⟩; have hy33 : y185.length = l0.length - (x5_1 : Int).toNat := (by rw [Ny185.out, List.length_drop] <;> omega); rw [show (l0).drop (x5_1 : Int).toNat = y185 from Ny185.out.symm] at hr33; replace hr33 : Kd.C (Kd.int .i64) _ A33 y185.length y185 := (by rw [hA33]; exact hr33); rw [← hy33, ← hA33, ← hc33] at hcut33; have HR188 := Aside0.mk hr33; have HC188 := Aside0.mk (show y185.length ≤ c33 from by rw [hy33, hc33]; exact Nat.sub_le_sub_right hroom33 _); clear hr33 hC33 hroom33 hi033 hsz33 hc33; have KY33 := Aside0.mk hy33; have KA33 := Aside0.mk hA33; clear hy33 hA33; have KL33 := Aside0.mk (show (x5_1 : Int).toNat ≤ l0.length from by omega); replace q33 := eq_true q33) | ((with_reducible refine gate_builtin (b := .append) (xs := #[.tmp 43, .tmp 46]) rfl ?_); at_builtin; refine Kd.R_append_rows (Kd.int .i64) (w0 := w0) w0.heap.size rfl (.tmp 43) (.tmp 46) 31 3 (.int .i64 0) 8 rfl Try.underlying31 info3 rfl (by decide) (by omega) v183 y182 y185 _ _ _ (fun k_ => (P0_ k_ ∨ w.heap.size ≤ k_) ∧ some k_ ≠ (.slice Ao29 l0.length co29 : Value).ownBlock) (fun _ => False) rfl rfl ?aO ?aR (fun _ _ h => h) (fun _ h => h.elim) ?aF ?aB ?aS ?aL ?_; (case aR => repeat (first | exact (by repeat (first | (with_reducible exact HR188.out) | (with_reducible refine Kd.C_alloc ?_ _) | (with_reducible refine Kd.C_drewN ?_ _) | (with_reducible refine Kd.C_drew ?_) | exact HR188.out)) | (with_reducible refine Kd.C_alloc ?_ _) | (with_reducible refine Kd.C_drewN ?_ _) | (with_reducible refine Kd.C_drew ?_))); (case aB => exact (by repeat (first | (with_reducible first | exact HB.out | apply below_alloc | apply pw_below_drewN | apply below_drew1) | exact HB.out))); (case aF => exact (fun k_ hk => ⟨(.inr (Nat.le_trans (by first | exact HK.out.1 | exact (show Kept w _ (fun k_ => P0_ k_) from by repeat (first | (with_reducible first | exact HK.out | apply Kept.alloc | apply Kept.drewN | apply Kept.drew) | exact HK.out)).1) hk)), Kd.fresh' (Kd.R_lt (by (with_reducible repeat (first | apply Kd.R_alloc | apply Kd.R_drewN | apply Kd.R_drew)); exact HO_0.out)) k_ hk⟩)); (case aO => exact (by (with_reducible repeat (first | apply Kd.R_alloc | apply Kd.R_drewN | apply Kd.R_drew)); exact HO184.out)); (case aS => exact (below_size (by repeat (first | (with_reducible first | exact HB.out | apply below_alloc | apply pw_below_drewN | apply below_drew1) | exact HB.out)))); (case aL => have := LMc28.out; omega); intro v190 w34 ho hb hg hat; rw [← Ny189.out] at ho; have n0_ := Aside0.mk (Kd.R_after (ok := (fun k_ => (P0_ k_ ∨ w.heap.size ≤ k_))) (by (with_reducible repeat (first | apply Kd.R_alloc | apply Kd.R_drewN | apply Kd.R_drew)); exact HO_0.out) hg hat); have n1_ := Aside0.mk (hb); have n2_ := Aside0.mk (Kept.of_grown (S := (fun k_ => P0_ k_)) hg (by repeat (first | (with_reducible first | exact HK.out | apply Kept.alloc | apply Kept.drewN | apply Kept.drew) | exact HK.out)) (fun k_ e_ => (HO184.out.1 k_ e_).1)); have n3_ := Aside0.mk ((show Kd.C (Kd.int .i64) w34 Ao29 y175.length y175 from by rw [Ny175.out]; exact Kd.C_take (m := (x5_1 : Int).toNat) ((Kd.R_reads' (Kd.R_after (ok := (fun k_ => (P0_ k_ ∨ w.heap.size ≤ k_))) (by (with_reducible repeat (first | apply Kd.R_alloc | apply Kd.R_drewN | apply Kd.R_drew)); exact HO_0.out) hg hat)).2.2) KL30.out)); have n4_ := Aside0.mk ((show Kd.C (Kd.int .i64) w34 A33 y185.length y185 from by rw [Ny185.out, KA33.out]; exact Kd.C_drop (m := (x5_1 : Int).toNat) (c := co29) ((Kd.R_reads' (Kd.R_after (ok := (fun k_ => (P0_ k_ ∨ w.heap.size ≤ k_))) (by (with_reducible repeat (first | apply Kd.R_alloc | apply Kd.R_drewN | apply Kd.R_drew)); exact HO_0.out) hg hat)).2.2) KL33.out ((Kd.R_reads' (Kd.R_after (ok := (fun k_ => (P0_ k_ ∨ w.heap.size ≤ k_))) (by (with_reducible repeat (first | apply Kd.R_alloc | apply Kd.R_drewN | apply Kd.R_drew)); exact HO_0.out) hg hat)).2.1))); have n5_ := Aside0.mk (ho); clear HO_0; clear HB; clear HK; clear HR178; clear HR188; clear HO184; have HO_0 := n0_; have HB := n1_; have HK := n2_; have HR178 := n3_; have HR188 := n4_; have HO191 := n5_; clear n0_ n1_ n2_ n3_ n4_ n5_; clear ho hb hg hat))
                    go_ret
                    exact ⟨_, by first | rfl | (simp [errW_none, errW_some] <;> rfl) | (simp [*, errW_none, errW_some] <;> rfl), by (with_reducible repeat (first | apply Kd.R_alloc | apply Kd.R_drewN | apply Kd.R_drew)); exact Kd.R_mono HO191.out (fun _ hk => hk.1), by repeat (first | (with_reducible first | exact HB.out | apply below_alloc | apply pw_below_drewN | apply below_drew1) | exact HB.out), by repeat (first | (with_reducible first | exact HK.out | apply Kept.alloc | apply Kept.drewN | apply Kept.drew) | exact HK.out)⟩
                · rw [if_neg c28] at H
                  exact absurd H (by simp)
              · rw [if_neg c25] at H
                exact absurd H (by simp)
            · rw [if_neg c24] at H
              exact absurd H (by simp)
          · rw [if_neg c23] at H
            exact absurd H (by simp)
        · rw [if_neg c22] at H
          exact absurd H (by simp)
end Go.Proofs.Ytplcipjlkogadaa.P

namespace Go.Proofs.Ytplcipjlkogadaa.Q
open Go.RowKit Go.Proofs.Ytplcipjlkogadaa.P Go.Proofs.Ytplcipjlkogadaa.H Go.Proofs.YtplcipjlkogadaaW.PrintWords
def Srt (l : List Int) : Prop := l.Pairwise (· < ·)
theorem srt_ext : ∀ {a b : List Int}, Srt a → Srt b → (∀ x, x ∈ a ↔ x ∈ b) → a = b
  | [], [], _, _, _ => rfl
  | [], y :: b, _, _, h => by have := (h y).2 (by simp); simp at this
  | x :: a, [], _, _, h => by have := (h x).1 (by simp); simp at this
  | x :: a, y :: b, ha, hb, h => by
    have ha' := List.pairwise_cons.1 ha
    have hb' := List.pairwise_cons.1 hb
    have e : x = y := by
      rcases List.mem_cons.1 ((h x).1 (by simp)) with e | e
      · exact e
      · rcases List.mem_cons.1 ((h y).2 (by simp)) with e2 | e2
        · exact e2.symm
        · have h1 := hb'.1 x e
          have h2 := ha'.1 y e2
          omega
    subst e
    congr 1
    refine srt_ext ha'.2 hb'.2 (fun z => ?_)
    constructor
    · intro hz
      rcases List.mem_cons.1 ((h z).1 (by simp [hz])) with e | e
      · have := ha'.1 z hz; omega
      · exact e
    · intro hz
      rcases List.mem_cons.1 ((h z).2 (by simp [hz])) with e | e
      · have := hb'.1 z hz; omega
      · exact e
def putL : List Int → Int → List Int
  | [], x => [x]
  | y :: l, x => if y < x then y :: putL l x else if y = x then y :: l else x :: y :: l
theorem putL_mem (x : Int) : ∀ (l : List Int) (y : Int), y ∈ putL l x ↔ y ∈ l ∨ y = x
  | [], y => by simp [putL]
  | z :: l, y => by
    unfold putL
    by_cases h1 : z < x
    · rw [if_pos h1, List.mem_cons, putL_mem x l y, List.mem_cons, or_assoc]
    · rw [if_neg h1]
      by_cases h2 : z = x
      · rw [if_pos h2]
        constructor
        · exact .inl
        · rintro (h | h)
          · exact h
          · rw [h, ← h2]; simp
      · rw [if_neg h2, List.mem_cons, or_comm]
theorem putL_srt (x : Int) : ∀ (l : List Int), Srt l → Srt (putL l x)
  | [], _ => by unfold putL Srt; simp
  | z :: l, h => by
    have h' := List.pairwise_cons.1 h
    unfold putL
    by_cases h1 : z < x
    · rw [if_pos h1]
      refine List.pairwise_cons.2 ⟨fun y hy => ?_, putL_srt x l h'.2⟩
      rcases (putL_mem x l y).1 hy with e | e
      · exact h'.1 y e
      · omega
    · rw [if_neg h1]
      by_cases h2 : z = x
      · rw [if_pos h2]; exact h
      · rw [if_neg h2]
        refine List.pairwise_cons.2 ⟨fun y hy => ?_, h⟩
        rcases List.mem_cons.1 hy with e | e
        · omega
        · have := h'.1 y e; omega
theorem putL_len (x : Int) : ∀ (l : List Int), (putL l x).length ≤ l.length + 1
  | [] => by simp [putL]
  | z :: l => by
    have := putL_len x l
    unfold putL
    split
    · simp; omega
    · split
      · simp
      · simp
theorem putL_split (x : Int) : ∀ (l : List Int) (i : Nat), (∀ j, j < i → l.getD j 0 < x) → i ≤ l.length → putL l x = l.take i ++ putL (l.drop i) x
  | l, 0, _, _ => by simp
  | [], i + 1, _, h => by simp at h
  | z :: l, i + 1, h, hl => by
    have h0 : z < x := h 0 (by omega)
    show (if z < x then z :: putL l x else _) = _
    rw [if_pos h0, List.take_succ_cons, List.drop_succ_cons, List.cons_append, ← putL_split x l i (fun j hj => h (j + 1) (by omega)) (by simpa using hl)]
theorem put_ev (l : List Int) (x : Int) (hl : l.length ≤ 1048576) : Ev (fun k => spec_l1Put.f k l x) (putL l x) := by
  unfold spec_l1Put.f
  refine down (n := l.length) (p := fun i => (∀ j, j < i → l.getD j 0 < x) → Ev (fun k => spec_l1Put.l0 k l x (i : Int)) (putL l x)) ?h0 ?hs 0 (Nat.zero_le _) (fun j h => by omega)
  case h0 =>
    intro hj
    refine Ev.step (f := fun _ => some (putL l x)) (fun k => ?_) (Ev.now _)
    simp only [spec_l1Put.l0]
    rw [if_neg (by omega), if_pos (by omega), if_pos (by omega)]
    simp only [Option.bind_some, List.nil_append, List.length_nil, Int.toNat_natCast, List.take_length, List.drop_length, List.append_nil, Nat.zero_add, Nat.add_zero]
    have h2 : (l ++ [x]).length < 17592186044416 := by rw [List.length_append, List.length_cons, List.length_nil]; omega
    rw [if_pos (by omega), if_pos (by omega), if_pos h2, putL_split x l l.length hj (Nat.le_refl _), List.take_length, List.drop_length]
    rfl
  case hs =>
    intro i hi ih hj
    have hr : rd l (i : Int) = l.getD i 0 := rfl
    by_cases c : l.getD i 0 < x
    · refine Ev.step (fun k => ?_) (ih (fun j h => by
        by_cases e : j = i
        · rw [e]; exact c
        · exact hj j (by omega)))
      simp only [spec_l1Put.l0]
      rw [if_pos (by omega), if_pos (by omega), hr, if_pos c, w64 (by omega) (by omega)]
      rfl
    · have hs := putL_split x l i hj (by omega)
      rw [drop_eq hi] at hs
      by_cases c2 : l.getD i 0 = x
      · refine Ev.step (f := fun _ => some l) (fun k => ?_) (ev_is fun k => ?_)
        · simp only [spec_l1Put.l0]
          rw [if_pos (by omega), if_pos (by omega), hr, if_neg c, if_pos c2]
        · rw [hs]
          show some l = some (l.take i ++ (if l.getD i 0 < x then _ else if l.getD i 0 = x then _ else _))
          rw [if_neg c, if_pos c2, ← drop_eq hi, List.take_append_drop]
      · refine Ev.step (f := fun _ => some (putL l x)) (fun k => ?_) (Ev.now _)
        have hp : putL l x = l.take i ++ x :: l.drop i := by
          rw [hs]
          show l.take i ++ (if l.getD i 0 < x then _ else if l.getD i 0 = x then _ else _) = _
          rw [if_neg c, if_neg c2, ← drop_eq hi]
        simp only [spec_l1Put.l0]
        rw [if_pos (by omega), if_pos (by omega), hr, if_neg c, if_neg c2, if_pos (by omega)]
        simp only [Option.bind_some, List.nil_append, List.length_nil, Int.toNat_natCast, Nat.zero_add]
        have h1 : (l.take i).length < 17592186044416 := by rw [List.length_take]; omega
        have h2 : (l.take i ++ [x]).length + (l.drop i).length < 17592186044416 := by rw [List.length_append, List.length_cons, List.length_nil, List.length_take, List.length_drop]; omega
        rw [if_pos h1, if_pos h1, if_pos h2, hp, List.append_assoc]
        rfl
end Go.Proofs.Ytplcipjlkogadaa.Q

namespace Go.Proofs.Ytplcipjlkogadaa.P
open Go.RowKit Go.Proofs.YtplcipjlkogadaaW.PrintWords Go.Proofs.YtplcipjlkogadaaW.PrintLast Go.Proofs.YtplcipjlkogadaaW.PrintMore
attribute [local go_sem] max2_int min2_int max_two min_two max_three min_three max_four min_four
def laws_toGraph.f (k : Nat) (l0_0 : List (List Int)) : Option ((List (List Int))) := (laws_toIntSS.f k l0_0).bind fun t126 => (some t126)
end Go.Proofs.Ytplcipjlkogadaa.P

namespace Go.Proofs.Ytplcipjlkogadaa.P
open Go.RowKit Go.Proofs.YtplcipjlkogadaaW.PrintWords Go.Proofs.YtplcipjlkogadaaW.PrintLast Go.Proofs.YtplcipjlkogadaaW.PrintMore
attribute [local go_sem] max2_int min2_int max_two min_two max_three min_three max_four min_four
def laws_eqGraph.f (k : Nat) (l0_0 : List (List Int)) (l1_0 : List (List Int)) : Option (Bool) := (laws_eqIntSS.f k l0_0 l1_0).bind fun t139 => (if t139 = true then (some true) else (some false))
end Go.Proofs.Ytplcipjlkogadaa.P

namespace Go.Proofs.Ytplcipjlkogadaa.P
open Go.RowKit Go.Proofs.YtplcipjlkogadaaW.PrintWords Go.Proofs.YtplcipjlkogadaaW.PrintLast Go.Proofs.YtplcipjlkogadaaW.PrintMore
attribute [local go_sem] max2_int min2_int max_two min_two max_three min_three max_four min_four
def laws_szGraph.f (k : Nat) (l0_0 : List (List Int)) (a1 : Int) : Option (Int) := (laws_szIntSS.f k l0_0 a1).bind fun t104 => (if t104 < 0 then (some (-1)) else (some t104))
end Go.Proofs.Ytplcipjlkogadaa.P

namespace Go.Proofs.Ytplcipjlkogadaa.Q
open Go.RowKit Go.Proofs.Ytplcipjlkogadaa.P Go.Proofs.Ytplcipjlkogadaa.H Go.Proofs.YtplcipjlkogadaaW.PrintWords
theorem l1In_tell (a b c : Int) : spec_l1In.f a b c = some (decide (b ≤ a) && decide (a ≤ c)) := by
  unfold spec_l1In.f
  by_cases h : a ≥ b
  · rw [if_pos h, decide_eq_true h, Bool.true_and]
  · rw [if_neg h, decide_eq_false h, Bool.false_and]
theorem upAt_yes {l : List Int} {lo hi : Int} {j : Nat} (h0 : lo ≤ l.getD j 0) (h1 : l.getD j 0 ≤ hi) (h2 : j = 0 ∨ l.getD (j - 1) 0 < l.getD j 0) : upAt l lo hi j = true := by
  unfold upAt
  rw [decide_eq_true h0, decide_eq_true h1]
  rcases h2 with h2 | h2
  · rw [decide_eq_true h2]; rfl
  · rw [decide_eq_true h2, Bool.or_true]; rfl
theorem upAt_no {l : List Int} {lo hi : Int} {j : Nat} (h : ¬ (lo ≤ l.getD j 0 ∧ l.getD j 0 ≤ hi ∧ (j = 0 ∨ l.getD (j - 1) 0 < l.getD j 0))) : upAt l lo hi j = false := by
  cases e : upAt l lo hi j with
  | false => rfl
  | true =>
    unfold upAt at e
    simp only [Bool.and_eq_true, Bool.or_eq_true, decide_eq_true_eq] at e
    exact absurd ⟨e.1.1, e.1.2, e.2⟩ h
theorem specGoodGraph_ev (g : List (List Int)) (hg : Small g) : Ev (fun k => spec_GoodGraph.f k g) (goodG g) := by
  have hlen := hg.1
  unfold spec_GoodGraph.f
  have key := down0 (n := g.length) (p := fun i => Ev (fun k => spec_GoodGraph.l0 k (g.length : Int) g (g.length : Int) (i : Int)) (((g.drop i).all fun l => upB l 0 ((g.length : Int) - 1) 0) && (decide (1 ≤ g.length) && decide (g.length ≤ 12)))) ?h0 ?hs
  · refine ev_eq key ?_
    unfold goodG
    rw [List.drop_zero, Bool.and_comm]
  case h0 =>
    refine Ev.step (f := fun _ => some (decide (1 ≤ g.length) && decide (g.length ≤ 12))) (fun k => ?_) ?_
    · simp only [spec_GoodGraph.l0]
      rw [if_neg (by omega), l1In_tell, Option.bind_some]
      congr 1
      rw [Bool.eq_iff_iff]
      simp
      omega
    · simpa using Ev.now _
  case hs =>
    intro i hi ih
    have e : g.drop i = g.getD i [] :: g.drop (i + 1) := by
      rw [List.drop_eq_getElem_cons hi, List.getD_eq_getElem?_getD, List.getElem?_eq_getElem hi]
      rfl
    rw [e, List.all_cons, Bool.and_assoc]
    have hr : rd_L1 g (i : Int) = g.getD i [] := rfl
    refine Ev.step (fun k => by simp only [spec_GoodGraph.l0]; rw [if_pos (by omega), if_pos (by omega), if_pos (by omega), hr]) ?_
    have hll := hg.at hi
    generalize g.getD i [] = l at hll ⊢
    generalize (((g.drop (i + 1)).all fun l => upB l 0 ((g.length : Int) - 1) 0) && (decide (1 ≤ g.length) && decide (g.length ≤ 12))) = R at ih ⊢
    refine down0 (n := l.length) (p := fun j => Ev (fun k => spec_GoodGraph.l1 k (g.length : Int) l g (g.length : Int) (i : Int) l (l.length : Int) (j : Int)) (upB l 0 ((g.length : Int) - 1) j && R)) ?h0' ?hs'
    case h0' =>
      rw [upB_end, Bool.true_and]
      refine Ev.step (fun k => ?_) ih
      simp only [spec_GoodGraph.l1]
      rw [if_neg (by omega), w64 (by omega) (by omega)]
      rfl
    case hs' =>
      intro j hj ih
      rw [upB_step l 0 _ hj, Bool.and_assoc]
      have hx : rd l (j : Int) = l.getD j 0 := rfl
      have stop : ∀ b, upAt l 0 ((g.length : Int) - 1) j = false → b = false → Ev (fun _ => some b) (upAt l 0 ((g.length : Int) - 1) j && (upB l 0 ((g.length : Int) - 1) (j + 1) && R)) := by
        intro b h1 h2
        rw [h1, h2]
        exact Ev.now _
      by_cases c0 : l.getD j 0 < 0
      · refine Ev.step (f := fun _ => some false) (fun k => ?_) (stop _ (upAt_no (by omega)) rfl)
        simp only [spec_GoodGraph.l1]
        rw [if_pos (by omega), if_pos (by omega), if_pos (by omega), hx, if_pos c0]
      · by_cases c1 : l.getD j 0 ≥ (g.length : Int)
        · refine Ev.step (f := fun _ => some false) (fun k => ?_) (stop _ (upAt_no (by omega)) rfl)
          simp only [spec_GoodGraph.l1]
          rw [if_pos (by omega), if_pos (by omega), if_pos (by omega), hx, if_neg c0, if_pos c1]
        · by_cases cj : j = 0
          · have e : upAt l 0 ((g.length : Int) - 1) j = true := upAt_yes (by omega) (by omega) (.inl cj)
            rw [e, Bool.true_and]
            refine Ev.step (fun k => ?_) ih
            simp only [spec_GoodGraph.l1]
            rw [if_pos (by omega), if_pos (by omega), if_pos (by omega), hx, if_neg c0, if_neg c1, if_neg (by omega), w64 (by omega) (by omega)]
            rfl
          · have ew : wrap64 ((j : Int) - 1) = ((j - 1 : Nat) : Int) := by rw [w64 (by omega) (by omega)]; omega
            have hx1 : rd l (wrap64 ((j : Int) - 1)) = l.getD (j - 1) 0 := by rw [ew]; rfl
            by_cases c2 : l.getD (j - 1) 0 ≥ l.getD j 0
            · refine Ev.step (f := fun _ => some false) (fun k => ?_) (stop _ (upAt_no (by omega)) rfl)
              simp only [spec_GoodGraph.l1]
              rw [if_pos (by omega), if_pos (by omega), if_pos (by omega), hx, if_neg c0, if_neg c1, if_pos (by omega), if_pos (by rw [ew]; omega), if_pos (by rw [ew]; omega), hx1, if_pos c2]
            · have e : upAt l 0 ((g.length : Int) - 1) j = true := upAt_yes (by omega) (by omega) (.inr (by omega))
              rw [e, Bool.true_and]
              refine Ev.step (fun k => ?_) ih
              simp only [spec_GoodGraph.l1]
              rw [if_pos (by omega), if_pos (by omega), if_pos (by omega), hx, if_neg c0, if_neg c1, if_pos (by omega), if_pos (by rw [ew]; omega), if_pos (by rw [ew]; omega), hx1, if_neg c2, w64 (by omega) (by omega)]
              rfl
end Go.Proofs.Ytplcipjlkogadaa.Q

namespace Go.Proofs.Ytplcipjlkogadaa.P
open Go.RowKit Go.Proofs.YtplcipjlkogadaaW.PrintWords Go.Proofs.YtplcipjlkogadaaW.PrintLast Go.Proofs.YtplcipjlkogadaaW.PrintMore
attribute [local go_sem] max2_int min2_int max_two min_two max_three min_three max_four min_four
mutual
def spec_l10Reach.l0 : Nat → Int → List Int → List (List Int) → Option (List Int)
  | 0, _, _, _ => none
  | k + 1, x1, x5, x193000 => spec_l10Reach.l1 k x1 x5 (x5.length : Int) x193000 (x193000.length : Int) 0 x193000
def spec_l10Reach.l1 : Nat → Int → List Int → Int → List (List Int) → Int → Int → List (List Int) → Option (List Int)
  | 0, _, _, _, _, _, _, _ => none
  | k + 1, x1, x5, x6, x17, x18, x19, x193000 => if x19 < x18 then (if 0 ≤ x19 then (if x19 < (x17.length : Int) then ((spec_l1Has.f k x5 x19).bind fun t197 => (if t197 = true then (spec_l10Reach.l2 k x1 x5 x6 x17 x18 x19 (rd_L1 x17 x19) ((rd_L1 x17 x19).length : Int) 0 x193000) else (spec_l10Reach.l1 k x1 x5 x6 x17 x18 (wrap64 (x19 + 1)) x193000))) else (none)) else (none)) else (if (x5.length : Int) = x6 then (some x5) else (spec_l10Reach.l0 k x1 x5 x193000))
def spec_l10Reach.l2 : Nat → Int → List Int → Int → List (List Int) → Int → Int → List Int → Int → Int → List (List Int) → Option (List Int)
  | 0, _, _, _, _, _, _, _, _, _, _ => none
  | k + 1, x1, x5, x6, x17, x18, x19, x28, x29, x30, x193000 => if x30 < x29 then (if 0 ≤ x30 then (if x30 < (x28.length : Int) then (if (rd x28 x30) = x1 then (spec_l10Reach.l2 k x1 x5 x6 x17 x18 x19 x28 x29 (wrap64 (x30 + 1)) x193000) else ((spec_l1Put.f k x5 (rd x28 x30)).bind fun t199 => (spec_l10Reach.l2 k x1 t199 x6 x17 x18 x19 x28 x29 (wrap64 (x30 + 1)) x193000))) else (none)) else (none)) else (spec_l10Reach.l1 k x1 x5 x6 x17 x18 (wrap64 (x19 + 1)) x193000)
end
def spec_l10Reach.f (k : Nat) (l0_0 : List (List Int)) (a1 : Int) : Option (List Int) := if a1 = 0 then (some ([] : List Int)) else (spec_l10Reach.l0 k a1 (([0] : List Int)) l0_0)
set_option maxHeartbeats 8000000 in
set_option maxRecDepth 100000 in
theorem spec_l10Reach.calls (k : Nat) (A0_0 : Option Addr) (c0_0 : Nat) (l0_0 : List (List Int)) (a1 : Int) (r : List Int) (w : World) (hr0_0 : Kd.C (Kd.slice 3 (Kd.int .i64)) w A0_0 l0_0.length l0_0) (hc0_0 : l0_0.length ≤ c0_0) (h : spec_l10Reach.f k l0_0 a1 = some r) :
    Calls Try.prog 60 #[.agg #[.slice A0_0 l0_0.length c0_0], .int .i64 a1] w fun e w' => ∃ v0_ : Value, e = .returned (v0_) ∧ Kd.R (Kd.int .i64) 3 w' w.heap.size (fun _ => True) v0_ r ∧ Below w.heap.size w w' := by
  have hu27 := Try.underlying27
  have HR0_0 := Aside0.mk hr0_0
  have HC0_0 := Aside0.mk hc0_0
  clear hr0_0 hc0_0
  have HB := Aside0.mk (Below.refl w.heap.size w)
  have H : (if a1 = 0 then (some ([] : List Int)) else (spec_l10Reach.l0 k a1 (([0] : List Int)) l0_0)) = some r := h
  clear h
  by_cases c3 : a1 = 0
  · rw [if_pos c3] at H
    have c3b0 : (a1 == 0) = true := beq_iff_eq.mpr c3
    have c3b1 : (a1 != 0) = false := bne_eq_false_iff_eq.mpr c3
    clear c3
    as_aux_lemma =>
      obtain rfl := Option.some.inj H
      go_enter Try.func60, Try.ntmps60
      go_wp2_with (first | ((with_reducible refine gate_dst (N := 2) rfl ?_); refine box_event ?hg (N := 2) ?hd (cs := #[.slice A0_0 l0_0.length c0_0]) (t := 27) ?hr ?_; (case hd => rfl); (case hg => rfl); (case hr => first | (go_simp; done) | (go_simp; rfl)); intro gb192 hg w4 hbox hb; have n0_ := Aside0.mk (below_step (by repeat (first | (with_reducible first | exact HB.out | apply below_alloc | apply pw_below_drewN | apply below_drew1) | exact HB.out)) hb); have n1_ := Aside0.mk (hbox); have n2_ := Aside0.mk ((by rw [hg]; exact (below_size (by repeat (first | (with_reducible first | exact HB.out | apply below_alloc | apply pw_below_drewN | apply below_drew1) | exact HB.out))) : w.heap.size ≤ gb192)); have n3_ := Aside0.mk ((by rw [hg]; exact (below_size (by repeat (first | (with_reducible first | exact HB.out | apply below_alloc | apply pw_below_drewN | apply below_drew1) | exact HB.out))) : w.heap.size ≤ gb192)); clear HB; have HB := n0_; have BK192 := n1_; have GW192 := n2_; have GE192 := n3_; clear n0_ n1_ n2_ n3_; clear hb hbox hg))
      go_ret
      exact ⟨_, by first | rfl | (simp [errW_none, errW_some] <;> rfl) | (simp [*, errW_none, errW_some] <;> rfl), by first | exact Kd.R_nil _ _ _ _ _ | exact Kd.N_nil _ _ _ _ _ | exact Kd.V_nil _ _ _ _ _ | exact Kd.Q_nil _ _ _ _ _ | exact Kd.S_nil _ _ _ _ _, by repeat (first | (with_reducible first | exact HB.out | apply below_alloc | apply pw_below_drewN | apply below_drew1 | refine below_set ?_ GE192.out) | exact HB.out)⟩
  · rw [if_neg c3] at H
    have c3b0 : (a1 == 0) = false := beq_eq_false_iff_ne.mpr c3
    have c3b1 : (a1 != 0) = true := bne_iff_ne.mpr c3
    obtain ⟨y193, hy193⟩ : ∃ y_ : List Int, y_ = (([0] : List Int)) := ⟨_, rfl⟩
    replace H : (spec_l10Reach.l0 k a1 y193 l0_0) = some r := by first | (rw [hy193]; with_reducible exact H) | (have H2_ := (Option.bind_some _ _).symm.trans H; rw [hy193]; with_reducible exact H2_) | (have H2_ := (Option.bind_some _ _).symm.trans H; with_reducible exact H2_) | with_reducible exact H | (rw [hy193]; exact H) | exact H
    have Ny193 := Aside0.mk hy193
    clear hy193
    have H' := Aside0.mk H
    clear H
    go_enter Try.func60, Try.ntmps60
    go_wp2_with (first | ((with_reducible refine gate_dst (N := 2) rfl ?_); refine box_event ?hg (N := 2) ?hd (cs := #[.slice A0_0 l0_0.length c0_0]) (t := 27) ?hr ?_; (case hd => rfl); (case hg => rfl); (case hr => first | (go_simp; done) | (go_simp; rfl)); intro gb192 hg w5 hbox hb; have n0_ := Aside0.mk (below_step (by repeat (first | (with_reducible first | exact HB.out | apply below_alloc | apply pw_below_drewN | apply below_drew1) | exact HB.out)) hb); have n1_ := Aside0.mk (hbox); have n2_ := Aside0.mk ((by rw [hg]; exact (below_size (by repeat (first | (with_reducible first | exact HB.out | apply below_alloc | apply pw_below_drewN | apply below_drew1) | exact HB.out))) : w.heap.size ≤ gb192)); have n3_ := Aside0.mk ((by rw [hg]; exact (below_size (by repeat (first | (with_reducible first | exact HB.out | apply below_alloc | apply pw_below_drewN | apply below_drew1) | exact HB.out))) : w.heap.size ≤ gb192)); clear HB; have HB := n0_; have BK192 := n1_; have GW192 := n2_; have GE192 := n3_; clear n0_ n1_ n2_ n3_; clear hb hbox hg) | ((with_reducible refine gate_dst (N := 13) rfl ?_); refine Kd.R_lit (Kd.int .i64) _ 3 ?hg (N := 13) ?hd (xs := ([0] : List Int)) (inner := [.int .i64 0]) (ok := fun _ => True) (okp := fun _ => True) ?hr ?hp (fun _ hk => hk) trivial (Below.refl _ _) (Nat.le_refl _) (by simp) ?_; (case hd => rfl); (case hg => rfl); (case hr => first | (go_simp; done) | (go_simp; rfl)); (case hp => exact (Reps.one (show Kd.M (Kd.int .i64) _ _ _ 0 [.int .i64 0] from rfl) (Reps.none _ _))); intro v194 w6 ho7 hb hg_ hnew_; clear hg_ hnew_; (first | rw [← Ny193.out] at ho7 | (simp only [Int.reduceToNat] at ho7; rw [← Ny193.out] at ho7)); have n0_ := Aside0.mk (Kd.R_lower ho7 (below_size (by repeat (first | (with_reducible first | exact HB.out | apply below_alloc | apply pw_below_drewN | apply below_drew1 | refine below_set ?_ GE192.out) | exact HB.out)))); have n1_ := Aside0.mk (blk_below (g := gb192) (o := .cells #[.slice A0_0 l0_0.length c0_0] 27 (0, 0)) (by (with_reducible repeat (first | refine blk_drewN ?_ _ | refine blk_drew ?_ | refine blk_alloc ?_ _)); exact BK192.out) hb); have n2_ := Aside0.mk (below_step (by repeat (first | (with_reducible first | exact HB.out | apply below_alloc | apply pw_below_drewN | apply below_drew1 | refine below_set ?_ GE192.out) | exact HB.out)) hb); clear BK192; clear HB; have HO195 := n0_; have BK192 := n1_; have HB := n2_; clear n0_ n1_ n2_; clear hb ho7))
    go_loopg [5] k (fun kq v5 w' => ∃ (x5_1 : List Int), Aside0 (spec_l10Reach.l0 kq a1 x5_1 l0_0 = some r) ∧ Aside0 (kq ≤ k) ∧ Aside0 (Kd.R (Kd.int .i64) 3 w' w.heap.size (fun _ => True) v5 x5_1) ∧ Aside0 (w'.heap[gb192]? = some (.cells #[(.slice A0_0 l0_0.length c0_0)] 27 (0, 0))) ∧ Aside0 (Below w.heap.size w w'))
    case atStart => exact ⟨(y193), H', ⟨Nat.le_refl _⟩, ⟨by (with_reducible repeat (first | apply Kd.R_alloc | apply Kd.R_drewN | apply Kd.R_drew)); exact HO195.out⟩, ⟨by (with_reducible repeat (first | refine blk_drewN ?_ _ | refine blk_drew ?_ | refine blk_alloc ?_ _)); exact BK192.out⟩, ⟨by repeat (first | (with_reducible first | exact HB.out | apply below_alloc | apply pw_below_drewN | apply below_drew1 | refine below_set ?_ GE192.out) | exact HB.out)⟩⟩
    case round =>
      clear H'
      try clear p2
      try clear c3
      try clear c3b0
      try clear c3b1
      try clear c6
      obtain ⟨x5_1, HA, HK1, HO_5, BK192, HB⟩ := hrel
      cases gk with
      | zero => exact absurd HA.out (by simp [spec_l10Reach.l0])
      | succ k1 =>
        have H := HA.out
        clear HA
        simp only [spec_l10Reach.l0] at H
        have H' := Aside0.mk H
        clear H
        obtain ⟨Ao8, co8, eo8⟩ := Kd.R_slice HO_5.out
        subst eo8
        have hcz9_0 : wr.cell? ⟨gb192, 0, none⟩ = some (.slice A0_0 l0_0.length c0_0) := (blk_cell BK192.out 0).trans rfl
        have hfz9_0 := blk_frozen BK192.out 0
        go_wp2
        go_loopg [5, 19] k1 (fun kq v5 v19 w' => ∃ (x5_2 : List Int) (x19_2 : Int), v19 = .int .i64 x19_2 ∧ Aside0 (spec_l10Reach.l1 kq a1 x5_2 (x5_1.length : Int) l0_0 (l0_0.length : Int) x19_2 l0_0 = some r) ∧ Aside0 (kq ≤ k1) ∧ Aside0 (Kd.R (Kd.int .i64) 3 w' w.heap.size (fun _ => True) v5 x5_2) ∧ Aside0 (w'.heap[gb192]? = some (.cells #[(.slice A0_0 l0_0.length c0_0)] 27 (0, 0))) ∧ Aside0 (Below w.heap.size w w'))
        case atStart => exact ⟨(x5_1), (0), (by first | rfl | (simp; done) | (simp [*]; done)), H', ⟨Nat.le_refl _⟩, ⟨by (with_reducible repeat (first | apply Kd.R_alloc | apply Kd.R_drewN | apply Kd.R_drew)); exact HO_5.out⟩, ⟨by (with_reducible repeat (first | refine blk_drewN ?_ _ | refine blk_drew ?_ | refine blk_alloc ?_ _)); exact BK192.out⟩, ⟨by repeat (first | (with_reducible first | exact HB.out | apply below_alloc | apply pw_below_drewN | apply below_drew1 | refine below_set ?_ GE192.out) | exact HB.out)⟩⟩
        case round =>
          clear H'
          try clear p2
          try clear c3
          try clear c3b0
          try clear c3b1
          try clear c6
          try clear hcz9_0
          try clear hfz9_0
          try clear p2
          obtain ⟨x5_2, x19_2, rfl, HA, HK2, HO_5, BK192, HB⟩ := hrel
          cases gk with
          | zero => exact absurd HA.out (by simp [spec_l10Reach.l1])
          | succ k2 =>
            have H := HA.out
            clear HA
            simp only [spec_l10Reach.l1] at H
            by_cases c10 : x19_2 < (l0_0.length : Int)
            · rw [if_pos c10] at H
              have c10b0 : decide (x19_2 < (l0_0.length : Int)) = true := decide_eq_true c10
              clear c10
              by_cases c11 : 0 ≤ x19_2
              · rw [if_pos c11] at H
                have c11b0 : decide (0 ≤ x19_2) = true := decide_eq_true c11
                clear c11
                by_cases c12 : x19_2 < (l0_0.length : Int)
                · rw [if_pos c12] at H
                  have c12b0 : decide (x19_2 < (l0_0.length : Int)) = true := decide_eq_true c12
                  clear c12
                  replace H := Option.bind_eq_some_iff.mp H
                  obtain ⟨t197, A130, H⟩ := H
                  replace H : (if t197 = true then (spec_l10Reach.l2 k2 a1 x5_2 (x5_1.length : Int) l0_0 (l0_0.length : Int) x19_2 (rd_L1 l0_0 x19_2) ((rd_L1 l0_0 x19_2).length : Int) 0 l0_0) else (spec_l10Reach.l1 k2 a1 x5_2 (x5_1.length : Int) l0_0 (l0_0.length : Int) (wrap64 (x19_2 + 1)) l0_0)) = some r := H
                  have A13 := Aside0.mk A130
                  clear A130
                  by_cases c14 : t197 = true
                  · subst c14
                    have H1 : (spec_l10Reach.l2 k2 a1 x5_2 (x5_1.length : Int) l0_0 (l0_0.length : Int) x19_2 (rd_L1 l0_0 x19_2) ((rd_L1 l0_0 x19_2).length : Int) 0 l0_0) = some r := by rw [if_pos rfl] at H; exact H
                    clear H
                    have H := H1
                    clear H1
                    have H' := Aside0.mk H
                    clear H
                    have p196 : 0 ≤ (x19_2 : Int) := of_decide_eq_true (by first | (with_reducible assumption) | assumption)
                    have q196 : x19_2 < (l0_0.length : Int) := of_decide_eq_true (by first | (with_reducible assumption) | assumption)
                    obtain ⟨ad196, A196_0, c196_0, e196, hx196_0, hl196_0, hi196_0⟩ := at_L1 HR0_0.out x19_2 p196 q196
                    cases e196
                    replace hx196_0 := (HB.out.cell (World.block_lt_of_cell? w _ hx196_0)).trans hx196_0
                    have HR196_0 := Aside0.mk hi196_0
                    have HC196_0 := Aside0.mk hl196_0
                    clear hi196_0 hl196_0
                    replace p196 := eq_true p196
                    replace q196 := eq_true q196
                    obtain ⟨Ao15, co15, eo15⟩ := Kd.R_slice HO_5.out
                    subst eo15
                    go_wp2_with (first | ((with_reducible refine gate_callee (f := 65) rfl ?_); refine goesL_ (some 26) rfl rfl Try.func65 (by kernel_rfl) rfl #[.slice Ao15 x5_2.length co15, .int .i64 x19_2] rfl (by (try simp only [List.map_toArray, List.map_cons, List.map_nil]); first | done | rfl | (simp only [List.length_drop, List.length_take]; rfl)) ?_; (with_reducible refine (spec_l1Has.calls k2 _ _ x5_2 x19_2 true _ ?side1 ?side2 A13.out).mono ?_); (case side1 => repeat (first | exact (Kd.R_reads' HO_5.out).2.2 | (with_reducible refine Kd.C_alloc ?_ _) | (with_reducible refine Kd.C_drewN ?_ _) | (with_reducible refine Kd.C_drew ?_))); (case side2 => exact (Kd.R_reads' HO_5.out).2.1); rintro e w' ⟨rfl, ⟨nd, rfl⟩⟩; refine ⟨_, rfl, ?_⟩))
                    go_loopg [5, 30] k2 (fun kq v5 v30 w' => ∃ (x5_3 : List Int) (x30_3 : Int), v30 = .int .i64 x30_3 ∧ Aside0 (spec_l10Reach.l2 kq a1 x5_3 (x5_1.length : Int) l0_0 (l0_0.length : Int) x19_2 (rd_L1 l0_0 x19_2) ((rd_L1 l0_0 x19_2).length : Int) x30_3 l0_0 = some r) ∧ Aside0 (kq ≤ k2) ∧ Aside0 (Kd.R (Kd.int .i64) 3 w' w.heap.size (fun _ => True) v5 x5_3) ∧ Aside0 (w'.heap[gb192]? = some (.cells #[(.slice (some ad196) l0_0.length c0_0)] 27 (0, 0))) ∧ Aside0 (Below w.heap.size w w'))
                    case atStart => exact ⟨(x5_2), (0), (by first | rfl | (simp; done) | (simp [*]; done)), H', ⟨Nat.le_refl _⟩, ⟨by (with_reducible repeat (first | apply Kd.R_alloc | apply Kd.R_drewN | apply Kd.R_drew)); exact HO_5.out⟩, ⟨by (with_reducible repeat (first | refine blk_drewN ?_ _ | refine blk_drew ?_ | refine blk_alloc ?_ _)); exact BK192.out⟩, ⟨by repeat (first | (with_reducible first | exact HB.out | apply below_alloc | apply pw_below_drewN | apply below_drew1 | refine below_set ?_ GE192.out) | exact HB.out)⟩⟩
                    case round =>
                      clear H'
                      try clear c1
                      try clear p1
                      try clear q1
                      try clear hx1
                      try clear p2
                      try clear c3
                      try clear c3b0
                      try clear c3b1
                      try clear c6
                      try clear p6
                      try clear c10
                      try clear c10b0
                      try clear c11
                      try clear c11b0
                      try clear c12
                      try clear c12b0
                      try clear c14
                      try clear hcz9_0
                      try clear hfz9_0
                      try clear hx196_0
                      try clear p196
                      try clear p2
                      try clear q196
                      obtain ⟨x5_3, x30_3, rfl, HA, HK3, HO_5, BK192, HB⟩ := hrel
                      cases gk with
                      | zero => exact absurd HA.out (by simp [spec_l10Reach.l2])
                      | succ k3 =>
                        have H := HA.out
                        clear HA
                        simp only [spec_l10Reach.l2] at H
                        by_cases c16 : x30_3 < ((rd_L1 l0_0 x19_2).length : Int)
                        · rw [if_pos c16] at H
                          have c16b0 : decide (x30_3 < ((rd_L1 l0_0 x19_2).length : Int)) = true := decide_eq_true c16
                          clear c16
                          by_cases c17 : 0 ≤ x30_3
                          · rw [if_pos c17] at H
                            have c17b0 : decide (0 ≤ x30_3) = true := decide_eq_true c17
                            clear c17
                            by_cases c18 : x30_3 < ((rd_L1 l0_0 x19_2).length : Int)
                            · rw [if_pos c18] at H
                              have c18b0 : decide (x30_3 < ((rd_L1 l0_0 x19_2).length : Int)) = true := decide_eq_true c18
                              clear c18
                              by_cases c19 : (rd (rd_L1 l0_0 x19_2) x30_3) = a1
                              · rw [if_pos c19] at H
                                have c19b0 : ((rd (rd_L1 l0_0 x19_2) x30_3) == a1) = true := beq_iff_eq.mpr c19
                                have c19b1 : ((rd (rd_L1 l0_0 x19_2) x30_3) != a1) = false := bne_eq_false_iff_eq.mpr c19
                                clear c19
                                as_aux_lemma =>
                                  have H' := Aside0.mk H
                                  clear H
                                  have p198 : 0 ≤ (x30_3 : Int) := of_decide_eq_true (by first | (with_reducible assumption) | assumption)
                                  have q198 : x30_3 < ((rd_L1 l0_0 x19_2).length : Int) := of_decide_eq_true (by first | (with_reducible assumption) | assumption)
                                  obtain ⟨ad198, e198, hx198_0⟩ := Kd.at_int HR196_0.out x30_3 p198 q198
                                  cases e198
                                  replace hx198_0 := (HB.out.cell (World.block_lt_of_cell? w _ hx198_0)).trans hx198_0
                                  replace p198 := eq_true p198
                                  replace q198 := eq_true q198
                                  go_wp2
                                  go_roundg k3
                                  case measure => have := HK1.out; have := HK2.out; have := HK3.out; omega
                                  case rel => exact ⟨(x5_3), (wrap64 (x30_3 + 1)), (by first | rfl | (simp; done) | (simp [*]; done)), H', ⟨by have := HK1.out; have := HK2.out; have := HK3.out; omega⟩, ⟨by (with_reducible repeat (first | apply Kd.R_alloc | apply Kd.R_drewN | apply Kd.R_drew)); exact HO_5.out⟩, ⟨by (with_reducible repeat (first | refine blk_drewN ?_ _ | refine blk_drew ?_ | refine blk_alloc ?_ _)); exact BK192.out⟩, ⟨by repeat (first | (with_reducible first | exact HB.out | apply below_alloc | apply pw_below_drewN | apply below_drew1 | refine below_set ?_ GE192.out) | exact HB.out)⟩⟩
                              · rw [if_neg c19] at H
                                have c19b0 : ((rd (rd_L1 l0_0 x19_2) x30_3) == a1) = false := beq_eq_false_iff_ne.mpr c19
                                have c19b1 : ((rd (rd_L1 l0_0 x19_2) x30_3) != a1) = true := bne_iff_ne.mpr c19
                                replace H := Option.bind_eq_some_iff.mp H
                                obtain ⟨t199, A200, H⟩ := H
                                replace H : (spec_l10Reach.l2 k3 a1 t199 (x5_1.length : Int) l0_0 (l0_0.length : Int) x19_2 (rd_L1 l0_0 x19_2) ((rd_L1 l0_0 x19_2).length : Int) (wrap64 (x30_3 + 1)) l0_0) = some r := H
                                have A20 := Aside0.mk A200
                                clear A200
                                as_aux_lemma =>
                                  have H' := Aside0.mk H
                                  clear H
                                  have p198 : 0 ≤ (x30_3 : Int) := of_decide_eq_true (by first | (with_reducible assumption) | assumption)
                                  have q198 : x30_3 < ((rd_L1 l0_0 x19_2).length : Int) := of_decide_eq_true (by first | (with_reducible assumption) | assumption)
                                  obtain ⟨ad198, e198, hx198_0⟩ := Kd.at_int HR196_0.out x30_3 p198 q198
                                  cases e198
                                  replace hx198_0 := (HB.out.cell (World.block_lt_of_cell? w _ hx198_0)).trans hx198_0
                                  replace p198 := eq_true p198
                                  replace q198 := eq_true q198
                                  obtain ⟨Ao21, co21, eo21⟩ := Kd.R_slice HO_5.out
                                  subst eo21
                                  go_wp2_with (first | ((with_reducible refine gate_callee (f := 73) rfl ?_); refine goesL_ (some 39) rfl rfl Try.func73 (by kernel_rfl) rfl #[.slice Ao21 x5_3.length co21, .int .i64 (rd (rd_L1 l0_0 x19_2) x30_3)] rfl (by (try simp only [List.map_toArray, List.map_cons, List.map_nil]); first | done | rfl | (simp only [List.length_drop, List.length_take]; rfl)) ?_; (with_reducible refine (spec_l1Put.calls k3 (fun k_ => some k_ = (.slice Ao21 x5_3.length co21 : Value).ownBlock) (.slice Ao21 x5_3.length co21) x5_3 (rd (rd_L1 l0_0 x19_2) x30_3) t199 w _ ?side1 ?side2 A20.out).mono ?_); (case side1 => repeat (first | (with_reducible first | exact HB.out | apply below_alloc | apply pw_below_drewN | apply below_drew1 | refine below_set ?_ GE192.out) | exact HB.out)); (case side2 => exact Kd.R_tight rfl HO_5.out); rintro e w22 ⟨v200, rfl, ho0, hb, hkp⟩; refine ⟨_, rfl, ?_⟩; have n0_ := Aside0.mk (blk_kept (by (with_reducible repeat (first | refine blk_drewN ?_ _ | refine blk_drew ?_ | refine blk_alloc ?_ _)); exact BK192.out) hkp (fun hs_ => (fun e_ => (Kd.R_ne HO_5.out BK192.out (by decide)) e_) hs_)); have n1_ := Aside0.mk (Kd.R_mono (ok' := fun k_ => True) ho0 (fun k_ hk_ => trivial)); have n2_ := Aside0.mk (hb); clear BK192; clear HB; clear HO_5; have BK192 := n0_; have HO201 := n1_; have HB := n2_; clear n0_ n1_ n2_; (try clear hb); (try clear hkp); (try clear ho0)))
                                  go_roundg k3
                                  case measure => have := HK1.out; have := HK2.out; have := HK3.out; omega
                                  case rel => exact ⟨(t199), (wrap64 (x30_3 + 1)), (by first | rfl | (simp; done) | (simp [*]; done)), H', ⟨by have := HK1.out; have := HK2.out; have := HK3.out; omega⟩, ⟨by (with_reducible repeat (first | apply Kd.R_alloc | apply Kd.R_drewN | apply Kd.R_drew)); exact HO201.out⟩, ⟨by (with_reducible repeat (first | refine blk_drewN ?_ _ | refine blk_drew ?_ | refine blk_alloc ?_ _)); exact BK192.out⟩, ⟨by repeat (first | (with_reducible first | exact HB.out | apply below_alloc | apply pw_below_drewN | apply below_drew1 | refine below_set ?_ GE192.out) | exact HB.out)⟩⟩
                            · rw [if_neg c18] at H
                              exact absurd H (by simp)
                          · rw [if_neg c17] at H
                            exact absurd H (by simp)
                        · rw [if_neg c16] at H
                          have c16b0 : decide (x30_3 < ((rd_L1 l0_0 x19_2).length : Int)) = false := decide_eq_false c16
                          clear c16
                          as_aux_lemma =>
                            have H' := Aside0.mk H
                            clear H
                            go_wp2
                            go_roundg k3
                            case measure => have := HK1.out; have := HK2.out; have := HK3.out; omega
                            case rel => exact ⟨(x5_3), (wrap64 (x19_2 + 1)), (by first | rfl | (simp; done) | (simp [*]; done)), H', ⟨by have := HK1.out; have := HK2.out; have := HK3.out; omega⟩, ⟨by (with_reducible repeat (first | apply Kd.R_alloc | apply Kd.R_drewN | apply Kd.R_drew)); exact HO_5.out⟩, ⟨by (with_reducible repeat (first | refine blk_drewN ?_ _ | refine blk_drew ?_ | refine blk_alloc ?_ _)); exact BK192.out⟩, ⟨by repeat (first | (with_reducible first | exact HB.out | apply below_alloc | apply pw_below_drewN | apply below_drew1 | refine below_set ?_ GE192.out) | exact HB.out)⟩⟩
                  · replace c14 := Bool.eq_false_iff.mpr c14
                    subst c14
                    have H1 : (spec_l10Reach.l1 k2 a1 x5_2 (x5_1.length : Int) l0_0 (l0_0.length : Int) (wrap64 (x19_2 + 1)) l0_0) = some r := by rw [if_neg (show ¬ (false = true) by decide)] at H; exact H
                    clear H
                    have H := H1
                    clear H1
                    as_aux_lemma =>
                      have H' := Aside0.mk H
                      clear H
                      have p196 : 0 ≤ (x19_2 : Int) := of_decide_eq_true (by first | (with_reducible assumption) | assumption)
                      have q196 : x19_2 < (l0_0.length : Int) := of_decide_eq_true (by first | (with_reducible assumption) | assumption)
                      obtain ⟨ad196, A196_0, c196_0, e196, hx196_0, hl196_0, hi196_0⟩ := at_L1 HR0_0.out x19_2 p196 q196
                      cases e196
                      replace hx196_0 := (HB.out.cell (World.block_lt_of_cell? w _ hx196_0)).trans hx196_0
                      have HR196_0 := Aside0.mk hi196_0
                      have HC196_0 := Aside0.mk hl196_0
                      clear hi196_0 hl196_0
                      replace p196 := eq_true p196
                      replace q196 := eq_true q196
                      obtain ⟨Ao23, co23, eo23⟩ := Kd.R_slice HO_5.out
                      subst eo23
                      go_wp2_with (first | ((with_reducible refine gate_callee (f := 65) rfl ?_); refine goesL_ (some 26) rfl rfl Try.func65 (by kernel_rfl) rfl #[.slice Ao23 x5_2.length co23, .int .i64 x19_2] rfl (by (try simp only [List.map_toArray, List.map_cons, List.map_nil]); first | done | rfl | (simp only [List.length_drop, List.length_take]; rfl)) ?_; (with_reducible refine (spec_l1Has.calls k2 _ _ x5_2 x19_2 false _ ?side1 ?side2 A13.out).mono ?_); (case side1 => repeat (first | exact (Kd.R_reads' HO_5.out).2.2 | (with_reducible refine Kd.C_alloc ?_ _) | (with_reducible refine Kd.C_drewN ?_ _) | (with_reducible refine Kd.C_drew ?_))); (case side2 => exact (Kd.R_reads' HO_5.out).2.1); rintro e w' ⟨rfl, ⟨nd, rfl⟩⟩; refine ⟨_, rfl, ?_⟩))
                      go_roundg k2
                      case measure => have := HK1.out; have := HK2.out; omega
                      case rel => exact ⟨(x5_2), (wrap64 (x19_2 + 1)), (by first | rfl | (simp; done) | (simp [*]; done)), H', ⟨by have := HK1.out; have := HK2.out; omega⟩, ⟨by (with_reducible repeat (first | apply Kd.R_alloc | apply Kd.R_drewN | apply Kd.R_drew)); exact HO_5.out⟩, ⟨by (with_reducible repeat (first | refine blk_drewN ?_ _ | refine blk_drew ?_ | refine blk_alloc ?_ _)); exact BK192.out⟩, ⟨by repeat (first | (with_reducible first | exact HB.out | apply below_alloc | apply pw_below_drewN | apply below_drew1 | refine below_set ?_ GE192.out) | exact HB.out)⟩⟩
                · rw [if_neg c12] at H
                  exact absurd H (by simp)
              · rw [if_neg c11] at H
                exact absurd H (by simp)
            · rw [if_neg c10] at H
              have c10b0 : decide (x19_2 < (l0_0.length : Int)) = false := decide_eq_false c10
              clear c10
              by_cases c24 : (x5_2.length : Int) = (x5_1.length : Int)
              · rw [if_pos c24] at H
                have c24b0 : ((x5_2.length : Int) == (x5_1.length : Int)) = true := beq_iff_eq.mpr c24
                have c24b1 : ((x5_2.length : Int) != (x5_1.length : Int)) = false := bne_eq_false_iff_eq.mpr c24
                have c24b2 : (x5_2.length == x5_1.length) = true := by first | simpa using c24 | (simp at c24 ⊢; omega)
                clear c24
                as_aux_lemma =>
                  obtain rfl := Option.some.inj H
                  obtain ⟨Ao25, co25, eo25⟩ := Kd.R_slice HO_5.out
                  subst eo25
                  go_wp2
                  go_ret
                  exact ⟨_, by first | rfl | (simp [errW_none, errW_some] <;> rfl) | (simp [*, errW_none, errW_some] <;> rfl), by (with_reducible repeat (first | apply Kd.R_alloc | apply Kd.R_drewN | apply Kd.R_drew)); exact HO_5.out, by repeat (first | (with_reducible first | exact HB.out | apply below_alloc | apply pw_below_drewN | apply below_drew1 | refine below_set ?_ GE192.out) | exact HB.out)⟩
              · rw [if_neg c24] at H
                have c24b0 : ((x5_2.length : Int) == (x5_1.length : Int)) = false := beq_eq_false_iff_ne.mpr c24
                have c24b1 : ((x5_2.length : Int) != (x5_1.length : Int)) = true := bne_iff_ne.mpr c24
                have c24b2 : (x5_2.length == x5_1.length) = false := by first | simpa using c24 | (simp at c24 ⊢; omega)
                as_aux_lemma =>
                  have H' := Aside0.mk H
                  clear H
                  obtain ⟨Ao26, co26, eo26⟩ := Kd.R_slice HO_5.out
                  subst eo26
                  go_wp2
                  go_roundg k2
                  case measure => have := HK1.out; have := HK2.out; omega
                  case rel => exact ⟨(x5_2), H', ⟨by have := HK1.out; have := HK2.out; omega⟩, ⟨by (with_reducible repeat (first | apply Kd.R_alloc | apply Kd.R_drewN | apply Kd.R_drew)); exact HO_5.out⟩, ⟨by (with_reducible repeat (first | refine blk_drewN ?_ _ | refine blk_drew ?_ | refine blk_alloc ?_ _)); exact BK192.out⟩, ⟨by repeat (first | (with_reducible first | exact HB.out | apply below_alloc | apply pw_below_drewN | apply below_drew1 | refine below_set ?_ GE192.out) | exact HB.out)⟩⟩
end Go.Proofs.Ytplcipjlkogadaa.P

namespace Go.Proofs.Ytplcipjlkogadaa.Q
open Go.RowKit Go.Proofs.Ytplcipjlkogadaa.P Go.Proofs.Ytplcipjlkogadaa.H Go.Proofs.YtplcipjlkogadaaW.PrintWords
theorem srt_sub_len : ∀ {b a : List Int}, Srt a → Srt b → (∀ y ∈ a, y ∈ b) → a.length ≤ b.length ∧ (a.length = b.length → a = b)
  | [], a, _, _, h => by
    have : a = [] := List.eq_nil_iff_forall_not_mem.2 (fun y hy => by have := h y hy; simp at this)
    subst this
    simp
  | y :: b, [], _, _, _ => by simp
  | y :: b, x :: a, ha, hb, h => by
    have ha' := List.pairwise_cons.1 ha
    have hb' := List.pairwise_cons.1 hb
    by_cases e : x = y
    · subst e
      have ih := srt_sub_len (b := b) (a := a) ha'.2 hb'.2 (fun z hz => by
        rcases List.mem_cons.1 (h z (by simp [hz])) with e | e
        · have := ha'.1 z hz; omega
        · exact e)
      refine ⟨by simp only [List.length_cons]; omega, fun hl => ?_⟩
      rw [ih.2 (by simp only [List.length_cons] at hl; omega)]
    · have hx : x ∈ b := by
        rcases List.mem_cons.1 (h x (by simp)) with e2 | e2
        · exact absurd e2 e
        · exact e2
      have hxy := hb'.1 x hx
      have ih := srt_sub_len (b := b) (a := x :: a) ha hb'.2 (fun z hz => by
        rcases List.mem_cons.1 (h z hz) with e2 | e2
        · rcases List.mem_cons.1 hz with e3 | e3
          · omega
          · have := ha'.1 z e3; omega
        · exact e2)
      have := ih.1
      exact ⟨by simp only [List.length_cons] at *; omega, fun hl => by simp only [List.length_cons] at *; omega⟩
theorem listTo_mem (bs : List Bool) (n : Nat) (y : Int) : y ∈ listTo bs n ↔ ∃ j, j < n ∧ y = (j : Int) ∧ bs.getD j false = true := by
  unfold listTo
  simp only [List.mem_map, List.mem_filter, List.mem_range]
  constructor
  · rintro ⟨j, ⟨h1, h2⟩, rfl⟩
    exact ⟨j, h1, rfl, h2⟩
  · rintro ⟨j, h1, rfl, h2⟩
    exact ⟨j, ⟨h1, h2⟩, rfl⟩
theorem listTo_srt (bs : List Bool) : ∀ n, Srt (listTo bs n)
  | 0 => by simp [listTo, Srt]
  | n + 1 => by
    rw [listTo_step]
    split
    · unfold Srt
      rw [List.pairwise_append]
      refine ⟨listTo_srt bs n, by simp, fun x hx y hy => ?_⟩
      obtain ⟨j, h1, rfl, _⟩ := (listTo_mem bs n x).1 hx
      rw [List.mem_singleton.1 hy]
      omega
    · exact listTo_srt bs n
theorem srt_len12 {l : List Int} (h : Srt l) (hb : ∀ y ∈ l, 0 ≤ y ∧ y < 12) : l.length ≤ 12 := by
  have h1 := srt_sub_len (b := (List.range 12).map (fun j : Nat => (j : Int))) h (by unfold Srt; decide) (fun y hy => by
    have := hb y hy
    exact List.mem_map.2 ⟨y.toNat, List.mem_range.2 (by omega), by omega⟩)
  have := h1.1
  simpa using this
theorem goodG_small {g : List (List Int)} (hG : goodG g = true) : Small g := by
  have hr := goodG_rows hG
  refine ⟨by omega, fun l hl => ?_⟩
  have h := hG
  unfold goodG at h
  simp only [Bool.and_eq_true, decide_eq_true_eq, List.all_eq_true] at h
  have hs : Srt l := by
    have hu := h.2 l hl
    refine List.pairwise_iff_getElem.2 ?_
    have hstep : ∀ j, j + 1 < l.length → l.getD j 0 < l.getD (j + 1) 0 := by
      intro j hj
      have h1 := of_decide_eq_true hu (j + 1) hj (Nat.zero_le _)
      unfold upAt at h1
      simp only [Bool.and_eq_true, Bool.or_eq_true, decide_eq_true_eq] at h1
      rcases h1.2 with h2 | h2
      · omega
      · exact h2
    intro i j hi hj hij
    have : ∀ d, i + d + 1 < l.length → l.getD i 0 < l.getD (i + d + 1) 0 := by
      intro d
      induction d with
      | zero => intro h; exact hstep i h
      | succ d ih => intro h; exact Int.lt_trans (ih (by omega)) (hstep (i + d + 1) h)
    have := this (j - i - 1) (by omega)
    rw [show i + (j - i - 1) + 1 = j by omega, List.getD_eq_getElem?_getD, List.getElem?_eq_getElem hi, List.getD_eq_getElem?_getD, List.getElem?_eq_getElem hj] at this
    exact this
  have := srt_len12 hs (fun y hy => by have := hr.2 l hl y hy; omega)
  omega
theorem mem12 {g : List (List Int)} (hG : goodG g = true) {wo y : Int} (h : Rch g wo 0 y) : 0 ≤ y ∧ y < 12 := by
  have hr := goodG_rows hG
  have := h.rng hG (by decide) (by omega)
  omega
structure Snd (g : List (List Int)) (wo : Int) (acc : List Int) : Prop where
  srt : Srt acc
  snd : ∀ y ∈ acc, Rch g wo 0 y
theorem Snd.len {g : List (List Int)} {wo : Int} {acc : List Int} (hG : goodG g = true) (h : Snd g wo acc) : acc.length ≤ 12 := srt_len12 h.srt (fun y hy => mem12 hG (h.snd y hy))
theorem Snd.put {g : List (List Int)} {wo y : Int} {acc : List Int} (h : Snd g wo acc) (hy : Rch g wo 0 y) : Snd g wo (putL acc y) := ⟨putL_srt y acc h.srt, fun z hz => by
  rcases (putL_mem y acc z).1 hz with e | e
  · exact h.snd z e
  · rw [e]; exact hy⟩
theorem reach_row {g : List (List Int)} (hG : goodG g = true) {wo : Int} {i : Nat} (hi : i < g.length) (n0 : Int) (row : List Int) (hrow : row = g.getD i []) (hx : Rch g wo 0 (i : Int)) :
    ∀ (d m : Nat) (acc : List Int), m + d = row.length → Snd g wo acc → ∃ acc', Snd g wo acc' ∧ (∀ y ∈ acc, y ∈ acc') ∧ (∀ y ∈ row.drop m, y ≠ wo → y ∈ acc') ∧
      ∀ r, Ev (fun k => spec_l10Reach.l1 k wo acc' n0 g (g.length : Int) ((i : Int) + 1) g) r → Ev (fun k => spec_l10Reach.l2 k wo acc n0 g (g.length : Int) (i : Int) row (row.length : Int) (m : Int) g) r := by
  have hr := goodG_rows hG
  intro d
  induction d with
  | zero =>
    intro m acc hm h
    refine ⟨acc, h, fun _ h => h, fun y hy => by rw [List.drop_of_length_le (by omega)] at hy; simp at hy, fun r hr => ?_⟩
    refine Ev.step (fun k => ?_) hr
    simp only [spec_l10Reach.l2]
    rw [if_neg (by omega), w64 (by omega) (by omega)]
  | succ d ih =>
    intro m acc hm h
    have hml : m < row.length := by omega
    have hsm := (goodG_small hG).at hi
    rw [← hrow] at hsm
    have hdrop := drop_eq hml
    have hval : rd row (m : Int) = row.getD m 0 := rfl
    have hmem : row.getD m 0 ∈ row := by
      rw [List.getD_eq_getElem?_getD, List.getElem?_eq_getElem hml]
      exact List.getElem_mem hml
    by_cases e : row.getD m 0 = wo
    · obtain ⟨acc', h1, h2, h3, h4⟩ := ih (m + 1) acc (by omega) h
      refine ⟨acc', h1, h2, fun y hy hw => ?_, fun r hr => ?_⟩
      · rw [hdrop] at hy
        rcases List.mem_cons.1 hy with q | q
        · exact absurd (q.trans e) hw
        · exact h3 y q hw
      · refine Ev.step (fun k => ?_) (h4 r hr)
        simp only [spec_l10Reach.l2]
        rw [if_pos (by omega), if_pos (by omega), if_pos (by omega), hval, if_pos e, w64 (by omega) (by omega)]
        rfl
    · have hry : Rch g wo 0 (row.getD m 0) := .on hx (by rw [Int.toNat_natCast, ← hrow]; exact hmem) e
      obtain ⟨acc', h1, h2, h3, h4⟩ := ih (m + 1) (putL acc (row.getD m 0)) (by omega) (h.put hry)
      refine ⟨acc', h1, fun y hy => h2 y ((putL_mem _ _ _).2 (.inl hy)), fun y hy hw => ?_, fun r hr => ?_⟩
      · rw [hdrop] at hy
        rcases List.mem_cons.1 hy with q | q
        · exact h2 y ((putL_mem _ _ _).2 (.inr q))
        · exact h3 y q hw
      · have hh := h4 r hr
        rw [show ((m + 1 : Nat) : Int) = (m : Int) + 1 from rfl] at hh
        refine Ev.step (fun k => ?_) ((put_ev acc (row.getD m 0) (by have := h.len hG; omega)).bind (f := fun k v => spec_l10Reach.l2 k wo v n0 g (g.length : Int) (i : Int) row (row.length : Int) ((m : Int) + 1) g) hh)
        simp only [spec_l10Reach.l2]
        rw [if_pos (by omega), if_pos (by omega), if_pos (by omega), hval, if_neg e, w64 (by omega) (by omega)]
theorem reach_pass {g : List (List Int)} (hG : goodG g = true) {wo : Int} (n0 : Int) :
    ∀ (d i : Nat) (acc : List Int), i + d = g.length → Snd g wo acc → ∃ acc', Snd g wo acc' ∧ (∀ y ∈ acc, y ∈ acc') ∧ (∀ j : Nat, i ≤ j → j < g.length → (j : Int) ∈ acc → ∀ y ∈ g.getD j [], y ≠ wo → y ∈ acc') ∧
      ∀ r, Ev (fun k => if (acc'.length : Int) = n0 then some acc' else spec_l10Reach.l0 k wo acc' g) r → Ev (fun k => spec_l10Reach.l1 k wo acc n0 g (g.length : Int) (i : Int) g) r := by
  have hr := goodG_rows hG
  intro d
  induction d with
  | zero =>
    intro i acc hi h
    refine ⟨acc, h, fun _ h => h, fun j h1 h2 => by omega, fun r hr => ?_⟩
    refine Ev.step (fun k => ?_) hr
    simp only [spec_l10Reach.l1]
    rw [if_neg (by omega)]
  | succ d ih =>
    intro i acc hi h
    have hil : i < g.length := by omega
    have hlen := h.len hG
    have hhas := has_ev acc (i : Int) (by omega)
    have er : rd_L1 g (i : Int) = g.getD i [] := rfl
    by_cases e : (i : Int) ∈ acc
    · obtain ⟨a1, q1, q2, q3, q4⟩ := reach_row hG hil n0 (g.getD i []) rfl (h.snd _ e) (g.getD i []).length 0 acc (by omega) h
      obtain ⟨acc', h1, h2, h3, h4⟩ := ih (i + 1) a1 (by omega) q1
      refine ⟨acc', h1, fun y hy => h2 y (q2 y hy), fun j j1 j2 hj y hy hw => ?_, fun r hr => ?_⟩
      · by_cases ej : j = i
        · subst ej
          exact h2 y (q3 y (by rw [List.drop_zero]; exact hy) hw)
        · exact h3 j (by omega) j2 (q2 _ hj) y hy hw
      · refine Ev.step (fun k => ?_) (hhas.bind (f := fun k v => if v = true then spec_l10Reach.l2 k wo acc n0 g (g.length : Int) (i : Int) (g.getD i []) ((g.getD i []).length : Int) 0 g else spec_l10Reach.l1 k wo acc n0 g (g.length : Int) ((i : Int) + 1) g) ?_)
        · simp only [spec_l10Reach.l1]
          rw [if_pos (by omega), if_pos (by omega), if_pos (by omega), er, w64 (by omega) (by omega)]
        · rw [decide_eq_true e]
          refine Ev.congr (fun k => by rw [if_pos rfl]; rfl) (q4 r ?_)
          exact h4 r hr
    · obtain ⟨acc', h1, h2, h3, h4⟩ := ih (i + 1) acc (by omega) h
      refine ⟨acc', h1, h2, fun j j1 j2 hj y hy hw => ?_, fun r hr => ?_⟩
      · by_cases ej : j = i
        · subst ej
          exact absurd hj e
        · exact h3 j (by omega) j2 hj y hy hw
      · refine Ev.step (fun k => ?_) (hhas.bind (f := fun k v => if v = true then spec_l10Reach.l2 k wo acc n0 g (g.length : Int) (i : Int) (g.getD i []) ((g.getD i []).length : Int) 0 g else spec_l10Reach.l1 k wo acc n0 g (g.length : Int) ((i : Int) + 1) g) ?_)
        · simp only [spec_l10Reach.l1]
          rw [if_pos (by omega), if_pos (by omega), if_pos (by omega), er, w64 (by omega) (by omega)]
        · rw [decide_eq_false e]
          refine Ev.congr (fun k => by rw [if_neg (by simp)]; rfl) (h4 r hr)
theorem listTo_reach {g : List (List Int)} (hG : goodG g = true) {wo : Int} (y : Int) : y ∈ listTo (reachF g 0 wo) 12 ↔ Rch g wo 0 y := by
  have hr := goodG_rows hG
  rw [listTo_mem]
  constructor
  · rintro ⟨j, hj, rfl, hb⟩
    exact (reach_iff hG (by decide) (by omega) hj).1 hb
  · intro h
    have := mem12 hG h
    refine ⟨y.toNat, by omega, by omega, ?_⟩
    rw [reach_iff hG (by decide) (by omega) (by omega), Int.toNat_of_nonneg this.1]
    exact h
theorem reach_all {g : List (List Int)} (hG : goodG g = true) {wo : Int} (hw : wo ≠ 0) : ∀ (m : Nat) (acc : List Int), Snd g wo acc → (0 : Int) ∈ acc → 13 ≤ acc.length + m → Ev (fun k => spec_l10Reach.l0 k wo acc g) (listTo (reachF g 0 wo) 12) := by
  intro m
  induction m with
  | zero => intro acc h _ hm; have := h.len hG; omega
  | succ m ih =>
    intro acc h h0 hm
    obtain ⟨acc', h1, h2, h3, h4⟩ := reach_pass hG (acc.length : Int) g.length 0 acc (by omega) h
    refine Ev.step (fun k => by simp only [spec_l10Reach.l0]; rfl) (h4 _ ?_)
    have hsub := srt_sub_len h.srt h1.srt h2
    by_cases e : acc'.length = acc.length
    · have eq := hsub.2 e.symm
      subst eq
      refine Ev.congr (fun k => by rw [if_pos rfl]) ?_
      have : acc = listTo (reachF g 0 wo) 12 := by
        refine srt_ext h.srt (listTo_srt _ _) (fun y => ?_)
        rw [listTo_reach hG]
        constructor
        · exact h.snd y
        · intro hy
          induction hy with
          | here _ => exact h0
          | on hx hyx hyw ih2 =>
            have hrx := hx.rng hG (by decide) (by have := goodG_rows hG; omega)
            exact h3 _ (Nat.zero_le _) (by omega) (by rw [Int.toNat_of_nonneg hrx.1]; exact ih2) _ hyx hyw
      rw [this]
      exact Ev.now _
    · refine Ev.congr (fun k => by rw [if_neg (by omega)]) (ih acc' h1 (h2 0 h0) (by omega))
theorem specReach_ev {g : List (List Int)} (hG : goodG g = true) (wo : Int) : Ev (fun k => spec_l10Reach.f k g wo) (listTo (reachF g 0 wo) 12) := by
  unfold spec_l10Reach.f
  by_cases e : wo = 0
  · refine Ev.congr (fun k => by rw [if_pos e]) ?_
    have : listTo (reachF g 0 wo) 12 = [] := by
      unfold reachF
      rw [if_pos e.symm]
      rfl
    rw [this]
    exact Ev.now _
  · refine Ev.congr (fun k => by rw [if_neg e]) (reach_all hG e 12 [0] ⟨by simp [Srt], fun y hy => by rw [List.mem_singleton.1 hy]; exact .here (fun h => e h.symm)⟩ (by simp) (by simp))
theorem listTo_small (bs : List Bool) : (listTo bs 12).length ≤ 1048576 := by have := listTo_len bs 12; omega
end Go.Proofs.Ytplcipjlkogadaa.Q

namespace Go.Proofs.Ytplcipjlkogadaa.H
open Go.RowKit Go.Proofs.YtplcipjlkogadaaW.PrintWords Go.Proofs.YtplcipjlkogadaaW.PrintMore
theorem S_holeG {ti te base : Nat} {W : World} {ok : Nat → Prop} {g n cap : Nat} {xs : List (List Int)} (h : Kd.S (Kd.slice ti (Kd.int .i64)) te W base ok (.slice (some ⟨g, 0, none⟩) n cap) xs) {i : Nat} (hi : i < n) :
    ∃ oki u, W.cell? ⟨g, i, none⟩ = some u ∧ (Kd.int .i64).R ti W base oki u (xs.getD i []) ∧ (∀ k, oki k → ok k) ∧ Kd.H (Kd.slice ti (Kd.int .i64)) te W base ok (.slice (some ⟨g, 0, none⟩) n cap) xs (i : Int) oki [u] := by
  obtain ⟨oki, c1, hcl, hM, hcc, hfr, hoki, hH⟩ := Kd.S_elem h [] (i : Int) (by omega) (by omega)
  obtain ⟨u, rfl, hR⟩ := hM
  rw [Int.toNat_natCast] at hR hcc
  have hu := hcc 0 u rfl
  rw [show i * (Kd.slice ti (Kd.int .i64)).sz + 0 = i from Nat.mul_one i] at hu
  exact ⟨oki, u, hu, hR, fun k hk => (hoki k hk).1, hH⟩
theorem hole_keptG {ti te base g n cap : Nat} {W W' : World} {ok S : Nat → Prop} {xs : List (List Int)} {i : Int} {oki : Nat → Prop} {u : Value} (hH : Kd.H (Kd.slice ti (Kd.int .i64)) te W base ok (.slice (some ⟨g, 0, none⟩) n cap) xs i oki [u]) (hk : Kept W W' S) (hs : ∀ k, S k → oki k) :
    Kd.H (Kd.slice ti (Kd.int .i64)) te W' base ok (.slice (some ⟨g, 0, none⟩) n cap) xs i (fun k => oki k ∨ ok k ∧ W.heap.size ≤ k) [u] := Kd.H_kept (Kd.H_widen hH) hk (fun k _ hn hs' => hn (.inl (hs k hs')))
theorem R_keptB {e base : Nat} {W W' : World} {ok : Nat → Prop} {u v : Value} {ys : List Int} (hv : (Kd.int .i64).R e W base ok v ys) (hk : Kept W W' (fun k => some k = u.ownBlock)) (hne : ∀ k, v.ownBlock = some k → some k ≠ u.ownBlock) : (Kd.int .i64).R e W' base ok v ys :=
  Kd.R_mono (Kd.R_step (Kd.R_tight rfl hv) (fun k hkv hlt => hk.2 k hlt (hne k hkv.symm))) (fun k hkv => hv.1 k hkv.symm)
theorem Own.keptU {e base : Nat} {w W W' : World} {L : List (Nat × Array Value × TypeId)} {ok : Nat → Prop} {u : Value} {ys : List Int} (h : Own w W L) (hv : (Kd.int .i64).R e W base ok u ys) (hk : Kept W W' (fun k => some k = u.ownBlock)) (hb : Below w.heap.size w W') (hne : ∀ x ∈ L, x.2.2 ≠ e) : Own w W' L :=
  ⟨hb, h.base, fun x hx => (hk.2 _ (h.lt x hx) (Kd.R_ne hv (h.blk x hx) (fun e' => hne x hx e'.symm))).trans (h.blk x hx), h.ne⟩
section
variable {P : Program} {ops : Array Oper} {rest : List Oper} {o : Oper} {a : Act} {Q : Exit → Act → World → Prop}
variable {w W : World} {L : List (Nat × Array Value × TypeId)}
theorem own_eputG {ti te g n cap : Nat} (hO : Own w W L) {ok : Nat → Prop} {xs : List (List Int)} {i : Nat} {oki ok2 : Nat → Prop} {u v : Value} {l : List Int} {base2 : Nat}
    (hH : Kd.H (Kd.slice ti (Kd.int .i64)) te W w.heap.size ok (.slice (some ⟨g, 0, none⟩) n cap) xs (i : Int) oki [u]) (hv : (Kd.int .i64).R ti W base2 ok2 v l) (hb2 : w.heap.size ≤ base2) (hin : ∀ k, v.ownBlock = some k → oki k)
    (hgd : o.guard = none) (hN : o.dst = none) {t : TypeId} {p x : Operand} (ho : o.op = .store t p x) (haddr : a.eval p = .pointer (some ⟨g, i, none⟩)) (hx : a.eval x = v) (ht : (P.info? t).map (·.size) = some 1) (hi : i < n) (hg0 : w.heap.size ≤ g) (hgt : ∃ cells, W.heap[g]? = some (.cells cells te (0, 0))) (hne : ∀ y ∈ L, y.2.2 ≠ te)
    (h : ∀ w1, Own w w1 L → Kd.S (Kd.slice ti (Kd.int .i64)) te w1 w.heap.size ok (.slice (some ⟨g, 0, none⟩) n cap) (xs.set i l) → W.grownBy w1 (some g) → wpList P ops Q rest a w1) : wpList P ops Q (o :: rest) a W := by
  obtain ⟨A_, c_, e_⟩ := Kd.R_slice hv
  have hvo : v.cells.toList = [v] := by rw [e_]; rfl
  have hone : ∀ q ∈ [v], q.oneCell' = true := by rw [e_]; simp [Value.oneCell']
  refine Kd.H_store (Kd.slice ti (Kd.int .i64)) (w0 := w) w.heap.size hN hgd t p x ho te (i : Int) 0 xs l v [v] [u] ok oki (fun k => some k = v.ownBlock) haddr (by rw [Int.toNat_natCast]; show i = i * 1 + 0; omega) hx hvo (by rw [ht]; rfl) hone hH (by omega) (by omega) (by show 0 + 1 ≤ 1; omega) (Kd.M_row (Kd.R_tight rfl (Kd.R_lower hv hb2))) (fun k hk => hin k hk.symm) hO.below ?_
  intro w1 hs hb hg
  rw [Int.toNat_natCast] at hs
  refine h w1 (hO.grown hg (fun k hk => ?_)) hs hg
  injection hk with hk
  subst hk
  refine ⟨hg0, fun y hy e => ?_⟩
  obtain ⟨cells, hc⟩ := hgt
  have := hO.blk y hy
  rw [e, hc] at this
  injection this with this
  injection this with _ this
  exact hne y hy this.symm
end
end Go.Proofs.Ytplcipjlkogadaa.H

namespace Go.Proofs.Ytplcipjlkogadaa.Q
open Go.RowKit Go.Proofs.Ytplcipjlkogadaa.P Go.Proofs.Ytplcipjlkogadaa.H Go.Proofs.YtplcipjlkogadaaW.PrintWords
structure Rel (n : Nat) (mem : Nat → Int → Prop) (xs : List (List Int)) : Prop where
  len : xs.length = n
  srt : ∀ b, b < n → Srt (xs.getD b [])
  mem : ∀ b, b < n → ∀ y, y ∈ xs.getD b [] ↔ mem b y
theorem Rel.congr {n : Nat} {m m' : Nat → Int → Prop} {xs : List (List Int)} (h : Rel n m xs) (e : ∀ b, b < n → ∀ y, m b y ↔ m' b y) : Rel n m' xs := ⟨h.len, h.srt, fun b hb y => (h.mem b hb y).trans (e b hb y)⟩
theorem Rel.nil (n : Nat) {m : Nat → Int → Prop} (e : ∀ b, b < n → ∀ y, ¬ m b y) : Rel n m (List.replicate n []) := by
  have he : ∀ b, (List.replicate n ([] : List Int)).getD b [] = [] := by
    intro b
    rw [List.getD_eq_getElem?_getD, List.getElem?_replicate]
    split <;> rfl
  exact ⟨by simp, fun b _ => by rw [he]; exact List.Pairwise.nil, fun b hb y => by rw [he]; simp [e b hb y]⟩
theorem getD_setL {xs : List (List Int)} {k b : Nat} {v : List Int} (hk : k < xs.length) : (xs.set k v).getD b [] = if b = k then v else xs.getD b [] := by
  by_cases e : b = k
  · subst e
    rw [if_pos rfl, List.getD_eq_getElem?_getD, List.getElem?_set_self hk]
    rfl
  · rw [if_neg e, List.getD_eq_getElem?_getD, List.getElem?_set_ne (fun h => e h.symm), List.getD_eq_getElem?_getD]
theorem Rel.put {n : Nat} {m : Nat → Int → Prop} {xs : List (List Int)} (h : Rel n m xs) {k : Nat} (hk : k < n) (x : Int) : Rel n (fun b y => m b y ∨ (b = k ∧ y = x)) (xs.set k (putL (xs.getD k []) x)) := by
  have hkl : k < xs.length := by rw [h.len]; exact hk
  refine ⟨by rw [List.length_set]; exact h.len, fun b hb => ?_, fun b hb y => ?_⟩
  · rw [getD_setL hkl]
    split
    · exact putL_srt _ _ (h.srt k hk)
    · exact h.srt b hb
  · rw [getD_setL hkl]
    by_cases e : b = k
    · subst e
      rw [if_pos rfl, putL_mem, h.mem b hb]
      simp
    · rw [if_neg e, h.mem b hb]
      simp [e]
theorem Rel.uniq {n : Nat} {m : Nat → Int → Prop} {xs ys : List (List Int)} (h : Rel n m xs) (h' : Rel n m ys) : xs = ys := by
  refine List.ext_getElem (by rw [h.len, h'.len]) (fun b h1 h2 => ?_)
  have hb : b < n := by rw [← h.len]; exact h1
  have e1 : xs.getD b [] = xs[b] := by rw [List.getD_eq_getElem?_getD, List.getElem?_eq_getElem h1]; rfl
  have e2 : ys.getD b [] = ys[b] := by rw [List.getD_eq_getElem?_getD, List.getElem?_eq_getElem h2]; rfl
  rw [← e1, ← e2]
  exact srt_ext (h.srt b hb) (h'.srt b hb) (fun y => (h.mem b hb y).trans (h'.mem b hb y).symm)
theorem Rel.len12 {n : Nat} {m : Nat → Int → Prop} {xs : List (List Int)} (h : Rel n m xs) (hm : ∀ b, b < n → ∀ y, m b y → 0 ≤ y ∧ y < 12) {b : Nat} (hb : b < n) : (xs.getD b []).length ≤ 12 := srt_len12 (h.srt b hb) (fun y hy => hm b hb y ((h.mem b hb y).1 hy))
theorem rel_mat (f : Nat → Nat → Bool) (n : Nat) : Rel n (fun b y => ∃ j : Nat, j < 12 ∧ y = (j : Int) ∧ f b j = true) ((matF f n).map (fun r => listTo r 12)) := by
  have he : ∀ b, b < n → ((matF f n).map (fun r => listTo r 12)).getD b [] = listTo (rowF (f b)) 12 := by
    intro b hb
    unfold matF
    rw [List.getD_eq_getElem?_getD, List.getElem?_map, List.getElem?_map, List.getElem?_range hb]
    rfl
  refine ⟨by rw [List.length_map, matF_len], fun b hb => by rw [he b hb]; exact listTo_srt _ _, fun b hb y => ?_⟩
  rw [he b hb, listTo_mem]
  constructor
  · rintro ⟨j, h1, h2, h3⟩
    exact ⟨j, h1, h2, by rwa [rowF_get h1] at h3⟩
  · rintro ⟨j, h1, h2, h3⟩
    exact ⟨j, h1, h2, by rwa [rowF_get h1]⟩
def domL (g : List (List Int)) : List (List Int) := (domF g).map (fun r => listTo r 12)
def domM (g : List (List Int)) (b : Nat) (y : Int) : Prop := (y ∈ listTo (reachF g 0 (-1)) 12) ∧ ((b : Int) ∈ listTo (reachF g 0 (-1)) 12) ∧ ¬ (b : Int) ∈ listTo (reachF g 0 y) 12
theorem reach_bit {g : List (List Int)} (hG : goodG g = true) (wo : Int) {j : Nat} (hj : j < 12) : (j : Int) ∈ listTo (reachF g 0 wo) 12 ↔ (reachF g 0 wo).getD j false = true := by
  rw [listTo_mem]
  constructor
  · rintro ⟨i, _, e, h⟩
    rwa [show j = i by omega]
  · intro h
    exact ⟨j, hj, rfl, h⟩
theorem domL_rel {g : List (List Int)} (hG : goodG g = true) : Rel g.length (domM g) (domL g) := by
  have hr := goodG_rows hG
  refine (rel_mat _ _).congr (fun b hb y => ?_)
  constructor
  · rintro ⟨j, h1, rfl, h2⟩
    unfold domV at h2
    simp only [Bool.and_eq_true, decide_eq_true_eq, Bool.not_eq_true'] at h2
    exact ⟨(reach_bit hG _ h1).2 h2.2.1, (reach_bit hG _ (by omega)).2 h2.2.2.1, fun h => by rw [reach_bit hG _ (by omega), h2.2.2.2] at h; cases h⟩
  · rintro ⟨h1, h2, h3⟩
    have hy := (listTo_reach hG y).1 h1
    have hyr := hy.rng hG (by decide) (by omega)
    refine ⟨y.toNat, by omega, by omega, ?_⟩
    have e : ((y.toNat : Nat) : Int) = y := by omega
    unfold domV
    simp only [Bool.and_eq_true, decide_eq_true_eq, Bool.not_eq_true']
    refine ⟨by omega, (reach_bit hG _ (by omega)).1 (by rw [e]; exact h1), (reach_bit hG _ (by omega)).1 h2, ?_⟩
    rw [e]
    cases hb2 : (reachF g 0 y).getD b false with
    | false => rfl
    | true => exact absurd ((reach_bit hG _ (by omega)).2 hb2) h3
end Go.Proofs.Ytplcipjlkogadaa.Q

namespace Go.Proofs.Ytplcipjlkogadaa.P
open Go.RowKit Go.Proofs.YtplcipjlkogadaaW.PrintWords Go.Proofs.YtplcipjlkogadaaW.PrintLast Go.Proofs.YtplcipjlkogadaaW.PrintMore
attribute [local go_sem] max2_int min2_int max_two min_two max_three min_three max_four min_four
def spec_l10Dominators.f (l0_0 : List (List Int)) : Option (List (List Int)) := if H.goodG l0_0 then some (Q.domL l0_0) else none
theorem has_any (l : List Int) (hl : l.length ≤ 1048576) (A : Option Addr) (c : Nat) (x : Int) (W : World) (h : Kd.C (Kd.int .i64) W A l.length l) (hc : l.length ≤ c) : Calls Try.prog 65 #[.slice A l.length c, .int .i64 x] W fun e w' => e = .returned (.bool (decide (x ∈ l))) ∧ Drawn0 W w' := by
  obtain ⟨k, hk⟩ := Ev.rounds (Q.has_ev l x hl)
  exact spec_l1Has.calls k A c l x _ W h hc hk
theorem put_any (l : List Int) (hl : l.length ≤ 1048576) (x : Int) (u : Value) (ok : Nat → Prop) (w0 W : World) (hB : Below w0.heap.size w0 W) (h : Kd.R (Kd.int .i64) 3 W w0.heap.size ok u l) :
    Calls Try.prog 73 #[u, .int .i64 x] W fun e w' => ∃ v0_ : Value, e = .returned (v0_) ∧ Kd.R (Kd.int .i64) 3 w' w0.heap.size (fun k_ => (some k_ = u.ownBlock) ∨ W.heap.size ≤ k_) v0_ (Q.putL l x) ∧ Below w0.heap.size w0 w' ∧ Kept W w' (fun k_ => some k_ = u.ownBlock) := by
  obtain ⟨k, hk⟩ := Ev.rounds (Q.put_ev l x hl)
  exact spec_l1Put.calls k (fun k_ => some k_ = u.ownBlock) u l x _ w0 W hB (Kd.R_tight rfl h) hk
theorem reach_any {g : List (List Int)} (hG : H.goodG g = true) (A : Option Addr) (c : Nat) (wo : Int) (W : World) (h : Kd.C (Kd.slice 3 (Kd.int .i64)) W A g.length g) (hc : g.length ≤ c) :
    Calls Try.prog 60 #[.agg #[.slice A g.length c], .int .i64 wo] W fun e w' => ∃ v0_ : Value, e = .returned (v0_) ∧ Kd.R (Kd.int .i64) 3 w' W.heap.size (fun _ => True) v0_ (listTo (H.reachF g 0 wo) 12) ∧ Below W.heap.size W w' := by
  obtain ⟨k, hk⟩ := Ev.rounds (Q.specReach_ev hG wo)
  exact spec_l10Reach.calls k A c g wo _ W h hc hk
set_option maxHeartbeats 8000000 in
set_option maxRecDepth 100000 in
theorem spec_l10Dominators.calls (A0_0 : Option Addr) (c0_0 : Nat) (l0_0 : List (List Int)) (r : List (List Int)) (w : World) (hr0_0 : Kd.C (Kd.slice 3 (Kd.int .i64)) w A0_0 l0_0.length l0_0) (hc0_0 : l0_0.length ≤ c0_0) (h : spec_l10Dominators.f l0_0 = some r) :
    Calls Try.prog 64 #[.agg #[.slice A0_0 l0_0.length c0_0]] w fun e w' => ∃ v0_ : Value, e = .returned (v0_) ∧ Kd.S (Kd.slice 3 (Kd.int .i64)) 31 w' w.heap.size (fun _ => True) v0_ r ∧ Below w.heap.size w w' := by
  unfold spec_l10Dominators.f at h
  cases hG : H.goodG l0_0 with
  | false => rw [hG] at h; exact absurd h (by simp)
  | true =>
    rw [hG, if_pos rfl] at h
    obtain rfl := Option.some.inj h
    have hr := H.goodG_rows hG
    have hn1 : 1 ≤ l0_0.length := hr.1.1
    have hn2 : l0_0.length ≤ 12 := hr.1.2
    have HR0 := Aside0.mk hr0_0
    have HC0 := Aside0.mk hc0_0
    have HG := Aside0.mk hG
    have HO := Aside0.mk (H.Own.nil w)
    have HRE := Aside0.mk (fun (W : World) (hb : Below w.heap.size w W) (wo : Int) => reach_any hG A0_0 c0_0 wo W (Kd.C_below HR0.out hb) HC0.out)
    have HRL := Aside0.mk (fun wo => Q.listTo_small (H.reachF l0_0 0 wo))
    have HRIN := Aside0.mk (fun y (hy : y ∈ listTo (H.reachF l0_0 0 (-1)) 12) => ((Q.listTo_reach hG y).1 hy).rng hG (by decide) (by omega))
    clear hr0_0 hc0_0 hG h hr
    have hI : (Try.prog.info? 31).map (·.size) = some 1 := by kernel_rfl
    have HI := Aside0.mk hI
    clear hI
    obtain ⟨R, hR⟩ : ∃ R, listTo (H.reachF l0_0 0 (-1)) 12 = R := ⟨_, rfl⟩
    have HRS := Aside0.mk (HRL.out (-1))
    rw [hR] at HRIN HRS
    have HRD := Aside0.mk hR
    clear hR
    have hrs := HRS.out
    go_enter Try.func64, Try.ntmps64
    go_wp2_with (first | ((with_reducible refine gate_dst (N := 1) rfl ?_); refine H.own_box HO.out ?bxg (N := 1) ?bxd (cs := #[Value.slice A0_0 l0_0.length c0_0]) (t := 27) ?bxr ?_; (case bxd => rfl); (case bxg => rfl); (case bxr => first | (go_simp; done) | (go_simp; rfl)); intro gp w_ ho_ hb_; replace HO := Aside0.mk ho_; clear ho_ hb_) | ((with_reducible refine gate_dst (N := 10) rfl ?_); refine wpList_load_row rfl 27 (.tmp 1) rfl _ rfl 27 _ (0, 0) _ (HO.out.get 0 rfl) Try.underlying27 rfl (by kernel_rfl) ?_) | (go_at_call 60; refine (HRE.out _ HO.out.below (-1)).mono ?_; rw [HRD.out]; rintro e w' ⟨vr, rfl, hv, hb⟩; obtain ⟨AR, cR, rfl⟩ := Kd.R_slice hv; obtain ⟨N1, hN1⟩ : ∃ N1, w'.heap.size = N1 := ⟨_, rfl⟩; have HV := Aside0.mk (Kd.R_mono (ok' := fun k => k < N1) (H.R_upto (Kd.R_lower hv HO.out.size)) (fun k hk => hN1 ▸ hk.2)); have HN1 := Aside0.mk hN1; replace HO := Aside0.mk (HO.out.step hb); have hx1 := HO.out.cell 0 rfl 0; clear hv hb hN1) | ((with_reducible refine gate_dst (N := 15) rfl ?_); refine Kd.S_make (Kd.slice 3 (Kd.int .i64)) (w0 := _) _ 31 rfl (N := 15) rfl 22 _ _ rfl (l0_0.length : Int) rfl rfl Try.underlying22 (.slice none 0 0) 24 info31 rfl (by decide) (by omega) [] (ok := fun _ => True) (okp := fun _ => True) ⟨_, rfl, Kd.R_nil _ _ _ _ _⟩ (fun _ hk => hk) trivial (by omega) (by simp only [Int.toNat_natCast]; omega) (Below.refl _ _) (Nat.le_refl _) ?_; intro vs w_ ho_ hb_ hg_ hnew_; replace HV := Aside0.mk (Kd.R_below HV.out hb_); have HS := Aside0.mk (Kd.S_lower (Kd.S_mono (ok' := fun k => N1 ≤ k) (H.S_upto ho_) (fun k hk => by rw [← HN1.out]; exact hk.1)) HO.out.size); have HNW := Aside0.mk (show N1 ≤ w_.heap.size by rw [← HN1.out]; exact hb_.size); replace HO := Aside0.mk (HO.out.step hb_); clear ho_ hb_ hg_ hnew_ hx1 HN1))
    rw [Int.toNat_natCast] at HS
    obtain ⟨gs, cs, rfl, hgs0, _, _⟩ := Kd.S_form HS.out (by simp; omega)
    rw [List.length_replicate] at HS ⊢
    have HGS0 := Aside0.mk hgs0
    clear hgs0
    go_loopw [18] (fun v18 wr => ∃ (i : Nat) (xs : List (List Int)), v18 = .int .i64 i ∧ i ≤ R.length ∧ Aside0 (Kd.S (Kd.slice 3 (Kd.int .i64)) 31 wr w.heap.size (fun k => N1 ≤ k) (.slice (some ⟨gs, 0, none⟩) l0_0.length cs) xs) ∧ Aside0 (Q.Rel l0_0.length (fun b y => y ∈ R.take i ∧ (b : Int) ∈ R ∧ ¬ (b : Int) ∈ listTo (H.reachF l0_0 0 y) 12) xs) ∧ Aside0 ((Kd.int .i64).R 3 wr w.heap.size (fun k => k < N1) (.slice AR R.length cR) R) ∧ Aside0 (N1 ≤ wr.heap.size) ∧ Aside0 (H.Own w wr [(gp, #[Value.slice A0_0 l0_0.length c0_0], 27)])) (fun v18 _ => R.length - (intOf v18).toNat)
    case atStart => exact ⟨0, _, rfl, Nat.zero_le _, HS, ⟨Q.Rel.nil _ (fun b _ y h => by simp at h)⟩, HV, HNW, HO⟩
    case round =>
      clear HO HS HV HNW
      obtain ⟨i, xs, rfl, hi, HS, HREL, HV, HNW, HO⟩ := hrel
      by_cases hlt : i < R.length
      · obtain ⟨ad1, e1, hc1⟩ := Kd.at_int (Kd.R_reads' HV.out).2.2 (i : Int) (by omega) (by omega)
        subst e1
        rw [Int.toNat_natCast] at hc1
        have hd : rd R (i : Int) = R.getD i 0 := rfl
        rw [hd] at hc1
        have htk : R.take (i + 1) = R.take i ++ [R.getD i 0] := by rw [List.take_add_one, List.getElem?_eq_getElem hlt, List.getD_eq_getElem?_getD, List.getElem?_eq_getElem hlt]; rfl
        obtain ⟨d, hdd⟩ : ∃ d, R.getD i 0 = d := ⟨_, rfl⟩
        rw [hdd] at hc1 htk
        have HTK := Aside0.mk htk
        have hil : (i : Int) < (R.length : Int) := by omega
        obtain ⟨Wd, hWd⟩ : ∃ Wd, listTo (H.reachF l0_0 0 d) 12 = Wd := ⟨_, rfl⟩
        have HWL := HRL.out d
        rw [hWd] at HWL
        have HWD := Aside0.mk hWd
        have HWS := Aside0.mk HWL
        clear hd htk hdd HWL hWd
        go_wp2_with (first | ((with_reducible refine gate_dst (N := 22) rfl ?_); refine wpList_load_row rfl 27 (.tmp 1) rfl _ rfl 27 _ (0, 0) _ (HO.out.get 0 rfl) Try.underlying27 rfl (by kernel_rfl) ?_) | (go_at_call 60; refine (HRE.out _ HO.out.below d).mono ?_; rw [HWD.out]; rintro e w' ⟨vw, rfl, hv, hb⟩; obtain ⟨AW, cW, rfl⟩ := Kd.R_slice hv; have HW := Aside0.mk (Kd.R_lower hv HO.out.size); replace HS := Aside0.mk (Kd.S_elder' HS.out (Kd.R_base hv) hb); replace HV := Aside0.mk (Kd.R_below HV.out hb); replace HNW := Aside0.mk (Nat.le_trans HNW.out hb.size); replace HO := Aside0.mk (HO.out.step hb); clear hv hb hc1))
        go_loopw [27] (fun v27 wr => ∃ (j : Nat) (xs : List (List Int)), v27 = .int .i64 j ∧ j ≤ R.length ∧ Aside0 (Kd.S (Kd.slice 3 (Kd.int .i64)) 31 wr w.heap.size (fun k => N1 ≤ k ∧ some k ≠ (Value.slice AW Wd.length cW).ownBlock) (.slice (some ⟨gs, 0, none⟩) l0_0.length cs) xs) ∧ Aside0 (Q.Rel l0_0.length (fun b y => (y ∈ R.take i ∧ (b : Int) ∈ R ∧ ¬ (b : Int) ∈ listTo (H.reachF l0_0 0 y) 12) ∨ (y = d ∧ (b : Int) ∈ R.take j ∧ ¬ (b : Int) ∈ Wd)) xs) ∧ Aside0 ((Kd.int .i64).R 3 wr w.heap.size (fun k => k < N1) (.slice (some ad1) R.length cR) R) ∧ Aside0 ((Kd.int .i64).R 3 wr w.heap.size (fun _ => True) (.slice AW Wd.length cW) Wd) ∧ Aside0 (N1 ≤ wr.heap.size) ∧ Aside0 (H.Own w wr [(gp, #[Value.slice A0_0 l0_0.length c0_0], 27)])) (fun v27 _ => R.length - (intOf v27).toNat)
        case atStart => exact ⟨0, xs, rfl, Nat.zero_le _, HS, ⟨HREL.out.congr (fun b _ y => by simp)⟩, HV, HW, HNW, HO⟩
        case round =>
          clear HO HS HV HNW HREL HW
          obtain ⟨j, xs, rfl, hj, HS, HREL, HV, HW, HNW, HO⟩ := hrel
          by_cases hlt2 : j < R.length
          · obtain ⟨ad2, e2, hc2⟩ := Kd.at_int (Kd.R_reads' HV.out).2.2 (j : Int) (by omega) (by omega)
            injection e2 with e2
            subst e2
            rw [Int.toNat_natCast] at hc2
            have hd : rd R (j : Int) = R.getD j 0 := rfl
            rw [hd] at hc2
            have htk : R.take (j + 1) = R.take j ++ [R.getD j 0] := by rw [List.take_add_one, List.getElem?_eq_getElem hlt2, List.getD_eq_getElem?_getD, List.getElem?_eq_getElem hlt2]; rfl
            have hin := HRIN.out (R.getD j 0) (by rw [List.getD_eq_getElem?_getD, List.getElem?_eq_getElem hlt2]; exact List.getElem_mem hlt2)
            obtain ⟨k, hkk⟩ : ∃ k : Nat, R.getD j 0 = (k : Int) := ⟨(R.getD j 0).toNat, by omega⟩
            rw [hkk] at hc2 htk hin
            have HTK2 := Aside0.mk htk
            have hjl : (j : Int) < (R.length : Int) := by omega
            have hkn : (k : Int) < (l0_0.length : Int) := hin.2
            have HKN := Aside0.mk (show k < l0_0.length by omega)
            clear hd htk hkk hin
            obtain ⟨dd, hdd⟩ : ∃ dd, decide ((k : Int) ∈ Wd) = dd := ⟨_, rfl⟩
            have HDD := Aside0.mk hdd
            clear hdd
            cases dd with
            | true =>
              go_wp2_with (go_at_call 65; refine (has_any Wd HWS.out _ _ (k : Int) _ (Kd.R_reads' HW.out).2.2 (Kd.R_reads' HW.out).2.1).mono ?_; rw [HDD.out]; rintro e w2 ⟨rfl, hd⟩; replace HV := Aside0.mk (Kd.R_below HV.out hd.below); replace HW := Aside0.mk (Kd.R_below HW.out hd.below); replace HS := Aside0.mk (Kd.S_below HS.out hd.below); replace HNW := Aside0.mk (Nat.le_trans HNW.out hd.below.size); replace HO := Aside0.mk (HO.out.step hd.below); clear hd hc2)
              refine ⟨⟨j + 1, xs, by go_num, by omega, HS, ⟨HREL.out.congr (fun b _ y => by
                have hw := of_decide_eq_true HDD.out
                rw [HTK2.out, List.mem_append, List.mem_singleton]
                constructor
                · rintro (h | ⟨h1, h2, h3⟩)
                  · exact .inl h
                  · exact .inr ⟨h1, .inl h2, h3⟩
                · rintro (h | ⟨h1, h2 | h2, h3⟩)
                  · exact .inl h
                  · exact .inr ⟨h1, h2, h3⟩
                  · rw [h2] at h3
                    exact absurd hw h3)⟩, HV, HW, HNW, HO⟩, ?_⟩
              simp [intOf]
              omega
            | false =>
              obtain ⟨oki, u, hu, hRu, hoki, hH⟩ := H.S_holeG HS.out HKN.out
              have hgt := Kd.S_typed HS.out gs (by simp [Value.ownBlock])
              have HRU := Aside0.mk hRu
              have HOK := Aside0.mk hoki
              have HH := Aside0.mk hH
              have HGT := Aside0.mk hgt
              have HU := Aside0.mk hu
              have HXL := Aside0.mk (show (xs.getD k []).length ≤ 1048576 by
                have := HREL.out.len12 (fun b hb y h => by
                  have hy : y ∈ R := by
                    rcases h with h | h
                    · exact List.mem_of_mem_take h.1
                    · have := HTK.out
                      rw [h.1]
                      exact List.mem_of_mem_take (i := i + 1) (by rw [this]; simp)
                  have := HRIN.out y hy
                  omega) HKN.out
                omega)
              clear hRu hoki hH hgt hu HS
              go_wp2_with (first | (go_at_call 65; refine (has_any Wd HWS.out _ _ (k : Int) _ (Kd.R_reads' HW.out).2.2 (Kd.R_reads' HW.out).2.1).mono ?_; rw [HDD.out]; rintro e w2 ⟨rfl, hd⟩; replace HV := Aside0.mk (Kd.R_below HV.out hd.below); replace HW := Aside0.mk (Kd.R_below HW.out hd.below); replace HRU := Aside0.mk (Kd.R_below HRU.out hd.below); replace HH := Aside0.mk (Kd.H_below HH.out hd.below); replace HNW := Aside0.mk (Nat.le_trans HNW.out hd.below.size); replace HO := Aside0.mk (HO.out.step hd.below); have hu := pw_cell_below hd.below HU.out; replace HGT := Aside0.mk (HGT.out.imp (fun cells hc => blk_below hc hd.below)); clear hd hc2 HU) | (go_at_call 73; refine (put_any (xs.getD k []) HXL.out d u _ w _ HO.out.below HRU.out).mono ?_; rintro e w3 ⟨v0, rfl, hv0, hb, hk⟩; obtain ⟨A0, c0, rfl⟩ := Kd.R_slice hv0; have HIN : Aside0 (∀ k, (Value.slice A0 (Q.putL (xs.getD k []) d).length c0).ownBlock = some k → True) := ⟨fun _ _ => trivial⟩; clear HIN; have HV0 := Aside0.mk hv0; have HPU := Aside0.mk (fun k (hk : some k = u.ownBlock) => HOK.out k (HRU.out.1 k hk.symm)); have HWlt := Aside0.mk (Kd.R_lt HW.out); replace HH := Aside0.mk (H.hole_keptG HH.out hk (fun k hk => HRU.out.1 k hk.symm)); replace HV := Aside0.mk (H.R_keptB HV.out hk (fun k h1 h2 => by have a1 := HV.out.1 k h1; have a2 := (HPU.out k h2).1; omega)); replace HW := Aside0.mk (H.R_keptB HW.out hk (fun k h1 h2 => (HPU.out k h2).2 h1.symm)); replace HGT := Aside0.mk (HGT.out.imp (fun cells hc => (hk.2 gs (blk_lt hc) (Kd.R_ne HRU.out hc (by decide))).trans hc)); have HNW' := HNW; replace HNW := Aside0.mk (Nat.le_trans HNW.out hk.1); have HIN := Aside0.mk (fun k (h : (Value.slice A0 (Q.putL (xs.getD k []) d).length c0).ownBlock = some k) => trivial); clear HIN; replace HO := Aside0.mk (HO.out.keptU HRU.out hk hb (by simp)); clear hv0 hb hk hu) | ((with_reducible refine gate_store (t := 31) (p := 43) rfl ?_); refine H.own_eputG HO.out HH.out HV0.out (Nat.le_refl _) (fun q hq => by rcases HV0.out.1 q hq with h | h; exact .inl (HRU.out.1 q h.symm); exact .inr ⟨⟨Nat.le_trans HNW'.out h, fun e => by have := HWlt.out q e.symm; omega⟩, h⟩) rfl rfl rfl rfl rfl HI.out HKN.out HGS0.out HGT.out (by simp) ?_; intro w_ ho_ hs_ hg_; replace HV := Aside0.mk (Kd.R_over' (e' := 31) (v := .slice (some ⟨gs, 0, none⟩) 0 0) HV.out (fun q hq => by have : gs = q := (by simpa [Value.ownBlock] using hq); rw [← this]; exact HGT.out) (by decide) hg_); replace HW := Aside0.mk (Kd.R_over' (e' := 31) (v := .slice (some ⟨gs, 0, none⟩) 0 0) HW.out (fun q hq => by have : gs = q := (by simpa [Value.ownBlock] using hq); rw [← this]; exact HGT.out) (by decide) hg_); replace HNW := Aside0.mk (Nat.le_trans HNW.out hg_.size); have HS := Aside0.mk hs_; replace HO := Aside0.mk ho_; clear ho_ hs_ hg_))
              go_roundw
              case rel => exact ⟨j + 1, _, by go_num, by omega, HS, ⟨(HREL.out.put HKN.out d).congr (fun b _ y => by
                have hw := of_decide_eq_false HDD.out
                rw [HTK2.out, List.mem_append, List.mem_singleton]
                constructor
                · rintro ((h | ⟨h1, h2, h3⟩) | ⟨h1, h2⟩)
                  · exact .inl h
                  · exact .inr ⟨h1, .inl h2, h3⟩
                  · subst h1
                    exact .inr ⟨h2, .inr rfl, hw⟩
                · rintro (h | ⟨h1, h2 | h2, h3⟩)
                  · exact .inl (.inl h)
                  · exact .inl (.inr ⟨h1, h2, h3⟩)
                  · exact .inr ⟨by omega, h1⟩)⟩, HV, HW, HNW, HO⟩
              case measure => simp [intOf]; omega
          · have hE : j = R.length := by omega
            subst hE
            go_wp2
            go_roundw
            case rel => exact ⟨i + 1, xs, by go_num, by omega, ⟨Kd.S_mono HS.out (fun k hk => hk.1)⟩, ⟨HREL.out.congr (fun b _ y => by
              rw [HTK.out, List.mem_append, List.mem_singleton, List.take_length]
              constructor
              · rintro (h | ⟨h1, h2, h3⟩)
                · exact ⟨.inl h.1, h.2⟩
                · subst h1
                  exact ⟨.inr rfl, h2, by rw [HWD.out]; exact h3⟩
              · rintro ⟨h | h, h2, h3⟩
                · exact .inl ⟨h, h2, h3⟩
                · subst h
                  exact .inr ⟨rfl, h2, by rw [HWD.out] at h3; exact h3⟩)⟩, HV, HNW, HO⟩
            case measure => simp [intOf]; omega
      · have hE : i = R.length := by omega
        subst hE
        have hfin : xs = Q.domL l0_0 := by
          refine (HREL.out.congr (fun b _ y => ?_)).uniq (Q.domL_rel HG.out)
          unfold Q.domM
          rw [HRD.out, List.take_length]
        subst hfin
        go_wp2
        go_ret
        exact ⟨_, rfl, Kd.S_mono HS.out (fun _ _ => trivial), HO.out.below⟩
end Go.Proofs.Ytplcipjlkogadaa.P

namespace Go.Proofs.Ytplcipjlkogadaa.P
open Go.RowKit Go.Proofs.YtplcipjlkogadaaW.PrintWords Go.Proofs.YtplcipjlkogadaaW.PrintLast Go.Proofs.YtplcipjlkogadaaW.PrintMore
attribute [local go_sem] max2_int min2_int max_two min_two max_three min_three max_four min_four
mutual
def spec_BackEdges.l0 : Nat → List (List Int) → List (List Int) → List (List Int) → Int → Int → Option ((List (List Int)) × Bool)
  | 0, _, _, _, _, _ => none
  | k + 1, x4, x5, x16, x17, x18 => if x18 < x17 then (if 0 ≤ x18 then (if x18 < (x16.length : Int) then (spec_BackEdges.l1 k x4 x5 x18 x16 x17 x18 (rd_L1 x16 x18) ((rd_L1 x16 x18).length : Int) 0) else (none)) else (none)) else (some (x5, true))
def spec_BackEdges.l1 : Nat → List (List Int) → List (List Int) → Int → List (List Int) → Int → Int → List Int → Int → Int → Option ((List (List Int)) × Bool)
  | 0, _, _, _, _, _, _, _, _, _ => none
  | k + 1, x4, x5, x6, x16, x17, x18, x23, x24, x25 => if x25 < x24 then (if 0 ≤ x25 then (if x25 < (x23.length : Int) then (if 0 ≤ x6 then (if x6 < (x4.length : Int) then ((spec_l1Has.f k (rd_L1 x4 x6) (rd x23 x25)).bind fun t289 => (if t289 = true then (if x5.length < 5864062014805 then (spec_BackEdges.l1 k x4 (x5 ++ [(([x6, rd x23 x25] : List Int))]) x6 x16 x17 x18 x23 x24 (wrap64 (x25 + 1))) else (none)) else (spec_BackEdges.l1 k x4 x5 x6 x16 x17 x18 x23 x24 (wrap64 (x25 + 1))))) else (none)) else (none)) else (none)) else (none)) else (spec_BackEdges.l0 k x4 x5 x16 x17 (wrap64 (x18 + 1)))
end
def spec_BackEdges.f (k : Nat) (l0_0 : List (List Int)) : Option ((List (List Int)) × Bool) := (spec_GoodGraph.f k l0_0).bind fun t282 => (if t282 = true then ((spec_l10Dominators.f l0_0).bind fun t283 => (spec_BackEdges.l0 k t283 ([] : List (List Int)) l0_0 (l0_0.length : Int) 0)) else (some (([] : List (List Int)), false)))
set_option maxHeartbeats 8000000 in
set_option maxRecDepth 100000 in
theorem spec_BackEdges.calls (k : Nat) (A0_0 : Option Addr) (c0_0 : Nat) (l0_0 : List (List Int)) (r1 : List (List Int)) (r2 : Bool) (w : World) (hr0_0 : Kd.C (Kd.slice 3 (Kd.int .i64)) w A0_0 l0_0.length l0_0) (hc0_0 : l0_0.length ≤ c0_0) (h : spec_BackEdges.f k l0_0 = some (r1, r2)) :
    Calls Try.prog 38 #[.agg #[.slice A0_0 l0_0.length c0_0]] w fun e w' => ∃ v0_ : Value, e = .returned (.tuple #[v0_, .bool r2]) ∧ Kd.S (Kd.slice 3 (Kd.int .i64)) 31 w' w.heap.size (fun _ => True) v0_ r1 ∧ Below w.heap.size w w' := by
  have hu27 := Try.underlying27
  have HR0_0 := Aside0.mk hr0_0
  have HC0_0 := Aside0.mk hc0_0
  clear hr0_0 hc0_0
  have HB := Aside0.mk (Below.refl w.heap.size w)
  have H : ((spec_GoodGraph.f k l0_0).bind fun t282 => (if t282 = true then ((spec_l10Dominators.f l0_0).bind fun t283 => (spec_BackEdges.l0 k t283 ([] : List (List Int)) l0_0 (l0_0.length : Int) 0)) else (some (([] : List (List Int)), false)))) = some (r1, r2) := h
  clear h
  replace H := Option.bind_eq_some_iff.mp H
  obtain ⟨t282, A20, H⟩ := H
  replace H : (if t282 = true then ((spec_l10Dominators.f l0_0).bind fun t283 => (spec_BackEdges.l0 k t283 ([] : List (List Int)) l0_0 (l0_0.length : Int) 0)) else (some (([] : List (List Int)), false))) = some (r1, r2) := H
  have A2 := Aside0.mk A20
  clear A20
  by_cases c3 : t282 = true
  · subst c3
    have H1 : ((spec_l10Dominators.f l0_0).bind fun t283 => (spec_BackEdges.l0 k t283 ([] : List (List Int)) l0_0 (l0_0.length : Int) 0)) = some (r1, r2) := by rw [if_pos rfl] at H; exact H
    clear H
    have H := H1
    clear H1
    replace H := Option.bind_eq_some_iff.mp H
    obtain ⟨t283, A40, H⟩ := H
    replace H : (spec_BackEdges.l0 k t283 ([] : List (List Int)) l0_0 (l0_0.length : Int) 0) = some (r1, r2) := H
    have A4 := Aside0.mk A40
    clear A40
    have H' := Aside0.mk H
    clear H
    go_enter Try.func38, Try.ntmps38
    go_wp2_with (first | ((with_reducible refine gate_dst (N := 1) rfl ?_); refine box_event ?hg (N := 1) ?hd (cs := #[.slice A0_0 l0_0.length c0_0]) (t := 27) ?hr ?_; (case hd => rfl); (case hg => rfl); (case hr => first | (go_simp; done) | (go_simp; rfl)); intro gb281 hg w5 hbox hb; have n0_ := Aside0.mk (below_step (by repeat (first | (with_reducible first | exact HB.out | apply below_alloc | apply pw_below_drewN | apply below_drew1) | exact HB.out)) hb); have n1_ := Aside0.mk (hbox); have n2_ := Aside0.mk ((by rw [hg]; exact (below_size (by repeat (first | (with_reducible first | exact HB.out | apply below_alloc | apply pw_below_drewN | apply below_drew1) | exact HB.out))) : w.heap.size ≤ gb281)); have n3_ := Aside0.mk ((by rw [hg]; exact (below_size (by repeat (first | (with_reducible first | exact HB.out | apply below_alloc | apply pw_below_drewN | apply below_drew1) | exact HB.out))) : w.heap.size ≤ gb281)); clear HB; have HB := n0_; have BK281 := n1_; have GW281 := n2_; have GE281 := n3_; clear n0_ n1_ n2_ n3_; clear hb hbox hg; have hcz6_0 : w5.cell? ⟨gb281, 0, none⟩ = some (.slice A0_0 l0_0.length c0_0) := (blk_cell BK281.out 0).trans rfl; have hfz6_0 := blk_frozen BK281.out 0) | ((with_reducible refine gate_callee (f := 16) rfl ?_); refine goesL_ (some 11) rfl rfl Try.func16 (by kernel_rfl) rfl #[.agg #[.slice A0_0 l0_0.length c0_0]] rfl (by (try simp only [List.map_toArray, List.map_cons, List.map_nil]); first | done | rfl | (simp only [List.length_drop, List.length_take]; rfl)) ?_; (with_reducible refine (spec_GoodGraph.calls k _ _ l0_0 true _ ?side1 ?side2 A2.out).mono ?_); (case side1 => repeat (first | exact (Kd.C_below HR0_0.out HB.out) | (with_reducible refine Kd.C_alloc ?_ _) | (with_reducible refine Kd.C_drewN ?_ _) | (with_reducible refine Kd.C_drew ?_))); (case side2 => exact HC0_0.out); rintro e w7 ⟨rfl, hb⟩; refine ⟨_, rfl, ?_⟩; have n0_ := Aside0.mk (blk_below (g := gb281) (o := .cells #[.slice A0_0 l0_0.length c0_0] 27 (0, 0)) (by (with_reducible repeat (first | refine blk_drewN ?_ _ | refine blk_drew ?_ | refine blk_alloc ?_ _)); exact BK281.out) hb); have n1_ := Aside0.mk (below_step (by repeat (first | (with_reducible first | exact HB.out | apply below_alloc | apply pw_below_drewN | apply below_drew1 | refine below_set ?_ GE281.out) | exact HB.out)) hb); clear BK281; clear HB; have BK281 := n0_; have HB := n1_; clear n0_ n1_; (try clear hb); (try clear hb2); (try clear hk); (try clear hi); have hcz8_0 : w7.cell? ⟨gb281, 0, none⟩ = some (.slice A0_0 l0_0.length c0_0) := (blk_cell BK281.out 0).trans rfl; have hfz8_0 := blk_frozen BK281.out 0) | ((with_reducible refine gate_callee (f := 64) rfl ?_); refine goesL_ (some 14) rfl rfl Try.func64 (by kernel_rfl) rfl #[.agg #[.slice A0_0 l0_0.length c0_0]] rfl (by (try simp only [List.map_toArray, List.map_cons, List.map_nil]); first | done | rfl | (simp only [List.length_drop, List.length_take]; rfl)) ?_; (with_reducible refine (spec_l10Dominators.calls _ _ l0_0 t283 _ ?side1 ?side2 A4.out).mono ?_); (case side1 => repeat (first | exact (Kd.C_below HR0_0.out HB.out) | (with_reducible refine Kd.C_alloc ?_ _) | (with_reducible refine Kd.C_drewN ?_ _) | (with_reducible refine Kd.C_drew ?_))); (case side2 => exact HC0_0.out); rintro e w9 ⟨v284, rfl, ho0, hb⟩; refine ⟨_, rfl, ?_⟩; have n0_ := Aside0.mk (Kd.S_lower ho0 (below_size (by repeat (first | (with_reducible first | exact HB.out | apply below_alloc | apply pw_below_drewN | apply below_drew1 | refine below_set ?_ GE281.out) | exact HB.out)))); have n1_ := Aside0.mk (blk_below (g := gb281) (o := .cells #[.slice A0_0 l0_0.length c0_0] 27 (0, 0)) (by (with_reducible repeat (first | refine blk_drewN ?_ _ | refine blk_drew ?_ | refine blk_alloc ?_ _)); exact BK281.out) hb); have n2_ := Aside0.mk (below_step (by repeat (first | (with_reducible first | exact HB.out | apply below_alloc | apply pw_below_drewN | apply below_drew1 | refine below_set ?_ GE281.out) | exact HB.out)) hb); clear BK281; clear HB; have HO285 := n0_; have BK281 := n1_; have HB := n2_; clear n0_ n1_ n2_; (try clear hb); (try clear hb2); (try clear hk); (try clear hi); (try clear ho0); have hcz10_0 : w9.cell? ⟨gb281, 0, none⟩ = some (.slice A0_0 l0_0.length c0_0) := (blk_cell BK281.out 0).trans rfl; have hfz10_0 := blk_frozen BK281.out 0))
    go_loopg [5, 18] k (fun kq v5 v18 w' => ∃ (x5_1 : List (List Int)) (x18_1 : Int), v18 = .int .i64 x18_1 ∧ Aside0 (spec_BackEdges.l0 kq t283 x5_1 l0_0 (l0_0.length : Int) x18_1 = some (r1, r2)) ∧ Aside0 (kq ≤ k) ∧ Aside0 (Kd.S (Kd.slice 3 (Kd.int .i64)) 31 w' w.heap.size (fun k_ => some k_ ≠ (v5 : Value).ownBlock) v284 t283) ∧ Aside0 (Kd.S (Kd.slice 3 (Kd.int .i64)) 31 w' w.heap.size (fun k_ => some k_ ≠ (v284 : Value).ownBlock) v5 x5_1) ∧ Aside0 (w'.heap[gb281]? = some (.cells #[(.slice A0_0 l0_0.length c0_0)] 27 (0, 0))) ∧ Aside0 (Below w.heap.size w w'))
    case atStart => exact ⟨(([] : List (List Int))), (0), (by first | rfl | (simp; done) | (simp [*]; done)), H', ⟨Nat.le_refl _⟩, ⟨by (with_reducible repeat (first | apply Kd.S_alloc | apply Kd.S_drewN | apply Kd.S_drew)); exact Kd.S_mono HO285.out (fun _ hk => (by simp [Value.ownBlock]))⟩, ⟨by first | exact Kd.S_nil _ _ _ _ _ | exact Kd.N_nil _ _ _ _ _ | exact Kd.V_nil _ _ _ _ _ | exact Kd.Q_nil _ _ _ _ _ | exact Kd.R_nil _ _ _ _ _⟩, ⟨by (with_reducible repeat (first | refine blk_drewN ?_ _ | refine blk_drew ?_ | refine blk_alloc ?_ _)); exact BK281.out⟩, ⟨by repeat (first | (with_reducible first | exact HB.out | apply below_alloc | apply pw_below_drewN | apply below_drew1 | refine below_set ?_ GE281.out) | exact HB.out)⟩⟩
    case round =>
      clear H'
      try clear c1
      try clear p2
      try clear c3
      try clear c6
      try clear hcz10_0
      try clear hcz6_0
      try clear hcz8_0
      try clear hfz10_0
      try clear hfz6_0
      try clear hfz8_0
      obtain ⟨x5_1, x18_1, rfl, HA, HK1, HO_4, HO_5, BK281, HB⟩ := hrel
      cases gk with
      | zero => exact absurd HA.out (by simp [spec_BackEdges.l0])
      | succ k1 =>
        have H := HA.out
        clear HA
        simp only [spec_BackEdges.l0] at H
        by_cases c11 : x18_1 < (l0_0.length : Int)
        · rw [if_pos c11] at H
          have c11b0 : decide (x18_1 < (l0_0.length : Int)) = true := decide_eq_true c11
          clear c11
          by_cases c12 : 0 ≤ x18_1
          · rw [if_pos c12] at H
            have c12b0 : decide (0 ≤ x18_1) = true := decide_eq_true c12
            clear c12
            by_cases c13 : x18_1 < (l0_0.length : Int)
            · rw [if_pos c13] at H
              have c13b0 : decide (x18_1 < (l0_0.length : Int)) = true := decide_eq_true c13
              clear c13
              have H' := Aside0.mk H
              clear H
              have p286 : 0 ≤ (x18_1 : Int) := of_decide_eq_true (by first | (with_reducible assumption) | assumption)
              have q286 : x18_1 < (l0_0.length : Int) := of_decide_eq_true (by first | (with_reducible assumption) | assumption)
              obtain ⟨ad286, A286_0, c286_0, e286, hx286_0, hl286_0, hi286_0⟩ := at_L1 HR0_0.out x18_1 p286 q286
              cases e286
              replace hx286_0 := (HB.out.cell (World.block_lt_of_cell? w _ hx286_0)).trans hx286_0
              have HR286_0 := Aside0.mk hi286_0
              have HC286_0 := Aside0.mk hl286_0
              clear hi286_0 hl286_0
              replace p286 := eq_true p286
              replace q286 := eq_true q286
              go_wp2
              go_loopg [5, 25] k1 (fun kq v5 v25 w' => ∃ (x5_2 : List (List Int)) (x25_2 : Int), v25 = .int .i64 x25_2 ∧ Aside0 (spec_BackEdges.l1 kq t283 x5_2 x18_1 l0_0 (l0_0.length : Int) x18_1 (rd_L1 l0_0 x18_1) ((rd_L1 l0_0 x18_1).length : Int) x25_2 = some (r1, r2)) ∧ Aside0 (kq ≤ k1) ∧ Aside0 (Kd.S (Kd.slice 3 (Kd.int .i64)) 31 w' w.heap.size (fun k_ => some k_ ≠ (v5 : Value).ownBlock) v284 t283) ∧ Aside0 (Kd.S (Kd.slice 3 (Kd.int .i64)) 31 w' w.heap.size (fun k_ => some k_ ≠ (v284 : Value).ownBlock) v5 x5_2) ∧ Aside0 (w'.heap[gb281]? = some (.cells #[(.slice (some ad286) l0_0.length c0_0)] 27 (0, 0))) ∧ Aside0 (Below w.heap.size w w'))
              case atStart => exact ⟨(x5_1), (0), (by first | rfl | (simp; done) | (simp [*]; done)), H', ⟨Nat.le_refl _⟩, ⟨by (with_reducible repeat (first | apply Kd.S_alloc | apply Kd.S_drewN | apply Kd.S_drew)); exact HO_4.out⟩, ⟨by (with_reducible repeat (first | apply Kd.S_alloc | apply Kd.S_drewN | apply Kd.S_drew)); exact HO_5.out⟩, ⟨by (with_reducible repeat (first | refine blk_drewN ?_ _ | refine blk_drew ?_ | refine blk_alloc ?_ _)); exact BK281.out⟩, ⟨by repeat (first | (with_reducible first | exact HB.out | apply below_alloc | apply pw_below_drewN | apply below_drew1 | refine below_set ?_ GE281.out) | exact HB.out)⟩⟩
              case round =>
                clear H'
                try clear c1
                try clear c2
                try clear p2
                try clear q2
                try clear hx2
                try clear c3
                try clear c6
                try clear c11
                try clear c11b0
                try clear c12
                try clear c12b0
                try clear c13
                try clear c13b0
                try clear hcz10_0
                try clear hcz6_0
                try clear hcz8_0
                try clear hfz10_0
                try clear hfz6_0
                try clear hfz8_0
                try clear hx286_0
                try clear p2
                try clear p286
                try clear q286
                obtain ⟨x5_2, x25_2, rfl, HA, HK2, HO_4, HO_5, BK281, HB⟩ := hrel
                cases gk with
                | zero => exact absurd HA.out (by simp [spec_BackEdges.l1])
                | succ k2 =>
                  have H := HA.out
                  clear HA
                  simp only [spec_BackEdges.l1] at H
                  by_cases c14 : x25_2 < ((rd_L1 l0_0 x18_1).length : Int)
                  · rw [if_pos c14] at H
                    have c14b0 : decide (x25_2 < ((rd_L1 l0_0 x18_1).length : Int)) = true := decide_eq_true c14
                    clear c14
                    by_cases c15 : 0 ≤ x25_2
                    · rw [if_pos c15] at H
                      have c15b0 : decide (0 ≤ x25_2) = true := decide_eq_true c15
                      clear c15
                      by_cases c16 : x25_2 < ((rd_L1 l0_0 x18_1).length : Int)
                      · rw [if_pos c16] at H
                        have c16b0 : decide (x25_2 < ((rd_L1 l0_0 x18_1).length : Int)) = true := decide_eq_true c16
                        clear c16
                        by_cases c17 : 0 ≤ x18_1
                        · rw [if_pos c17] at H
                          have c17b0 : decide (0 ≤ x18_1) = true := decide_eq_true c17
                          clear c17
                          by_cases c18 : x18_1 < (t283.length : Int)
                          · rw [if_pos c18] at H
                            have c18b0 : decide (x18_1 < (t283.length : Int)) = true := decide_eq_true c18
                            clear c18
                            replace H := Option.bind_eq_some_iff.mp H
                            obtain ⟨t289, A190, H⟩ := H
                            replace H : (if t289 = true then (if x5_2.length < 5864062014805 then (spec_BackEdges.l1 k2 t283 (x5_2 ++ [(([x18_1, rd (rd_L1 l0_0 x18_1) x25_2] : List Int))]) x18_1 l0_0 (l0_0.length : Int) x18_1 (rd_L1 l0_0 x18_1) ((rd_L1 l0_0 x18_1).length : Int) (wrap64 (x25_2 + 1))) else (none)) else (spec_BackEdges.l1 k2 t283 x5_2 x18_1 l0_0 (l0_0.length : Int) x18_1 (rd_L1 l0_0 x18_1) ((rd_L1 l0_0 x18_1).length : Int) (wrap64 (x25_2 + 1)))) = some (r1, r2) := H
                            have A19 := Aside0.mk A190
                            clear A190
                            by_cases c20 : t289 = true
                            · subst c20
                              have H1 : (if x5_2.length < 5864062014805 then (spec_BackEdges.l1 k2 t283 (x5_2 ++ [(([x18_1, rd (rd_L1 l0_0 x18_1) x25_2] : List Int))]) x18_1 l0_0 (l0_0.length : Int) x18_1 (rd_L1 l0_0 x18_1) ((rd_L1 l0_0 x18_1).length : Int) (wrap64 (x25_2 + 1))) else (none)) = some (r1, r2) := by rw [if_pos rfl] at H; exact H
                              clear H
                              have H := H1
                              clear H1
                              obtain ⟨y290, hy290⟩ : ∃ y_ : List Int, y_ = (([x18_1, rd (rd_L1 l0_0 x18_1) x25_2] : List Int)) := ⟨_, rfl⟩
                              replace H : (if x5_2.length < 5864062014805 then (spec_BackEdges.l1 k2 t283 (x5_2 ++ [y290]) x18_1 l0_0 (l0_0.length : Int) x18_1 (rd_L1 l0_0 x18_1) ((rd_L1 l0_0 x18_1).length : Int) (wrap64 (x25_2 + 1))) else (none)) = some (r1, r2) := by first | (rw [hy290]; with_reducible exact H) | (have H2_ := (Option.bind_some _ _).symm.trans H; rw [hy290]; with_reducible exact H2_) | (have H2_ := (Option.bind_some _ _).symm.trans H; with_reducible exact H2_) | with_reducible exact H | (rw [hy290]; exact H) | exact H
                              have Ny290 := Aside0.mk hy290
                              clear hy290
                              by_cases c21 : x5_2.length < 5864062014805
                              · rw [if_pos c21] at H
                                have LMc21 := Aside0.mk c21
                                clear c21
                                obtain ⟨y293, hy293⟩ : ∃ y_ : List (List Int), y_ = (x5_2 ++ [y290]) := ⟨_, rfl⟩
                                replace H : (spec_BackEdges.l1 k2 t283 y293 x18_1 l0_0 (l0_0.length : Int) x18_1 (rd_L1 l0_0 x18_1) ((rd_L1 l0_0 x18_1).length : Int) (wrap64 (x25_2 + 1))) = some (r1, r2) := by first | (rw [hy293]; with_reducible exact H) | (have H2_ := (Option.bind_some _ _).symm.trans H; rw [hy293]; with_reducible exact H2_) | (have H2_ := (Option.bind_some _ _).symm.trans H; with_reducible exact H2_) | with_reducible exact H | (rw [hy293]; exact H) | exact H
                                have Ny293 := Aside0.mk hy293
                                clear hy293
                                as_aux_lemma =>
                                  have H' := Aside0.mk H
                                  clear H
                                  have p287 : 0 ≤ (x25_2 : Int) := of_decide_eq_true (by first | (with_reducible assumption) | assumption)
                                  have q287 : x25_2 < ((rd_L1 l0_0 x18_1).length : Int) := of_decide_eq_true (by first | (with_reducible assumption) | assumption)
                                  obtain ⟨ad287, e287, hx287_0⟩ := Kd.at_int HR286_0.out x25_2 p287 q287
                                  cases e287
                                  replace hx287_0 := (HB.out.cell (World.block_lt_of_cell? w _ hx287_0)).trans hx287_0
                                  replace p287 := eq_true p287
                                  replace q287 := eq_true q287
                                  obtain ⟨Ao22, co22, eo22⟩ := Kd.S_slice HO_4.out
                                  subst eo22
                                  have p288 : 0 ≤ (x18_1 : Int) := of_decide_eq_true (by first | (with_reducible assumption) | assumption)
                                  have q288 : x18_1 < (t283.length : Int) := of_decide_eq_true (by first | (with_reducible assumption) | assumption)
                                  obtain ⟨ad288, A288_0, c288_0, e288, hx288_0, hl288_0, hi288_0⟩ := at_L1 (Kd.S_reads' HO_4.out).2.2 x18_1 p288 q288
                                  cases e288
                                  obtain ⟨ce288, hce288, hMe288, hcc288⟩ := Kd.S_get HO_4.out [] x18_1 p288 (by first | exact q288 | exact of_decide_eq_true (by first | (with_reducible assumption) | assumption) | (have e_ := (Kd.S_reads' HO_4.out).1; omega))
                                  obtain ⟨ve288_0, rfl, ge288_0⟩ := hMe288
                                  have hv288_0 := hcc288 0 _ rfl
                                  rw [Nat.add_zero, show ((Kd.slice 3 (Kd.int .i64))).sz = 1 from rfl, Nat.mul_one] at hv288_0
                                  replace hv288_0 := Option.some.inj (hv288_0.symm.trans hx288_0)
                                  rw [hv288_0] at ge288_0
                                  have HL288_0 := Aside0.mk (show Kd.R (Kd.int .i64) 3 _ _ _ _ (rd_L1 t283 x18_1) from ge288_0)
                                  clear hv288_0 ge288_0
                                  clear hcc288 hce288
                                  have HR288_0 := Aside0.mk hi288_0
                                  have HC288_0 := Aside0.mk hl288_0
                                  clear hi288_0 hl288_0
                                  replace p288 := eq_true p288
                                  replace q288 := eq_true q288
                                  go_wp2_with (first | ((with_reducible refine gate_callee (f := 65) rfl ?_); refine goesL_ (some 34) rfl rfl Try.func65 (by kernel_rfl) rfl #[.slice A288_0 (rd_L1 t283 x18_1).length c288_0, .int .i64 (rd (rd_L1 l0_0 x18_1) x25_2)] rfl (by (try simp only [List.map_toArray, List.map_cons, List.map_nil]); first | done | rfl | (simp only [List.length_drop, List.length_take]; rfl)) ?_; (with_reducible refine (spec_l1Has.calls k2 _ _ (rd_L1 t283 x18_1) (rd (rd_L1 l0_0 x18_1) x25_2) true _ ?side1 ?side2 A19.out).mono ?_); (case side1 => repeat (first | exact (by repeat (first | (with_reducible exact HR288_0.out) | (with_reducible refine Kd.C_alloc ?_ _) | (with_reducible refine Kd.C_drewN ?_ _) | (with_reducible refine Kd.C_drew ?_) | exact HR288_0.out)) | (with_reducible refine Kd.C_alloc ?_ _) | (with_reducible refine Kd.C_drewN ?_ _) | (with_reducible refine Kd.C_drew ?_))); (case side2 => exact HC288_0.out); rintro e w' ⟨rfl, ⟨nd, rfl⟩⟩; refine ⟨_, rfl, ?_⟩) | ((with_reducible refine gate_dst (N := 38) rfl ?_); refine Kd.R_lit (Kd.int .i64) _ 3 ?hg (N := 38) ?hd (xs := ([x18_1, rd (rd_L1 l0_0 x18_1) x25_2] : List Int)) (inner := [.int .i64 x18_1, .int .i64 (rd (rd_L1 l0_0 x18_1) x25_2)]) (ok := fun _ => True) (okp := fun _ => True) ?hr ?hp (fun _ hk => hk) trivial (Below.refl _ _) (Nat.le_refl _) (by simp) ?_; (case hd => rfl); (case hg => rfl); (case hr => first | (go_simp; done) | (go_simp; rfl)); (case hp => exact (Reps.one (show Kd.M (Kd.int .i64) _ _ _ x18_1 [.int .i64 x18_1] from rfl) (Reps.one (show Kd.M (Kd.int .i64) _ _ _ (rd (rd_L1 l0_0 x18_1) x25_2) [.int .i64 (rd (rd_L1 l0_0 x18_1) x25_2)] from rfl) (Reps.none _ _)))); intro v291 w23 ho24 hb hg_ hnew_; clear hg_ hnew_; (first | rw [← Ny290.out] at ho24 | (simp only [Int.reduceToNat] at ho24; rw [← Ny290.out] at ho24)); have n0_ := Aside0.mk (Kd.S_elder' (by (with_reducible repeat (first | apply Kd.S_alloc | apply Kd.S_drewN | apply Kd.S_drew)); exact HO_4.out) (Kd.R_base ho24) hb); have n1_ := Aside0.mk (Kd.S_elder' (by (with_reducible repeat (first | apply Kd.S_alloc | apply Kd.S_drewN | apply Kd.S_drew)); exact HO_5.out) (Kd.R_base ho24) hb); have n2_ := Aside0.mk (Kd.R_elder' (by (with_reducible repeat (first | apply Kd.R_alloc | apply Kd.R_drewN | apply Kd.R_drew)); exact HL288_0.out) (Kd.R_base ho24) hb); have n3_ := Aside0.mk (Kd.R_lower (Kd.R_new' ho24 (Kd.R_lt (by (with_reducible repeat (first | apply Kd.R_alloc | apply Kd.R_drewN | apply Kd.R_drew)); exact HL288_0.out))) (below_size (by repeat (first | (with_reducible first | exact HB.out | apply below_alloc | apply pw_below_drewN | apply below_drew1 | refine below_set ?_ GE281.out) | exact HB.out)))); have n4_ := Aside0.mk (blk_below (g := gb281) (o := .cells #[.slice (some ad286) l0_0.length c0_0] 27 (0, 0)) (by (with_reducible repeat (first | refine blk_drewN ?_ _ | refine blk_drew ?_ | refine blk_alloc ?_ _)); exact BK281.out) hb); have n5_ := Aside0.mk (Kd.C_below (by repeat (first | (with_reducible exact HR288_0.out) | (with_reducible refine Kd.C_alloc ?_ _) | (with_reducible refine Kd.C_drewN ?_ _) | (with_reducible refine Kd.C_drew ?_) | exact HR288_0.out)) hb); have n6_ := Aside0.mk (below_step (by repeat (first | (with_reducible first | exact HB.out | apply below_alloc | apply pw_below_drewN | apply below_drew1 | refine below_set ?_ GE281.out) | exact HB.out)) hb); clear HO_4; clear HO_5; clear HL288_0; clear BK281; clear HR288_0; clear HB; have HO_4 := n0_; have HO_5 := n1_; have HL288_0 := n2_; have HO292 := n3_; have BK281 := n4_; have HR288_0 := n5_; have HB := n6_; clear n0_ n1_ n2_ n3_ n4_ n5_ n6_; clear hb ho24; obtain ⟨Ao26, co26, eo26⟩ := Kd.R_slice HO292.out; subst eo26) | ((with_reducible refine gate_builtin (b := .append) (xs := #[.tmp 35, .tmp 39]) rfl ?_); at_builtin; refine Kd.S_append (Kd.slice 3 (Kd.int .i64)) (w0 := w) w.heap.size rfl (.tmp 35) (.tmp 39) 22 31 (.slice none 0 0) 24 rfl Try.underlying22 info31 rfl (by decide) (by omega) u5 x5_2 y290 [.slice Ao26 y290.length co26] (fun k_ => some k_ ≠ (.slice (some ad288) t283.length co22 : Value).ownBlock) (fun k_ => some k_ = (.slice Ao26 y290.length co26 : Value).ownBlock) rfl rfl ?aP (fun k_ hk_ => ((Kd.R_mono (ok' := fun k_ => ((fun k_ => some k_ ≠ (.slice (some ad288) t283.length co22 : Value).ownBlock)) k_ ∧ some k_ ≠ (u5 : Value).ownBlock) (Kd.R_apart' (Kd.R_apart' (HO292.out) (Kd.S_typed HO_4.out) (by decide)) (Kd.S_typed HO_5.out) (by decide)) (fun k_ hk => ⟨hk.1.2, hk.2⟩))).1 k_ hk_.symm) ?aF ?aO ?aB ?aS ?aL ?_; (case aP => exact Kd.M_row (Kd.R_mono (Kd.R_tight rfl (Kd.R_mono (ok' := fun k_ => ((fun k_ => some k_ ≠ (.slice (some ad288) t283.length co22 : Value).ownBlock)) k_ ∧ some k_ ≠ (u5 : Value).ownBlock) (Kd.R_apart' (Kd.R_apart' (HO292.out) (Kd.S_typed HO_4.out) (by decide)) (Kd.S_typed HO_5.out) (by decide)) (fun k_ hk => ⟨hk.1.2, hk.2⟩))) (fun _ h_ => h_))); (case aB => exact (by repeat (first | (with_reducible first | exact HB.out | apply below_alloc | apply pw_below_drewN | apply below_drew1 | refine below_set ?_ GE281.out) | exact HB.out))); (case aF => exact (fun k_ hk => Kd.fresh' (Kd.S_lt (by (with_reducible repeat (first | apply Kd.S_alloc | apply Kd.S_drewN | apply Kd.S_drew)); exact HO_4.out)) k_ hk)); (case aO => exact (by (with_reducible repeat (first | apply Kd.S_alloc | apply Kd.S_drewN | apply Kd.S_drew)); exact Kd.S_mono HO_5.out (fun k_ hk => ⟨hk.1, fun e_ => hk.2 e_⟩))); (case aS => exact (below_size (by repeat (first | (with_reducible first | exact HB.out | apply below_alloc | apply pw_below_drewN | apply below_drew1 | refine below_set ?_ GE281.out) | exact HB.out)))); (case aL => have := LMc21.out; omega); intro v294 w25 ho hb hg hat; rw [← Ny293.out] at ho; have n0_ := Aside0.mk (Kd.S_after (ok := (fun k_ => some k_ ≠ (.slice Ao26 y290.length co26 : Value).ownBlock)) (by (with_reducible repeat (first | apply Kd.S_alloc | apply Kd.S_drewN | apply Kd.S_drew)); exact Kd.S_mono HO_4.out (fun _ hk => ⟨hk.2, hk.1⟩)) hg hat); have n1_ := Aside0.mk (blk_grown (g := gb281) (o := .cells #[.slice (some ad286) l0_0.length c0_0] 27 (0, 0)) (by (with_reducible repeat (first | refine blk_drewN ?_ _ | refine blk_drew ?_ | refine blk_alloc ?_ _)); exact BK281.out) hg (Kd.S_ne HO_5.out BK281.out (by decide))); have n2_ := Aside0.mk (Kd.R_after (ok := (fun k_ => some k_ ≠ (.slice (some ad288) t283.length co22 : Value).ownBlock ∧ some k_ ≠ (.slice Ao26 y290.length co26 : Value).ownBlock)) (by (with_reducible repeat (first | apply Kd.R_alloc | apply Kd.R_drewN | apply Kd.R_drew)); exact Kd.R_mono HL288_0.out (fun _ hk => ⟨⟨hk.1.2, hk.2⟩, hk.1.1⟩)) hg hat); have n3_ := Aside0.mk (hb); have n4_ := Aside0.mk (ho); clear HO_4; clear BK281; clear HL288_0; clear HB; clear HO_5; clear HO292; have HO_4 := n0_; have BK281 := n1_; have HL288_0 := n2_; have HB := n3_; have HO295 := n4_; clear n0_ n1_ n2_ n3_ n4_; clear ho hb hg hat))
                                  go_roundg k2
                                  case measure => have := HK1.out; have := HK2.out; omega
                                  case rel => exact ⟨(y293), (wrap64 (x25_2 + 1)), (by first | rfl | (simp; done) | (simp [*]; done)), H', ⟨by have := HK1.out; have := HK2.out; omega⟩, ⟨by (with_reducible repeat (first | apply Kd.S_alloc | apply Kd.S_drewN | apply Kd.S_drew)); exact Kd.S_mono HO_4.out (fun _ hk => hk.2)⟩, ⟨by (with_reducible repeat (first | apply Kd.S_alloc | apply Kd.S_drewN | apply Kd.S_drew)); exact HO295.out⟩, ⟨by (with_reducible repeat (first | refine blk_drewN ?_ _ | refine blk_drew ?_ | refine blk_alloc ?_ _)); exact BK281.out⟩, ⟨by repeat (first | (with_reducible first | exact HB.out | apply below_alloc | apply pw_below_drewN | apply below_drew1 | refine below_set ?_ GE281.out) | exact HB.out)⟩⟩
                              · rw [if_neg c21] at H
                                exact absurd H (by simp)
                            · replace c20 := Bool.eq_false_iff.mpr c20
                              subst c20
                              have H1 : (spec_BackEdges.l1 k2 t283 x5_2 x18_1 l0_0 (l0_0.length : Int) x18_1 (rd_L1 l0_0 x18_1) ((rd_L1 l0_0 x18_1).length : Int) (wrap64 (x25_2 + 1))) = some (r1, r2) := by rw [if_neg (show ¬ (false = true) by decide)] at H; exact H
                              clear H
                              have H := H1
                              clear H1
                              as_aux_lemma =>
                                have H' := Aside0.mk H
                                clear H
                                have p287 : 0 ≤ (x25_2 : Int) := of_decide_eq_true (by first | (with_reducible assumption) | assumption)
                                have q287 : x25_2 < ((rd_L1 l0_0 x18_1).length : Int) := of_decide_eq_true (by first | (with_reducible assumption) | assumption)
                                obtain ⟨ad287, e287, hx287_0⟩ := Kd.at_int HR286_0.out x25_2 p287 q287
                                cases e287
                                replace hx287_0 := (HB.out.cell (World.block_lt_of_cell? w _ hx287_0)).trans hx287_0
                                replace p287 := eq_true p287
                                replace q287 := eq_true q287
                                obtain ⟨Ao27, co27, eo27⟩ := Kd.S_slice HO_4.out
                                subst eo27
                                have p288 : 0 ≤ (x18_1 : Int) := of_decide_eq_true (by first | (with_reducible assumption) | assumption)
                                have q288 : x18_1 < (t283.length : Int) := of_decide_eq_true (by first | (with_reducible assumption) | assumption)
                                obtain ⟨ad288, A288_0, c288_0, e288, hx288_0, hl288_0, hi288_0⟩ := at_L1 (Kd.S_reads' HO_4.out).2.2 x18_1 p288 q288
                                cases e288
                                obtain ⟨ce288, hce288, hMe288, hcc288⟩ := Kd.S_get HO_4.out [] x18_1 p288 (by first | exact q288 | exact of_decide_eq_true (by first | (with_reducible assumption) | assumption) | (have e_ := (Kd.S_reads' HO_4.out).1; omega))
                                obtain ⟨ve288_0, rfl, ge288_0⟩ := hMe288
                                have hv288_0 := hcc288 0 _ rfl
                                rw [Nat.add_zero, show ((Kd.slice 3 (Kd.int .i64))).sz = 1 from rfl, Nat.mul_one] at hv288_0
                                replace hv288_0 := Option.some.inj (hv288_0.symm.trans hx288_0)
                                rw [hv288_0] at ge288_0
                                have HL288_0 := Aside0.mk (show Kd.R (Kd.int .i64) 3 _ _ _ _ (rd_L1 t283 x18_1) from ge288_0)
                                clear hv288_0 ge288_0
                                clear hcc288 hce288
                                have HR288_0 := Aside0.mk hi288_0
                                have HC288_0 := Aside0.mk hl288_0
                                clear hi288_0 hl288_0
                                replace p288 := eq_true p288
                                replace q288 := eq_true q288
                                go_wp2_with (first | ((with_reducible refine gate_callee (f := 65) rfl ?_); refine goesL_ (some 34) rfl rfl Try.func65 (by kernel_rfl) rfl #[.slice A288_0 (rd_L1 t283 x18_1).length c288_0, .int .i64 (rd (rd_L1 l0_0 x18_1) x25_2)] rfl (by (try simp only [List.map_toArray, List.map_cons, List.map_nil]); first | done | rfl | (simp only [List.length_drop, List.length_take]; rfl)) ?_; (with_reducible refine (spec_l1Has.calls k2 _ _ (rd_L1 t283 x18_1) (rd (rd_L1 l0_0 x18_1) x25_2) false _ ?side1 ?side2 A19.out).mono ?_); (case side1 => repeat (first | exact (by repeat (first | (with_reducible exact HR288_0.out) | (with_reducible refine Kd.C_alloc ?_ _) | (with_reducible refine Kd.C_drewN ?_ _) | (with_reducible refine Kd.C_drew ?_) | exact HR288_0.out)) | (with_reducible refine Kd.C_alloc ?_ _) | (with_reducible refine Kd.C_drewN ?_ _) | (with_reducible refine Kd.C_drew ?_))); (case side2 => exact HC288_0.out); rintro e w' ⟨rfl, ⟨nd, rfl⟩⟩; refine ⟨_, rfl, ?_⟩))
                                go_roundg k2
                                case measure => have := HK1.out; have := HK2.out; omega
                                case rel => exact ⟨(x5_2), (wrap64 (x25_2 + 1)), (by first | rfl | (simp; done) | (simp [*]; done)), H', ⟨by have := HK1.out; have := HK2.out; omega⟩, ⟨by (with_reducible repeat (first | apply Kd.S_alloc | apply Kd.S_drewN | apply Kd.S_drew)); exact HO_4.out⟩, ⟨by (with_reducible repeat (first | apply Kd.S_alloc | apply Kd.S_drewN | apply Kd.S_drew)); exact HO_5.out⟩, ⟨by (with_reducible repeat (first | refine blk_drewN ?_ _ | refine blk_drew ?_ | refine blk_alloc ?_ _)); exact BK281.out⟩, ⟨by repeat (first | (with_reducible first | exact HB.out | apply below_alloc | apply pw_below_drewN | apply below_drew1 | refine below_set ?_ GE281.out) | exact HB.out)⟩⟩
                          · rw [if_neg c18] at H
                            exact absurd H (by simp)
                        · rw [if_neg c17] at H
                          exact absurd H (by simp)
                      · rw [if_neg c16] at H
                        exact absurd H (by simp)
                    · rw [if_neg c15] at H
                      exact absurd H (by simp)
                  · rw [if_neg c14] at H
                    have c14b0 : decide (x25_2 < ((rd_L1 l0_0 x18_1).length : Int)) = false := decide_eq_false c14
                    clear c14
                    as_aux_lemma =>
                      have H' := Aside0.mk H
                      clear H
                      go_wp2
                      go_roundg k2
                      case measure => have := HK1.out; have := HK2.out; omega
                      case rel => exact ⟨(x5_2), (wrap64 (x18_1 + 1)), (by first | rfl | (simp; done) | (simp [*]; done)), H', ⟨by have := HK1.out; have := HK2.out; omega⟩, ⟨by (with_reducible repeat (first | apply Kd.S_alloc | apply Kd.S_drewN | apply Kd.S_drew)); exact HO_4.out⟩, ⟨by (with_reducible repeat (first | apply Kd.S_alloc | apply Kd.S_drewN | apply Kd.S_drew)); exact HO_5.out⟩, ⟨by (with_reducible repeat (first | refine blk_drewN ?_ _ | refine blk_drew ?_ | refine blk_alloc ?_ _)); exact BK281.out⟩, ⟨by repeat (first | (with_reducible first | exact HB.out | apply below_alloc | apply pw_below_drewN | apply below_drew1 | refine below_set ?_ GE281.out) | exact HB.out)⟩⟩
            · rw [if_neg c13] at H
              exact absurd H (by simp)
          · rw [if_neg c12] at H
            exact absurd H (by simp)
        · rw [if_neg c11] at H
          have c11b0 : decide (x18_1 < (l0_0.length : Int)) = false := decide_eq_false c11
          clear c11
          as_aux_lemma =>
            simp only [Option.some.injEq, Prod.mk.injEq] at H
            obtain ⟨rfl, rfl⟩ := H
            go_wp2
            go_ret2
            exact ⟨_, by first | rfl | (simp [errW_none, errW_some] <;> rfl) | (simp [*, errW_none, errW_some] <;> rfl), by (with_reducible repeat (first | apply Kd.S_alloc | apply Kd.S_drewN | apply Kd.S_drew)); exact Kd.S_mono HO_5.out (fun _ hk => trivial), by repeat (first | (with_reducible first | exact HB.out | apply below_alloc | apply pw_below_drewN | apply below_drew1 | refine below_set ?_ GE281.out) | exact HB.out)⟩
  · replace c3 := Bool.eq_false_iff.mpr c3
    subst c3
    have H1 : (some (([] : List (List Int)), false)) = some (r1, r2) := by rw [if_neg (show ¬ (false = true) by decide)] at H; exact H
    clear H
    have H := H1
    clear H1
    as_aux_lemma =>
      simp only [Option.some.injEq, Prod.mk.injEq] at H
      obtain ⟨rfl, rfl⟩ := H
      go_enter Try.func38, Try.ntmps38
      go_wp2_with (first | ((with_reducible refine gate_dst (N := 1) rfl ?_); refine box_event ?hg (N := 1) ?hd (cs := #[.slice A0_0 l0_0.length c0_0]) (t := 27) ?hr ?_; (case hd => rfl); (case hg => rfl); (case hr => first | (go_simp; done) | (go_simp; rfl)); intro gb281 hg w28 hbox hb; have n0_ := Aside0.mk (below_step (by repeat (first | (with_reducible first | exact HB.out | apply below_alloc | apply pw_below_drewN | apply below_drew1) | exact HB.out)) hb); have n1_ := Aside0.mk (hbox); have n2_ := Aside0.mk ((by rw [hg]; exact (below_size (by repeat (first | (with_reducible first | exact HB.out | apply below_alloc | apply pw_below_drewN | apply below_drew1) | exact HB.out))) : w.heap.size ≤ gb281)); have n3_ := Aside0.mk ((by rw [hg]; exact (below_size (by repeat (first | (with_reducible first | exact HB.out | apply below_alloc | apply pw_below_drewN | apply below_drew1) | exact HB.out))) : w.heap.size ≤ gb281)); clear HB; have HB := n0_; have BK281 := n1_; have GW281 := n2_; have GE281 := n3_; clear n0_ n1_ n2_ n3_; clear hb hbox hg; have hcz29_0 : w28.cell? ⟨gb281, 0, none⟩ = some (.slice A0_0 l0_0.length c0_0) := (blk_cell BK281.out 0).trans rfl; have hfz29_0 := blk_frozen BK281.out 0) | ((with_reducible refine gate_callee (f := 16) rfl ?_); refine goesL_ (some 11) rfl rfl Try.func16 (by kernel_rfl) rfl #[.agg #[.slice A0_0 l0_0.length c0_0]] rfl (by (try simp only [List.map_toArray, List.map_cons, List.map_nil]); first | done | rfl | (simp only [List.length_drop, List.length_take]; rfl)) ?_; (with_reducible refine (spec_GoodGraph.calls k _ _ l0_0 false _ ?side1 ?side2 A2.out).mono ?_); (case side1 => repeat (first | exact (Kd.C_below HR0_0.out HB.out) | (with_reducible refine Kd.C_alloc ?_ _) | (with_reducible refine Kd.C_drewN ?_ _) | (with_reducible refine Kd.C_drew ?_))); (case side2 => exact HC0_0.out); rintro e w30 ⟨rfl, hb⟩; refine ⟨_, rfl, ?_⟩; have n0_ := Aside0.mk (blk_below (g := gb281) (o := .cells #[.slice A0_0 l0_0.length c0_0] 27 (0, 0)) (by (with_reducible repeat (first | refine blk_drewN ?_ _ | refine blk_drew ?_ | refine blk_alloc ?_ _)); exact BK281.out) hb); have n1_ := Aside0.mk (below_step (by repeat (first | (with_reducible first | exact HB.out | apply below_alloc | apply pw_below_drewN | apply below_drew1 | refine below_set ?_ GE281.out) | exact HB.out)) hb); clear BK281; clear HB; have BK281 := n0_; have HB := n1_; clear n0_ n1_; (try clear hb); (try clear hb2); (try clear hk); (try clear hi)))
      go_ret2
      exact ⟨_, by first | rfl | (simp [errW_none, errW_some] <;> rfl) | (simp [*, errW_none, errW_some] <;> rfl), by first | exact Kd.S_nil _ _ _ _ _ | exact Kd.N_nil _ _ _ _ _ | exact Kd.V_nil _ _ _ _ _ | exact Kd.Q_nil _ _ _ _ _ | exact Kd.R_nil _ _ _ _ _, by repeat (first | (with_reducible first | exact HB.out | apply below_alloc | apply pw_below_drewN | apply below_drew1 | refine below_set ?_ GE281.out) | exact HB.out)⟩
end Go.Proofs.Ytplcipjlkogadaa.P

namespace Go.Proofs.Ytplcipjlkogadaa.P
open Go.RowKit Go.Proofs.YtplcipjlkogadaaW.PrintWords Go.Proofs.YtplcipjlkogadaaW.PrintLast Go.Proofs.YtplcipjlkogadaaW.PrintMore
attribute [local go_sem] max2_int min2_int max_two min_two max_three min_three max_four min_four
def beRow (D : List (List Bool)) (b : Nat) (l : List Int) : List (List Int) := (l.filter (fun y => (D.getD b []).getD y.toNat false)).map (fun y => [(b : Int), y])
def beTo (D : List (List Bool)) (g : List (List Int)) (b : Nat) : List (List Int) := (List.range b).flatMap (fun b => beRow D b (g.getD b []))
theorem beRow_len (D : List (List Bool)) (b : Nat) (l : List Int) : (beRow D b l).length ≤ l.length := by
  unfold beRow
  rw [List.length_map]
  exact List.length_filter_le _ _
theorem beTo_succ (D : List (List Bool)) (g : List (List Int)) (b : Nat) : beTo D g (b + 1) = beTo D g b ++ beRow D b (g.getD b []) := by
  unfold beTo
  rw [List.range_succ, List.flatMap_append]
  simp
theorem beTo_len (D : List (List Bool)) {g : List (List Int)} (h : ∀ b, (g.getD b []).length ≤ 12) : ∀ b, (beTo D g b).length ≤ b * 12
  | 0 => by simp [beTo]
  | b + 1 => by
    have h1 := beTo_len D h b
    have h2 := beRow_len D b (g.getD b [])
    have h3 := h b
    rw [beTo_succ, List.length_append]
    omega
theorem upRow_len {l : List Int} {hi : Int} (h12 : hi ≤ 11) (h : H.upB l 0 hi 0 = true) : l.length ≤ 12 := by
  have h0 := of_decide_eq_true h
  have key : ∀ j, j < l.length → (j : Int) ≤ l.getD j 0 := by
    intro j
    induction j with
    | zero =>
      intro hj
      have h1 := h0 0 hj (Nat.zero_le _)
      unfold H.upAt at h1
      simp only [Bool.and_eq_true, decide_eq_true_eq] at h1
      exact h1.1.1
    | succ j ih =>
      intro hj
      have h1 := h0 (j + 1) hj (Nat.zero_le _)
      unfold H.upAt at h1
      simp only [Bool.and_eq_true, Bool.or_eq_true, decide_eq_true_eq, Nat.add_sub_cancel] at h1
      have h2 := ih (by omega)
      omega
  by_cases h9 : l.length ≤ 12
  · exact h9
  · have h1 := h0 12 (by omega) (Nat.zero_le _)
    have h2 := key 12 (by omega)
    unfold H.upAt at h1
    simp only [Bool.and_eq_true, decide_eq_true_eq] at h1
    omega
theorem goodG_len {g : List (List Int)} (hG : H.goodG g = true) (b : Nat) : (g.getD b []).length ≤ 12 := by
  have hr := H.goodG_rows hG
  by_cases h : b < g.length
  · unfold H.goodG at hG
    simp only [Bool.and_eq_true, decide_eq_true_eq] at hG
    have h8 := List.all_eq_true.1 hG.2 (g.getD b []) (by rw [List.getD_eq_getElem?_getD, List.getElem?_eq_getElem h]; exact List.getElem_mem _)
    have hn2 : g.length ≤ 12 := hr.1.2
    exact upRow_len (by omega) h8
  · rw [List.getD_eq_getElem?_getD, List.getElem?_eq_none (by omega)]
    decide
set_option maxHeartbeats 8000000 in
set_option maxRecDepth 100000 in
theorem impl_backEdges.calls (p : Addr) (A0 : Option Addr) (c0 : Nat) (g : List (List Int)) (w : World) (hp0 : w.cell? p = some (.slice A0 g.length c0)) (hr0 : Kd.C (Kd.slice 3 (Kd.int .i64)) w A0 g.length g) (hG : H.goodG g = true) :
    Calls Try.prog 70 #[.pointer (some p)] w fun e w' => ∃ v0_ : Value, e = .returned v0_ ∧ Kd.S (Kd.slice 3 (Kd.int .i64)) 31 w' w.heap.size (fun _ => True) v0_ (beTo (H.domF g) g g.length) ∧ Below w.heap.size w w' := by
  have hr := H.goodG_rows hG
  have HP0 := Aside0.mk hp0
  have HR0 := Aside0.mk hr0
  have HROW := Aside0.mk (H.goodG_row hG)
  have HLEN := Aside0.mk (goodG_len hG)
  have HO := Aside0.mk (H.Own.nil w)
  have hn1 : 1 ≤ g.length := hr.1.1
  have hn2 : g.length ≤ 12 := hr.1.2
  have HDO := Aside0.mk (fun (W : World) (hO : Below w.heap.size w W) => impl_dominators.calls p A0 c0 g W ((hO.cell (World.block_lt_of_cell? w _ HP0.out)).trans HP0.out) (Kd.C_below HR0.out hO) hG)
  have hml := H.matF_len (fun b j => decide (j < g.length) && H.domV g b j) g.length
  have hmm := H.matF_mat (fun b j => decide (j < g.length) && H.domV g b j) g.length
  have HMM : Aside0 (H.Mat 12 (H.domF g)) := ⟨hmm⟩
  have HML : Aside0 ((H.domF g).length = g.length) := ⟨hml⟩
  obtain ⟨D, hD⟩ : ∃ D, H.domF g = D := ⟨_, rfl⟩
  rw [hD] at HMM HML HDO ⊢
  clear hr hr0 hG hml hmm hD
  go_enter Try.func70, Try.ntmps70
  go_wp2_with (first | ((with_reducible refine gate_dst (N := 9) rfl ?_); refine Kd.S_lit (Kd.slice 3 (Kd.int .i64)) (w0 := w) w.heap.size 31 ?hg (N := 9) ?hd (xs := ([] : List (List Int))) (inner := []) (ok := fun _ => True) (okp := fun _ => True) ?hr ?hp (fun _ hk => hk) trivial HO.out.below HO.out.size (by simp) ?_; (case hd => rfl); (case hg => rfl); (case hr => first | (go_simp; done) | (go_simp; rfl)); (case hp => exact Reps.none _ _); intro v9 w_ ho_ hb_ hg_ hnew_; replace HO := Aside0.mk (HO.out.grown hg_ (fun k hk => by cases hk)); have HS := Aside0.mk ho_; clear ho_ hb_ hg_ hnew_) | (go_at_call 67; refine (HDO.out _ HO.out.below).mono ?_; rintro e w' ⟨gm, rfl, ho⟩; replace HS := Aside0.mk (Kd.S_below HS.out ho.below); replace HO := Aside0.mk (HO.out.join ho); have hp1 := HO.out.old HP0.out; clear ho hp0))
  go_loopw [3, 17] (fun v3 v17 wr => ∃ (b : Nat), v17 = .int .i64 b ∧ b ≤ g.length ∧ Aside0 (Kd.S (Kd.slice 3 (Kd.int .i64)) 31 wr w.heap.size (fun _ => True) v3 (beTo D g b)) ∧ Aside0 (H.Own w wr [(gm, H.bcells D.flatten, 64)])) (fun _ v17 _ => g.length - (intOf v17).toNat)
  case atStart => exact ⟨0, rfl, Nat.zero_le _, HS, HO⟩
  case round =>
    clear HO HS hp1
    obtain ⟨b, rfl, hb, HS, HO⟩ := hrel
    by_cases hlt : b < g.length
    · obtain ⟨ad, A1, c1, e1, hc0, hc1, hc2⟩ := at_L1 HR0.out (b : Int) (by omega) (by omega)
      subst e1
      rw [Int.toNat_natCast] at hc0
      have hrd : rd_L1 g (b : Int) = g.getD b [] := rfl
      rw [hrd] at hc0 hc1 hc2
      have hrow := HROW.out b
      have hl12 := HLEN.out b
      have hbl := beTo_len D HLEN.out b
      have hsu := beTo_succ D g b
      obtain ⟨BT, hBT⟩ : ∃ BT, beTo D g b = BT := ⟨_, rfl⟩
      rw [hBT] at hbl hsu HS
      generalize hrw : g.getD b [] = row at hc0 hc1 hc2 hrow hl12 hsu
      have hxr := HO.out.old hc0
      have HC2 := Aside0.mk hc2
      have HRR := Aside0.mk hrow
      have HSU := Aside0.mk hsu
      have HIM := Aside0.mk (show b < D.length by rw [HML.out]; exact hlt)
      have hrl := hc2.2.1
      have hbg : (b : Int) < (g.length : Int) := by omega
      have HBTL := Aside0.mk (show BT.length ≤ 144 by omega)
      clear hc0 hc1 hc2 hrow hrd hrw hsu hBT hbl
      go_wp2
      go_loopw [3, 24] (fun v3 v24 wr => ∃ (i : Nat), v24 = .int .i64 i ∧ i ≤ row.length ∧ Aside0 (Kd.S (Kd.slice 3 (Kd.int .i64)) 31 wr w.heap.size (fun _ => True) v3 (BT ++ beRow D b (row.take i))) ∧ Aside0 (H.Own w wr [(gm, H.bcells D.flatten, 64)])) (fun _ v24 _ => row.length - (intOf v24).toNat)
      case atStart => exact ⟨0, rfl, Nat.zero_le _, ⟨by rw [List.take_zero]; unfold beRow; rw [List.filter_nil, List.map_nil, List.append_nil]; exact HS.out⟩, HO⟩
      case round =>
        clear HO HS hxr
        obtain ⟨i, rfl, hi, HS, HO⟩ := hrel
        by_cases hlt2 : i < row.length
        · obtain ⟨ad2, e2, hcb⟩ := Kd.at_int HC2.out (i : Int) (by omega) (by omega)
          subst e2
          rw [Int.toNat_natCast] at hcb
          have hrd2 : rd row (i : Int) = row.getD i 0 := rfl
          rw [hrd2] at hcb
          have htk : row.take (i + 1) = row.take i ++ [row.getD i 0] := by rw [List.take_add_one, List.getElem?_eq_getElem hlt2, List.getD_eq_getElem?_getD, List.getElem?_eq_getElem hlt2]; rfl
          have hby := HRR.out (row.getD i 0) (by rw [List.getD_eq_getElem?_getD, List.getElem?_eq_getElem hlt2]; exact List.getElem_mem hlt2)
          obtain ⟨x0, hx0⟩ : ∃ k : Nat, row.getD i 0 = (k : Int) := ⟨(row.getD i 0).toNat, by omega⟩
          rw [hx0] at hcb hby htk
          have hcx := HO.out.old hcb
          have hx12 : x0 < 12 := by omega
          have hx12' : (x0 : Int) < 12 := by omega
          have hil : (i : Int) < (row.length : Int) := by omega
          have hbit := HO.out.mat 0 (n := 12) rfl HMM.out HIM.out hx12
          obtain ⟨bit, hbe⟩ : ∃ bit, (D.getD b []).getD x0 false = bit := ⟨_, rfl⟩
          rw [hbe] at hbit
          have hst : BT ++ beRow D b (row.take (i + 1)) = if bit then (BT ++ beRow D b (row.take i)) ++ [[(b : Int), (x0 : Int)]] else BT ++ beRow D b (row.take i) := by
            rw [htk]
            unfold beRow
            rw [List.filter_append, List.filter_cons, List.filter_nil, Int.toNat_natCast, hbe]
            cases bit <;> simp
          have HST := Aside0.mk hst
          have hxl : (BT ++ beRow D b (row.take i)).length ≤ 156 := by
            have h1 := beRow_len D b (row.take i)
            have h2 := HBTL.out
            rw [List.length_take] at h1
            rw [List.length_append]
            omega
          have HXL := Aside0.mk hxl
          obtain ⟨X, hX⟩ : ∃ X, BT ++ beRow D b (row.take i) = X := ⟨_, rfl⟩
          rw [hX] at HS HST HXL
          clear hcb hrd2 hby hx0 htk hbe hst hxl hX
          cases bit with
          | false =>
            go_wp2
            go_roundw
            case rel => exact ⟨i + 1, by go_num, by omega, ⟨by rw [HST.out, if_neg (by simp)]; exact HS.out⟩, HO⟩
            case measure => simp [intOf]; omega
          | true =>
            go_wp2_with (first | ((with_reducible refine gate_dst (N := 37) rfl ?_); refine Kd.R_lit (Kd.int .i64) _ 3 ?hg (N := 37) ?hd (xs := ([(b : Int), (x0 : Int)] : List Int)) (inner := [.int .i64 (b : Int), .int .i64 (x0 : Int)]) (ok := fun _ => True) (okp := fun _ => True) ?hr ?hp (fun _ hk => hk) trivial (Below.refl _ _) (Nat.le_refl _) (by simp) ?_; (case hd => rfl); (case hg => rfl); (case hr => first | (go_simp; done) | (go_simp; rfl)); (case hp => exact (Reps.one (show Kd.M (Kd.int .i64) _ _ _ (b : Int) [.int .i64 (b : Int)] from rfl) (Reps.one (show Kd.M (Kd.int .i64) _ _ _ (x0 : Int) [.int .i64 (x0 : Int)] from rfl) (Reps.none _ _)))); intro v37 w_ ho_ hb_ hg_ hnew_; replace HS := Aside0.mk (Kd.S_elder' HS.out (Kd.R_base ho_) hb_); obtain ⟨AY, cY, rfl⟩ := Kd.R_slice ho_; have HY := Aside0.mk (Kd.R_lower ho_ HO.out.size); replace HO := Aside0.mk (HO.out.step hb_); clear ho_ hb_ hg_ hnew_ hcx hbit) | ((with_reducible refine gate_builtin (b := .append) (xs := #[.tmp 34, .tmp 38]) rfl ?_); at_builtin; refine Kd.S_append (Kd.slice 3 (Kd.int .i64)) (w0 := w) w.heap.size rfl (.tmp 34) (.tmp 38) 22 31 (.slice none 0 0) 24 rfl Try.underlying22 info31 rfl (by decide) (by omega) _ X [(b : Int), (x0 : Int)] [.slice AY ([(b : Int), (x0 : Int)] : List Int).length cY] (fun _ => True) (fun k => some k = (Value.slice AY ([(b : Int), (x0 : Int)] : List Int).length cY).ownBlock) rfl rfl ?aP (fun k hk => (Kd.R_apart' HY.out (Kd.S_typed HS.out) (by decide)).1 k hk.symm) (fun _ _ => trivial) ?aO HO.out.below HO.out.size (by have := HXL.out; omega) ?_; (case aP => exact Kd.M_row (Kd.R_tight rfl HY.out)); (case aO => exact Kd.S_mono HS.out (fun k hk => ⟨trivial, fun e_ => hk.2 e_⟩)); intro v39 w_ ho_ hb_ hg_ hat_; replace HO := Aside0.mk (HO.out.row (Kd.S_R HS.out) (Nat.le_refl _) hg_ (by simp)); replace HS := Aside0.mk ho_; clear ho_ hb_ hg_ hat_))
            go_roundw
            case rel => exact ⟨i + 1, by go_num, by omega, ⟨by rw [HST.out, if_pos rfl]; exact HS.out⟩, HO⟩
            case measure => simp [intOf]; omega
        · have hE : i = row.length := by omega
          subst hE
          go_wp2
          go_roundw
          case rel => exact ⟨b + 1, by go_num, by omega, ⟨by rw [HSU.out]; have := HS.out; rw [List.take_length] at this; exact this⟩, HO⟩
          case measure => simp [intOf]; omega
    · have hE : b = g.length := by omega
      subst hE
      go_wp2
      go_ret
      exact ⟨_, rfl, HS.out, HO.out.below⟩
end Go.Proofs.Ytplcipjlkogadaa.P

namespace Go.Proofs.Ytplcipjlkogadaa.P
open Go.RowKit Go.Proofs.YtplcipjlkogadaaW.PrintWords Go.Proofs.YtplcipjlkogadaaW.PrintLast Go.Proofs.YtplcipjlkogadaaW.PrintMore
attribute [local go_sem] max2_int min2_int max_two min_two max_three min_three max_four min_four
def impl_BackEdges.f (l0_0 : List (List Int)) : Option (List (List Int) × Bool) := some (if H.goodG l0_0 then (beTo (H.domF l0_0) l0_0 l0_0.length, true) else ([], false))
set_option maxHeartbeats 8000000 in
set_option maxRecDepth 100000 in
theorem impl_BackEdges.calls (A0_0 : Option Addr) (c0_0 : Nat) (l0_0 : List (List Int)) (r1 : List (List Int)) (r2 : Bool) (w : World) (hr0_0 : Kd.C (Kd.slice 3 (Kd.int .i64)) w A0_0 l0_0.length l0_0) (hc0_0 : l0_0.length ≤ c0_0) (h : impl_BackEdges.f l0_0 = some (r1, r2)) :
    Calls Try.prog 39 #[.agg #[.slice A0_0 l0_0.length c0_0]] w fun e w' => ∃ v0_ : Value, e = .returned (.tuple #[v0_, .bool r2]) ∧ Kd.S (Kd.slice 3 (Kd.int .i64)) 31 w' w.heap.size (fun _ => True) v0_ r1 ∧ Below w.heap.size w w' := by
  replace h := Option.some.inj h
  have HR0 := Aside0.mk hr0_0
  have HC0 := Aside0.mk hc0_0
  clear hr0_0 hc0_0
  have HO := Aside0.mk (H.Own.nil w)
  have HK := Aside0.mk (fun (W : World) (hb : Below w.heap.size w W) => impl_GoodGraph.calls A0_0 c0_0 l0_0 _ W (Kd.C_below HR0.out hb) HC0.out rfl)
  cases hg : H.goodG l0_0 with
  | false =>
    rw [hg, if_neg (by simp), Prod.mk.injEq] at h
    obtain ⟨rfl, rfl⟩ := h
    rw [hg] at HK
    clear hg
    go_enter Try.func39, Try.ntmps39
    go_wp2_with (first | ((with_reducible refine gate_dst (N := 1) rfl ?_); refine H.own_box HO.out ?bxg (N := 1) ?bxd (cs := #[Value.slice A0_0 l0_0.length c0_0]) (t := 27) ?bxr ?_; (case bxd => rfl); (case bxg => rfl); (case bxr => first | (go_simp; done) | (go_simp; rfl)); intro gp w_ ho_ hb_; replace HO := Aside0.mk ho_; clear ho_ hb_) | ((with_reducible refine gate_dst (N := 4) rfl ?_); refine wpList_load_row rfl 27 (.tmp 1) rfl _ rfl 27 _ (0, 0) _ (HO.out.get 0 rfl) Try.underlying27 rfl (by kernel_rfl) ?_) | (go_at_call 18; refine (HK.out _ HO.out.below).mono ?_; rintro e w' ⟨rfl, hb⟩; replace HO := Aside0.mk (HO.out.step hb); clear hb))
    go_ret2
    exact ⟨_, rfl, Kd.S_nil _ _ _ _ _, HO.out.below⟩
  | true =>
    rw [hg, if_pos rfl, Prod.mk.injEq] at h
    obtain ⟨rfl, rfl⟩ := h
    rw [hg] at HK
    have hr := H.goodG_rows hg
    have hn1 : 1 ≤ l0_0.length := hr.1.1
    have hn2 : l0_0.length ≤ 12 := hr.1.2
    have HG := Aside0.mk hg
    clear hg hr
    go_enter Try.func39, Try.ntmps39
    go_wp2_with (first | ((with_reducible refine gate_dst (N := 1) rfl ?_); refine H.own_box HO.out ?bxg (N := 1) ?bxd (cs := #[Value.slice A0_0 l0_0.length c0_0]) (t := 27) ?bxr ?_; (case bxd => rfl); (case bxg => rfl); (case bxr => first | (go_simp; done) | (go_simp; rfl)); intro gp w_ ho_ hb_; replace HO := Aside0.mk ho_; clear ho_ hb_) | ((with_reducible refine gate_dst (N := 4) rfl ?_); refine wpList_load_row rfl 27 (.tmp 1) rfl _ rfl 27 _ (0, 0) _ (HO.out.get 0 rfl) Try.underlying27 rfl (by kernel_rfl) ?_) | (go_at_call 18; refine (HK.out _ HO.out.below).mono ?_; rintro e w' ⟨rfl, hb⟩; replace HO := Aside0.mk (HO.out.step hb); clear hb) | (go_at_call 70; refine (impl_backEdges.calls ⟨gp, 0, none⟩ A0_0 c0_0 l0_0 _ (HO.out.cell 0 rfl 0) (Kd.C_below HR0.out HO.out.below) HG.out).mono ?_; rintro e w' ⟨v0, rfl, hv, hb⟩; have HV := Aside0.mk (Kd.S_lower hv HO.out.size); replace HO := Aside0.mk (HO.out.step hb); clear hv hb))
    go_ret2
    exact ⟨_, rfl, HV.out, HO.out.below⟩
end Go.Proofs.Ytplcipjlkogadaa.P

