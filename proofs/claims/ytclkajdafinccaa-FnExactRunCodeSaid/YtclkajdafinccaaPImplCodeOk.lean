-- Written by a program of this session (wip/plug.py) out of Lean's print of the translation.
import Derived.Test.YtclkajdafinccaaP0
import Derived.Test.YtclkajdafinccaaPImplWithin
namespace Go.Proofs.Ytclkajdafinccaa.P
open Go.RowKit Go.Proofs.YtclkajdafinccaaW.PrintWords Go.Proofs.YtclkajdafinccaaW.PrintLast Go.Proofs.YtclkajdafinccaaW.PrintMore
attribute [local go_sem] max2_int min2_int max_two min_two max_three min_three max_four min_four   -- for this text's walks alone
set_option linter.unusedVariables false
set_option linter.unusedSimpArgs false

/-! ### impl_codeOk: function 67 -/
theorem within_any (a b c : Int) (W : World) : Calls Try.prog 89 #[.int .i64 a, .int .i64 b, .int .i64 c] W fun e w' => e = .returned (.bool (H.inB a b c)) ∧ Drawn0 W w' :=
  impl_within.calls a b c _ W (by unfold impl_within.f H.inB; by_cases h : b ≤ a <;> simp [h])

/-- One step of code: is it as is asked, where so many places are set. -/
def codeStep (set : List Bool) (c : S89) : Bool :=
  H.inB c.f1 0 39 && H.inB c.f2 0 39 && H.inB c.f3 0 39 &&
  (if c.f0 = 1 then c.f2 == 0 && c.f3 == 0 && H.inB c.f4 (-1000) 1000 else H.inB c.f0 2 4 && c.f4 == 0 && set.getD c.f2.toNat false && set.getD c.f3.toNat false)

def codeFold : List S89 → List Bool → Bool
  | [], _ => true
  | c :: l, set => codeStep set c && codeFold l (set.set c.f1.toNat true)

def impl_codeOk.f (l0 : List (S89)) : Option (Bool) := some (H.inB l0.length 1 60 && codeFold l0 (List.replicate 40 false))

set_option maxHeartbeats 8000000 in
set_option maxRecDepth 100000 in
theorem impl_codeOk.calls (A0 : Option Addr) (c0 : Nat) (l0 : List (S89)) (r : Bool) (w : World) (hr0 : Kd.C k89 w A0 l0.length l0) (hc0 : l0.length ≤ c0) (h : impl_codeOk.f l0 = some r) :
    Calls Try.prog 67 #[.slice A0 l0.length c0] w fun e w' => e = .returned (.bool r) ∧ Below w.heap.size w w' := by
  have hr := Option.some.inj h
  clear h
  have HR := Aside0.mk hr0
  have hn := hr0.2.1
  have HW := Aside0.mk within_any
  clear hr0
  cases hl : H.inB l0.length 1 60 with
  | false =>
    rw [hl, Bool.false_and] at hr
    subst hr
    go_enter Try.func67, Try.ntmps67
    go_wp2_with (go_at_call 89; refine (HW.out _ _ _ _).mono ?_; rintro e w' ⟨rfl, ⟨nd, rfl⟩⟩)
    go_ret
    exact ⟨rfl, Drawn0.below ⟨nd, rfl⟩⟩
  | true =>
    rw [hl, Bool.true_and] at hr
    have HE := Aside0.mk hr
    have HL := Aside0.mk hl
    clear hr
    go_enter Try.func67, Try.ntmps67
    go_wp2_with (first | (go_at_call 89; refine (HW.out _ _ _ _).mono ?_; rintro e w' ⟨rfl, ⟨nd, rfl⟩⟩) | ((with_reducible refine gate_dst (N := 3) rfl ?_); refine box_event ?hg (N := 3) ?hd (cs := H.bcells (List.replicate 40 false)) (t := 120) ?hr ?_; (case hd => rfl); (case hg => rfl); (case hr => first | (go_simp; done) | (go_simp; rfl)); intro gs hgs w6 hbs hb6; have HGS := Aside0.mk (show w.heap.size ≤ gs by rw [hgs]; exact Nat.le_refl _); have HBS := Aside0.mk hbs; have HB6 := Aside0.mk (show Below w.heap.size w w6 from (Drawn0.below ⟨nd, rfl⟩).trans hb6); clear hgs hbs hb6))
    go_loopw [12] (fun v12 wr => ∃ (i : Nat) (bs : List Bool), v12 = .int .i64 i ∧ i ≤ l0.length ∧ Aside0 (bs.length = 40) ∧ Aside0 (codeFold (l0.drop i) bs = r) ∧ Aside0 (wr.heap[gs]? = some (.cells (H.bcells bs) 120 (0, 0))) ∧ Aside0 (Below w.heap.size w wr)) (fun v12 _ => l0.length - (intOf v12).toNat)
    case atStart => exact ⟨0, _, rfl, Nat.zero_le _, ⟨by simp⟩, HE, HBS, HB6⟩
    case round =>
      clear HE HBS HB6 HL
      obtain ⟨i, bs, rfl, hi, HLN, HE, HBS, HB⟩ := hrel
      by_cases hlt : i < l0.length
      · obtain ⟨ad, e, h0, h1, h2, h3, h4⟩ := at_T89 HR.out (i : Int) (by omega) (by omega)
        cases e
        rw [Int.toNat_natCast] at h0 h1 h2 h3 h4
        have hx : rd_T89 l0 (i : Int) = l0[i] := by
          show l0.getD i _ = _
          rw [List.getD_eq_getElem?_getD, List.getElem?_eq_getElem hlt]
          rfl
        have hE := HE.out
        rw [List.drop_eq_getElem_cons hlt] at hE
        rw [hx] at h0 h1 h2 h3 h4
        clear hx HE
        generalize l0[i] = x at h0 h1 h2 h3 h4 hE
        obtain ⟨op, to_, xa, xb, num⟩ := x
        simp only [codeFold] at h0 h1 h2 h3 h4 hE
        replace h0 := (HB.out.cell (World.block_lt_of_cell? w _ h0)).trans h0
        replace h1 := (HB.out.cell (World.block_lt_of_cell? w _ h1)).trans h1
        replace h2 := (HB.out.cell (World.block_lt_of_cell? w _ h2)).trans h2
        replace h3 := (HB.out.cell (World.block_lt_of_cell? w _ h3)).trans h3
        replace h4 := (HB.out.cell (World.block_lt_of_cell? w _ h4)).trans h4
        have HE := Aside0.mk hE
        clear hE
        cases hb1 : H.inB to_ 0 39 with
        | false =>
          obtain rfl : r = false := by rw [← HE.out]; simp [codeStep, hb1]
          clear HE
          go_wp2_with (first | (go_at_call 89; refine (HW.out _ _ _ _).mono ?_; rintro e w' ⟨rfl, ⟨nd, rfl⟩⟩) | ((with_reducible refine gate_dst (N := 5) rfl ?_); refine box_event ?hg (N := 5) ?hd (cs := #[.int .i64 0, .int .i64 0, .int .i64 0, .int .i64 0, .int .i64 0]) (t := 89) ?hr ?_; (case hd => rfl); (case hg => rfl); (case hr => first | (go_simp; done) | (go_simp; rfl)); intro gx hgx w7 hbx hb7; have HBX := Aside0.mk hbx; have HBS7 := Aside0.mk (blk_below HBS.out hb7); have HNE := Aside0.mk (blk_ne (blk_below HBS.out hb7) hbx (by decide)); have HGX := Aside0.mk (show w.heap.size ≤ gx by rw [hgx]; exact HB.out.size); have HB7 := Aside0.mk (HB.out.trans (hb7.mono HB.out.size)); clear hgx hbx hb7) | ((with_reducible refine gate_store (t := 89) (p := 5) rfl ?_); refine H.store_blk (cs' := #[.int .i64 op, .int .i64 to_, .int .i64 xa, .int .i64 xb, .int .i64 num]) (u := .agg #[.int .i64 op, .int .i64 to_, .int .i64 xa, .int .i64 xb, .int .i64 num]) (seg := [.int .i64 op, .int .i64 to_, .int .i64 xa, .int .i64 xb, .int .i64 num]) rfl rfl rfl rfl HBX.out rfl rfl (by kernel_rfl) (by simp [Value.oneCell']) (by simp) (by simp) ?_; intro w8 hbx8 hg8 hz8; have HBS8 := Aside0.mk (H.blk_other HBS7.out hg8 HNE.out); have HB8 := Aside0.mk (H.below_own HB7.out hg8 HB7.out.size HGX.out); have hx0 : w8.cell? ⟨gx, 0, none⟩ = some (.int .i64 op) := (blk_cell hbx8 0).trans rfl; have hx1 : w8.cell? ⟨gx, 1, none⟩ = some (.int .i64 to_) := (blk_cell hbx8 1).trans rfl; have hx2 : w8.cell? ⟨gx, 2, none⟩ = some (.int .i64 xa) := (blk_cell hbx8 2).trans rfl; have hx3 : w8.cell? ⟨gx, 3, none⟩ = some (.int .i64 xb) := (blk_cell hbx8 3).trans rfl; have hx4 : w8.cell? ⟨gx, 4, none⟩ = some (.int .i64 num) := (blk_cell hbx8 4).trans rfl;  clear hbx8 hg8 hz8 h0 h1 h2 h3 h4))
          go_ret
          exact ⟨rfl, by repeat (first | exact HB8.out | apply pw_below_drewN | apply below_drew1)⟩
        | true =>
          have ht0 : 0 ≤ to_ := by simp [H.inB] at hb1; exact hb1.1
          have ht1 : to_ < 40 := by simp [H.inB] at hb1; omega
          cases hb2 : H.inB xa 0 39 with
          | false =>
            obtain rfl : r = false := by rw [← HE.out]; simp [codeStep, hb1, hb2]
            clear HE
            go_wp2_with (first | (go_at_call 89; refine (HW.out _ _ _ _).mono ?_; rintro e w' ⟨rfl, ⟨nd, rfl⟩⟩) | ((with_reducible refine gate_dst (N := 5) rfl ?_); refine box_event ?hg (N := 5) ?hd (cs := #[.int .i64 0, .int .i64 0, .int .i64 0, .int .i64 0, .int .i64 0]) (t := 89) ?hr ?_; (case hd => rfl); (case hg => rfl); (case hr => first | (go_simp; done) | (go_simp; rfl)); intro gx hgx w7 hbx hb7; have HBX := Aside0.mk hbx; have HBS7 := Aside0.mk (blk_below HBS.out hb7); have HNE := Aside0.mk (blk_ne (blk_below HBS.out hb7) hbx (by decide)); have HGX := Aside0.mk (show w.heap.size ≤ gx by rw [hgx]; exact HB.out.size); have HB7 := Aside0.mk (HB.out.trans (hb7.mono HB.out.size)); clear hgx hbx hb7) | ((with_reducible refine gate_store (t := 89) (p := 5) rfl ?_); refine H.store_blk (cs' := #[.int .i64 op, .int .i64 to_, .int .i64 xa, .int .i64 xb, .int .i64 num]) (u := .agg #[.int .i64 op, .int .i64 to_, .int .i64 xa, .int .i64 xb, .int .i64 num]) (seg := [.int .i64 op, .int .i64 to_, .int .i64 xa, .int .i64 xb, .int .i64 num]) rfl rfl rfl rfl HBX.out rfl rfl (by kernel_rfl) (by simp [Value.oneCell']) (by simp) (by simp) ?_; intro w8 hbx8 hg8 hz8; have HBS8 := Aside0.mk (H.blk_other HBS7.out hg8 HNE.out); have HB8 := Aside0.mk (H.below_own HB7.out hg8 HB7.out.size HGX.out); have hx0 : w8.cell? ⟨gx, 0, none⟩ = some (.int .i64 op) := (blk_cell hbx8 0).trans rfl; have hx1 : w8.cell? ⟨gx, 1, none⟩ = some (.int .i64 to_) := (blk_cell hbx8 1).trans rfl; have hx2 : w8.cell? ⟨gx, 2, none⟩ = some (.int .i64 xa) := (blk_cell hbx8 2).trans rfl; have hx3 : w8.cell? ⟨gx, 3, none⟩ = some (.int .i64 xb) := (blk_cell hbx8 3).trans rfl; have hx4 : w8.cell? ⟨gx, 4, none⟩ = some (.int .i64 num) := (blk_cell hbx8 4).trans rfl;  clear hbx8 hg8 hz8 h0 h1 h2 h3 h4))
            go_ret
            exact ⟨rfl, by repeat (first | exact HB8.out | apply pw_below_drewN | apply below_drew1)⟩
          | true =>
            have ha0 : 0 ≤ xa := by simp [H.inB] at hb2; exact hb2.1
            have ha1 : xa < 40 := by simp [H.inB] at hb2; omega
            cases hb3 : H.inB xb 0 39 with
            | false =>
              obtain rfl : r = false := by rw [← HE.out]; simp [codeStep, hb1, hb2, hb3]
              clear HE
              go_wp2_with (first | (go_at_call 89; refine (HW.out _ _ _ _).mono ?_; rintro e w' ⟨rfl, ⟨nd, rfl⟩⟩) | ((with_reducible refine gate_dst (N := 5) rfl ?_); refine box_event ?hg (N := 5) ?hd (cs := #[.int .i64 0, .int .i64 0, .int .i64 0, .int .i64 0, .int .i64 0]) (t := 89) ?hr ?_; (case hd => rfl); (case hg => rfl); (case hr => first | (go_simp; done) | (go_simp; rfl)); intro gx hgx w7 hbx hb7; have HBX := Aside0.mk hbx; have HBS7 := Aside0.mk (blk_below HBS.out hb7); have HNE := Aside0.mk (blk_ne (blk_below HBS.out hb7) hbx (by decide)); have HGX := Aside0.mk (show w.heap.size ≤ gx by rw [hgx]; exact HB.out.size); have HB7 := Aside0.mk (HB.out.trans (hb7.mono HB.out.size)); clear hgx hbx hb7) | ((with_reducible refine gate_store (t := 89) (p := 5) rfl ?_); refine H.store_blk (cs' := #[.int .i64 op, .int .i64 to_, .int .i64 xa, .int .i64 xb, .int .i64 num]) (u := .agg #[.int .i64 op, .int .i64 to_, .int .i64 xa, .int .i64 xb, .int .i64 num]) (seg := [.int .i64 op, .int .i64 to_, .int .i64 xa, .int .i64 xb, .int .i64 num]) rfl rfl rfl rfl HBX.out rfl rfl (by kernel_rfl) (by simp [Value.oneCell']) (by simp) (by simp) ?_; intro w8 hbx8 hg8 hz8; have HBS8 := Aside0.mk (H.blk_other HBS7.out hg8 HNE.out); have HB8 := Aside0.mk (H.below_own HB7.out hg8 HB7.out.size HGX.out); have hx0 : w8.cell? ⟨gx, 0, none⟩ = some (.int .i64 op) := (blk_cell hbx8 0).trans rfl; have hx1 : w8.cell? ⟨gx, 1, none⟩ = some (.int .i64 to_) := (blk_cell hbx8 1).trans rfl; have hx2 : w8.cell? ⟨gx, 2, none⟩ = some (.int .i64 xa) := (blk_cell hbx8 2).trans rfl; have hx3 : w8.cell? ⟨gx, 3, none⟩ = some (.int .i64 xb) := (blk_cell hbx8 3).trans rfl; have hx4 : w8.cell? ⟨gx, 4, none⟩ = some (.int .i64 num) := (blk_cell hbx8 4).trans rfl;  clear hbx8 hg8 hz8 h0 h1 h2 h3 h4))
              go_ret
              exact ⟨rfl, by repeat (first | exact HB8.out | apply pw_below_drewN | apply below_drew1)⟩
            | true =>
              have hc0 : 0 ≤ xb := by simp [H.inB] at hb3; exact hb3.1
              have hc1 : xb < 40 := by simp [H.inB] at hb3; omega
              by_cases ho : op = 1
              · subst ho
                by_cases za : xa = 0
                · subst za
                  by_cases zb : xb = 0
                  · subst zb
                    cases hb4 : H.inB num (-1000) 1000 with
                    | false =>
                      obtain rfl : r = false := by rw [← HE.out]; simp [codeStep, hb1, hb2, hb3, hb4]
                      clear HE
                      go_wp2_with (first | (go_at_call 89; refine (HW.out _ _ _ _).mono ?_; rintro e w' ⟨rfl, ⟨nd, rfl⟩⟩) | ((with_reducible refine gate_dst (N := 5) rfl ?_); refine box_event ?hg (N := 5) ?hd (cs := #[.int .i64 0, .int .i64 0, .int .i64 0, .int .i64 0, .int .i64 0]) (t := 89) ?hr ?_; (case hd => rfl); (case hg => rfl); (case hr => first | (go_simp; done) | (go_simp; rfl)); intro gx hgx w7 hbx hb7; have HBX := Aside0.mk hbx; have HBS7 := Aside0.mk (blk_below HBS.out hb7); have HNE := Aside0.mk (blk_ne (blk_below HBS.out hb7) hbx (by decide)); have HGX := Aside0.mk (show w.heap.size ≤ gx by rw [hgx]; exact HB.out.size); have HB7 := Aside0.mk (HB.out.trans (hb7.mono HB.out.size)); clear hgx hbx hb7) | ((with_reducible refine gate_store (t := 89) (p := 5) rfl ?_); refine H.store_blk (cs' := #[.int .i64 1, .int .i64 to_, .int .i64 0, .int .i64 0, .int .i64 num]) (u := .agg #[.int .i64 1, .int .i64 to_, .int .i64 0, .int .i64 0, .int .i64 num]) (seg := [.int .i64 1, .int .i64 to_, .int .i64 0, .int .i64 0, .int .i64 num]) rfl rfl rfl rfl HBX.out rfl rfl (by kernel_rfl) (by simp [Value.oneCell']) (by simp) (by simp) ?_; intro w8 hbx8 hg8 hz8; have HBS8 := Aside0.mk (H.blk_other HBS7.out hg8 HNE.out); have HB8 := Aside0.mk (H.below_own HB7.out hg8 HB7.out.size HGX.out); have hx0 : w8.cell? ⟨gx, 0, none⟩ = some (.int .i64 1) := (blk_cell hbx8 0).trans rfl; have hx1 : w8.cell? ⟨gx, 1, none⟩ = some (.int .i64 to_) := (blk_cell hbx8 1).trans rfl; have hx2 : w8.cell? ⟨gx, 2, none⟩ = some (.int .i64 0) := (blk_cell hbx8 2).trans rfl; have hx3 : w8.cell? ⟨gx, 3, none⟩ = some (.int .i64 0) := (blk_cell hbx8 3).trans rfl; have hx4 : w8.cell? ⟨gx, 4, none⟩ = some (.int .i64 num) := (blk_cell hbx8 4).trans rfl;  clear hbx8 hg8 hz8 h0 h1 h2 h3 h4))
                      go_ret
                      exact ⟨rfl, by repeat (first | exact HB8.out | apply pw_below_drewN | apply below_drew1)⟩
                    | true =>
                      have hE := HE.out
                      rw [show codeStep bs ⟨1, to_, 0, 0, num⟩ = true by simp [codeStep, hb1, hb2, hb3, hb4], Bool.true_and] at hE
                      have HE' := Aside0.mk hE
                      clear hE HE
                      go_wp2_with (first | (go_at_call 89; refine (HW.out _ _ _ _).mono ?_; rintro e w' ⟨rfl, ⟨nd, rfl⟩⟩) | ((with_reducible refine gate_dst (N := 5) rfl ?_); refine box_event ?hg (N := 5) ?hd (cs := #[.int .i64 0, .int .i64 0, .int .i64 0, .int .i64 0, .int .i64 0]) (t := 89) ?hr ?_; (case hd => rfl); (case hg => rfl); (case hr => first | (go_simp; done) | (go_simp; rfl)); intro gx hgx w7 hbx hb7; have HBX := Aside0.mk hbx; have HBS7 := Aside0.mk (blk_below HBS.out hb7); have HNE := Aside0.mk (blk_ne (blk_below HBS.out hb7) hbx (by decide)); have HGX := Aside0.mk (show w.heap.size ≤ gx by rw [hgx]; exact HB.out.size); have HB7 := Aside0.mk (HB.out.trans (hb7.mono HB.out.size)); clear hgx hbx hb7) | ((with_reducible refine gate_store (t := 89) (p := 5) rfl ?_); refine H.store_blk (cs' := #[.int .i64 1, .int .i64 to_, .int .i64 0, .int .i64 0, .int .i64 num]) (u := .agg #[.int .i64 1, .int .i64 to_, .int .i64 0, .int .i64 0, .int .i64 num]) (seg := [.int .i64 1, .int .i64 to_, .int .i64 0, .int .i64 0, .int .i64 num]) rfl rfl rfl rfl HBX.out rfl rfl (by kernel_rfl) (by simp [Value.oneCell']) (by simp) (by simp) ?_; intro w8 hbx8 hg8 hz8; have HBS8 := Aside0.mk (H.blk_other HBS7.out hg8 HNE.out); have HB8 := Aside0.mk (H.below_own HB7.out hg8 HB7.out.size HGX.out); have hx0 : w8.cell? ⟨gx, 0, none⟩ = some (.int .i64 1) := (blk_cell hbx8 0).trans rfl; have hx1 : w8.cell? ⟨gx, 1, none⟩ = some (.int .i64 to_) := (blk_cell hbx8 1).trans rfl; have hx2 : w8.cell? ⟨gx, 2, none⟩ = some (.int .i64 0) := (blk_cell hbx8 2).trans rfl; have hx3 : w8.cell? ⟨gx, 3, none⟩ = some (.int .i64 0) := (blk_cell hbx8 3).trans rfl; have hx4 : w8.cell? ⟨gx, 4, none⟩ = some (.int .i64 num) := (blk_cell hbx8 4).trans rfl;  clear hbx8 hg8 hz8 h0 h1 h2 h3 h4) | ((with_reducible refine gate_store (t := 4) (p := 83) rfl ?_); go_must (refine H.store_blk (g := gs) (off := to_.toNat) (cs := H.bcells bs) (cs' := H.bcells (bs.set to_.toNat true)) (u := .bool true) (seg := [.bool true]) rfl rfl rfl rfl HBS8.out rfl rfl (by kernel_rfl) (by simp [Value.oneCell']) (by rw [H.bcells_size, HLN.out]; show to_.toNat + 1 ≤ 40; omega) (H.bcells_put _ _ _ (by rw [HLN.out]; omega)) ?_); intro w9 hbs9 hg9 hz9; have HBS9 := Aside0.mk hbs9; have HB9 := Aside0.mk (H.below_own (pw_below_drewN HB8.out _) hg9 HB8.out.size HGS.out); clear hbs9 hg9 hz9))
                      go_roundw
                      case rel => exact ⟨i + 1, _, by go_num, by omega, ⟨by rw [List.length_set]; exact HLN.out⟩, HE', HBS9, HB9⟩
                      case measure => simp [intOf]; omega
                  · have zb1 : (xb == 0) = false := beq_eq_false_iff_ne.2 zb
                    have zb2 : (xb != 0) = true := bne_iff_ne.2 zb
                    clear zb
                    obtain rfl : r = false := by rw [← HE.out]; simp [codeStep, hb1, hb2, hb3, zb1]
                    clear HE
                    go_wp2_with (first | (go_at_call 89; refine (HW.out _ _ _ _).mono ?_; rintro e w' ⟨rfl, ⟨nd, rfl⟩⟩) | ((with_reducible refine gate_dst (N := 5) rfl ?_); refine box_event ?hg (N := 5) ?hd (cs := #[.int .i64 0, .int .i64 0, .int .i64 0, .int .i64 0, .int .i64 0]) (t := 89) ?hr ?_; (case hd => rfl); (case hg => rfl); (case hr => first | (go_simp; done) | (go_simp; rfl)); intro gx hgx w7 hbx hb7; have HBX := Aside0.mk hbx; have HBS7 := Aside0.mk (blk_below HBS.out hb7); have HNE := Aside0.mk (blk_ne (blk_below HBS.out hb7) hbx (by decide)); have HGX := Aside0.mk (show w.heap.size ≤ gx by rw [hgx]; exact HB.out.size); have HB7 := Aside0.mk (HB.out.trans (hb7.mono HB.out.size)); clear hgx hbx hb7) | ((with_reducible refine gate_store (t := 89) (p := 5) rfl ?_); refine H.store_blk (cs' := #[.int .i64 1, .int .i64 to_, .int .i64 0, .int .i64 xb, .int .i64 num]) (u := .agg #[.int .i64 1, .int .i64 to_, .int .i64 0, .int .i64 xb, .int .i64 num]) (seg := [.int .i64 1, .int .i64 to_, .int .i64 0, .int .i64 xb, .int .i64 num]) rfl rfl rfl rfl HBX.out rfl rfl (by kernel_rfl) (by simp [Value.oneCell']) (by simp) (by simp) ?_; intro w8 hbx8 hg8 hz8; have HBS8 := Aside0.mk (H.blk_other HBS7.out hg8 HNE.out); have HB8 := Aside0.mk (H.below_own HB7.out hg8 HB7.out.size HGX.out); have hx0 : w8.cell? ⟨gx, 0, none⟩ = some (.int .i64 1) := (blk_cell hbx8 0).trans rfl; have hx1 : w8.cell? ⟨gx, 1, none⟩ = some (.int .i64 to_) := (blk_cell hbx8 1).trans rfl; have hx2 : w8.cell? ⟨gx, 2, none⟩ = some (.int .i64 0) := (blk_cell hbx8 2).trans rfl; have hx3 : w8.cell? ⟨gx, 3, none⟩ = some (.int .i64 xb) := (blk_cell hbx8 3).trans rfl; have hx4 : w8.cell? ⟨gx, 4, none⟩ = some (.int .i64 num) := (blk_cell hbx8 4).trans rfl;  clear hbx8 hg8 hz8 h0 h1 h2 h3 h4))
                    go_ret
                    exact ⟨rfl, by repeat (first | exact HB8.out | apply pw_below_drewN | apply below_drew1)⟩
                · have za1 : (xa == 0) = false := beq_eq_false_iff_ne.2 za
                  have za2 : (xa != 0) = true := bne_iff_ne.2 za
                  clear za
                  obtain rfl : r = false := by rw [← HE.out]; simp [codeStep, hb1, hb2, hb3, za1]
                  clear HE
                  go_wp2_with (first | (go_at_call 89; refine (HW.out _ _ _ _).mono ?_; rintro e w' ⟨rfl, ⟨nd, rfl⟩⟩) | ((with_reducible refine gate_dst (N := 5) rfl ?_); refine box_event ?hg (N := 5) ?hd (cs := #[.int .i64 0, .int .i64 0, .int .i64 0, .int .i64 0, .int .i64 0]) (t := 89) ?hr ?_; (case hd => rfl); (case hg => rfl); (case hr => first | (go_simp; done) | (go_simp; rfl)); intro gx hgx w7 hbx hb7; have HBX := Aside0.mk hbx; have HBS7 := Aside0.mk (blk_below HBS.out hb7); have HNE := Aside0.mk (blk_ne (blk_below HBS.out hb7) hbx (by decide)); have HGX := Aside0.mk (show w.heap.size ≤ gx by rw [hgx]; exact HB.out.size); have HB7 := Aside0.mk (HB.out.trans (hb7.mono HB.out.size)); clear hgx hbx hb7) | ((with_reducible refine gate_store (t := 89) (p := 5) rfl ?_); refine H.store_blk (cs' := #[.int .i64 1, .int .i64 to_, .int .i64 xa, .int .i64 xb, .int .i64 num]) (u := .agg #[.int .i64 1, .int .i64 to_, .int .i64 xa, .int .i64 xb, .int .i64 num]) (seg := [.int .i64 1, .int .i64 to_, .int .i64 xa, .int .i64 xb, .int .i64 num]) rfl rfl rfl rfl HBX.out rfl rfl (by kernel_rfl) (by simp [Value.oneCell']) (by simp) (by simp) ?_; intro w8 hbx8 hg8 hz8; have HBS8 := Aside0.mk (H.blk_other HBS7.out hg8 HNE.out); have HB8 := Aside0.mk (H.below_own HB7.out hg8 HB7.out.size HGX.out); have hx0 : w8.cell? ⟨gx, 0, none⟩ = some (.int .i64 1) := (blk_cell hbx8 0).trans rfl; have hx1 : w8.cell? ⟨gx, 1, none⟩ = some (.int .i64 to_) := (blk_cell hbx8 1).trans rfl; have hx2 : w8.cell? ⟨gx, 2, none⟩ = some (.int .i64 xa) := (blk_cell hbx8 2).trans rfl; have hx3 : w8.cell? ⟨gx, 3, none⟩ = some (.int .i64 xb) := (blk_cell hbx8 3).trans rfl; have hx4 : w8.cell? ⟨gx, 4, none⟩ = some (.int .i64 num) := (blk_cell hbx8 4).trans rfl;  clear hbx8 hg8 hz8 h0 h1 h2 h3 h4))
                  go_ret
                  exact ⟨rfl, by repeat (first | exact HB8.out | apply pw_below_drewN | apply below_drew1)⟩
              · have ho1 : (op == 1) = false := beq_eq_false_iff_ne.2 ho
                have ho2 : (op != 1) = true := bne_iff_ne.2 ho
                have ho3 : decide (op = 1) = false := decide_eq_false ho
                have HO := Aside0.mk ho
                clear ho
                cases hb4 : H.inB op 2 4 with
                | false =>
                  obtain rfl : r = false := by rw [← HE.out]; simp [codeStep, hb1, hb2, hb3, HO.out, hb4]
                  clear HE
                  go_wp2_with (first | (go_at_call 89; refine (HW.out _ _ _ _).mono ?_; rintro e w' ⟨rfl, ⟨nd, rfl⟩⟩) | ((with_reducible refine gate_dst (N := 5) rfl ?_); refine box_event ?hg (N := 5) ?hd (cs := #[.int .i64 0, .int .i64 0, .int .i64 0, .int .i64 0, .int .i64 0]) (t := 89) ?hr ?_; (case hd => rfl); (case hg => rfl); (case hr => first | (go_simp; done) | (go_simp; rfl)); intro gx hgx w7 hbx hb7; have HBX := Aside0.mk hbx; have HBS7 := Aside0.mk (blk_below HBS.out hb7); have HNE := Aside0.mk (blk_ne (blk_below HBS.out hb7) hbx (by decide)); have HGX := Aside0.mk (show w.heap.size ≤ gx by rw [hgx]; exact HB.out.size); have HB7 := Aside0.mk (HB.out.trans (hb7.mono HB.out.size)); clear hgx hbx hb7) | ((with_reducible refine gate_store (t := 89) (p := 5) rfl ?_); refine H.store_blk (cs' := #[.int .i64 op, .int .i64 to_, .int .i64 xa, .int .i64 xb, .int .i64 num]) (u := .agg #[.int .i64 op, .int .i64 to_, .int .i64 xa, .int .i64 xb, .int .i64 num]) (seg := [.int .i64 op, .int .i64 to_, .int .i64 xa, .int .i64 xb, .int .i64 num]) rfl rfl rfl rfl HBX.out rfl rfl (by kernel_rfl) (by simp [Value.oneCell']) (by simp) (by simp) ?_; intro w8 hbx8 hg8 hz8; have HBS8 := Aside0.mk (H.blk_other HBS7.out hg8 HNE.out); have HB8 := Aside0.mk (H.below_own HB7.out hg8 HB7.out.size HGX.out); have hx0 : w8.cell? ⟨gx, 0, none⟩ = some (.int .i64 op) := (blk_cell hbx8 0).trans rfl; have hx1 : w8.cell? ⟨gx, 1, none⟩ = some (.int .i64 to_) := (blk_cell hbx8 1).trans rfl; have hx2 : w8.cell? ⟨gx, 2, none⟩ = some (.int .i64 xa) := (blk_cell hbx8 2).trans rfl; have hx3 : w8.cell? ⟨gx, 3, none⟩ = some (.int .i64 xb) := (blk_cell hbx8 3).trans rfl; have hx4 : w8.cell? ⟨gx, 4, none⟩ = some (.int .i64 num) := (blk_cell hbx8 4).trans rfl;  clear hbx8 hg8 hz8 h0 h1 h2 h3 h4))
                  go_ret
                  exact ⟨rfl, by repeat (first | exact HB8.out | apply pw_below_drewN | apply below_drew1)⟩
                | true =>
                  by_cases zn : num = 0
                  · subst zn
                    cases hga : bs[xa.toNat]?.getD false with
                    | false =>
                      obtain rfl : r = false := by rw [← HE.out]; simp [codeStep, hb1, hb2, hb3, HO.out, hb4, hga]
                      clear HE
                      go_wp2_with (first | (go_at_call 89; refine (HW.out _ _ _ _).mono ?_; rintro e w' ⟨rfl, ⟨nd, rfl⟩⟩) | ((with_reducible refine gate_dst (N := 5) rfl ?_); refine box_event ?hg (N := 5) ?hd (cs := #[.int .i64 0, .int .i64 0, .int .i64 0, .int .i64 0, .int .i64 0]) (t := 89) ?hr ?_; (case hd => rfl); (case hg => rfl); (case hr => first | (go_simp; done) | (go_simp; rfl)); intro gx hgx w7 hbx hb7; have HBX := Aside0.mk hbx; have HBS7 := Aside0.mk (blk_below HBS.out hb7); have HNE := Aside0.mk (blk_ne (blk_below HBS.out hb7) hbx (by decide)); have HGX := Aside0.mk (show w.heap.size ≤ gx by rw [hgx]; exact HB.out.size); have HB7 := Aside0.mk (HB.out.trans (hb7.mono HB.out.size)); clear hgx hbx hb7) | ((with_reducible refine gate_store (t := 89) (p := 5) rfl ?_); refine H.store_blk (cs' := #[.int .i64 op, .int .i64 to_, .int .i64 xa, .int .i64 xb, .int .i64 0]) (u := .agg #[.int .i64 op, .int .i64 to_, .int .i64 xa, .int .i64 xb, .int .i64 0]) (seg := [.int .i64 op, .int .i64 to_, .int .i64 xa, .int .i64 xb, .int .i64 0]) rfl rfl rfl rfl HBX.out rfl rfl (by kernel_rfl) (by simp [Value.oneCell']) (by simp) (by simp) ?_; intro w8 hbx8 hg8 hz8; have HBS8 := Aside0.mk (H.blk_other HBS7.out hg8 HNE.out); have HB8 := Aside0.mk (H.below_own HB7.out hg8 HB7.out.size HGX.out); have hx0 : w8.cell? ⟨gx, 0, none⟩ = some (.int .i64 op) := (blk_cell hbx8 0).trans rfl; have hx1 : w8.cell? ⟨gx, 1, none⟩ = some (.int .i64 to_) := (blk_cell hbx8 1).trans rfl; have hx2 : w8.cell? ⟨gx, 2, none⟩ = some (.int .i64 xa) := (blk_cell hbx8 2).trans rfl; have hx3 : w8.cell? ⟨gx, 3, none⟩ = some (.int .i64 xb) := (blk_cell hbx8 3).trans rfl; have hx4 : w8.cell? ⟨gx, 4, none⟩ = some (.int .i64 0) := (blk_cell hbx8 4).trans rfl; have hca : w8.cell? ⟨gs, xa.toNat, none⟩ = some (.bool (bs.getD xa.toNat false)) := H.bcells_get HBS8.out xa.toNat (by rw [HLN.out]; omega); have hcb : w8.cell? ⟨gs, xb.toNat, none⟩ = some (.bool (bs.getD xb.toNat false)) := H.bcells_get HBS8.out xb.toNat (by rw [HLN.out]; omega); clear hbx8 hg8 hz8 h0 h1 h2 h3 h4))
                      go_ret
                      exact ⟨rfl, by repeat (first | exact HB8.out | apply pw_below_drewN | apply below_drew1)⟩
                    | true =>
                      cases hgb : bs[xb.toNat]?.getD false with
                      | false =>
                        obtain rfl : r = false := by rw [← HE.out]; simp [codeStep, hb1, hb2, hb3, HO.out, hb4, hga, hgb]
                        clear HE
                        go_wp2_with (first | (go_at_call 89; refine (HW.out _ _ _ _).mono ?_; rintro e w' ⟨rfl, ⟨nd, rfl⟩⟩) | ((with_reducible refine gate_dst (N := 5) rfl ?_); refine box_event ?hg (N := 5) ?hd (cs := #[.int .i64 0, .int .i64 0, .int .i64 0, .int .i64 0, .int .i64 0]) (t := 89) ?hr ?_; (case hd => rfl); (case hg => rfl); (case hr => first | (go_simp; done) | (go_simp; rfl)); intro gx hgx w7 hbx hb7; have HBX := Aside0.mk hbx; have HBS7 := Aside0.mk (blk_below HBS.out hb7); have HNE := Aside0.mk (blk_ne (blk_below HBS.out hb7) hbx (by decide)); have HGX := Aside0.mk (show w.heap.size ≤ gx by rw [hgx]; exact HB.out.size); have HB7 := Aside0.mk (HB.out.trans (hb7.mono HB.out.size)); clear hgx hbx hb7) | ((with_reducible refine gate_store (t := 89) (p := 5) rfl ?_); refine H.store_blk (cs' := #[.int .i64 op, .int .i64 to_, .int .i64 xa, .int .i64 xb, .int .i64 0]) (u := .agg #[.int .i64 op, .int .i64 to_, .int .i64 xa, .int .i64 xb, .int .i64 0]) (seg := [.int .i64 op, .int .i64 to_, .int .i64 xa, .int .i64 xb, .int .i64 0]) rfl rfl rfl rfl HBX.out rfl rfl (by kernel_rfl) (by simp [Value.oneCell']) (by simp) (by simp) ?_; intro w8 hbx8 hg8 hz8; have HBS8 := Aside0.mk (H.blk_other HBS7.out hg8 HNE.out); have HB8 := Aside0.mk (H.below_own HB7.out hg8 HB7.out.size HGX.out); have hx0 : w8.cell? ⟨gx, 0, none⟩ = some (.int .i64 op) := (blk_cell hbx8 0).trans rfl; have hx1 : w8.cell? ⟨gx, 1, none⟩ = some (.int .i64 to_) := (blk_cell hbx8 1).trans rfl; have hx2 : w8.cell? ⟨gx, 2, none⟩ = some (.int .i64 xa) := (blk_cell hbx8 2).trans rfl; have hx3 : w8.cell? ⟨gx, 3, none⟩ = some (.int .i64 xb) := (blk_cell hbx8 3).trans rfl; have hx4 : w8.cell? ⟨gx, 4, none⟩ = some (.int .i64 0) := (blk_cell hbx8 4).trans rfl; have hca : w8.cell? ⟨gs, xa.toNat, none⟩ = some (.bool (bs.getD xa.toNat false)) := H.bcells_get HBS8.out xa.toNat (by rw [HLN.out]; omega); have hcb : w8.cell? ⟨gs, xb.toNat, none⟩ = some (.bool (bs.getD xb.toNat false)) := H.bcells_get HBS8.out xb.toNat (by rw [HLN.out]; omega); clear hbx8 hg8 hz8 h0 h1 h2 h3 h4))
                        go_ret
                        exact ⟨rfl, by repeat (first | exact HB8.out | apply pw_below_drewN | apply below_drew1)⟩
                      | true =>
                        have hE := HE.out
                        rw [show codeStep bs ⟨op, to_, xa, xb, 0⟩ = true by simp [codeStep, hb1, hb2, hb3, HO.out, hb4, hga, hgb], Bool.true_and] at hE
                        have HE' := Aside0.mk hE
                        clear hE HE
                        go_wp2_with (first | (go_at_call 89; refine (HW.out _ _ _ _).mono ?_; rintro e w' ⟨rfl, ⟨nd, rfl⟩⟩) | ((with_reducible refine gate_dst (N := 5) rfl ?_); refine box_event ?hg (N := 5) ?hd (cs := #[.int .i64 0, .int .i64 0, .int .i64 0, .int .i64 0, .int .i64 0]) (t := 89) ?hr ?_; (case hd => rfl); (case hg => rfl); (case hr => first | (go_simp; done) | (go_simp; rfl)); intro gx hgx w7 hbx hb7; have HBX := Aside0.mk hbx; have HBS7 := Aside0.mk (blk_below HBS.out hb7); have HNE := Aside0.mk (blk_ne (blk_below HBS.out hb7) hbx (by decide)); have HGX := Aside0.mk (show w.heap.size ≤ gx by rw [hgx]; exact HB.out.size); have HB7 := Aside0.mk (HB.out.trans (hb7.mono HB.out.size)); clear hgx hbx hb7) | ((with_reducible refine gate_store (t := 89) (p := 5) rfl ?_); refine H.store_blk (cs' := #[.int .i64 op, .int .i64 to_, .int .i64 xa, .int .i64 xb, .int .i64 0]) (u := .agg #[.int .i64 op, .int .i64 to_, .int .i64 xa, .int .i64 xb, .int .i64 0]) (seg := [.int .i64 op, .int .i64 to_, .int .i64 xa, .int .i64 xb, .int .i64 0]) rfl rfl rfl rfl HBX.out rfl rfl (by kernel_rfl) (by simp [Value.oneCell']) (by simp) (by simp) ?_; intro w8 hbx8 hg8 hz8; have HBS8 := Aside0.mk (H.blk_other HBS7.out hg8 HNE.out); have HB8 := Aside0.mk (H.below_own HB7.out hg8 HB7.out.size HGX.out); have hx0 : w8.cell? ⟨gx, 0, none⟩ = some (.int .i64 op) := (blk_cell hbx8 0).trans rfl; have hx1 : w8.cell? ⟨gx, 1, none⟩ = some (.int .i64 to_) := (blk_cell hbx8 1).trans rfl; have hx2 : w8.cell? ⟨gx, 2, none⟩ = some (.int .i64 xa) := (blk_cell hbx8 2).trans rfl; have hx3 : w8.cell? ⟨gx, 3, none⟩ = some (.int .i64 xb) := (blk_cell hbx8 3).trans rfl; have hx4 : w8.cell? ⟨gx, 4, none⟩ = some (.int .i64 0) := (blk_cell hbx8 4).trans rfl; have hca : w8.cell? ⟨gs, xa.toNat, none⟩ = some (.bool (bs.getD xa.toNat false)) := H.bcells_get HBS8.out xa.toNat (by rw [HLN.out]; omega); have hcb : w8.cell? ⟨gs, xb.toNat, none⟩ = some (.bool (bs.getD xb.toNat false)) := H.bcells_get HBS8.out xb.toNat (by rw [HLN.out]; omega); clear hbx8 hg8 hz8 h0 h1 h2 h3 h4) | ((with_reducible refine gate_store (t := 4) (p := 83) rfl ?_); go_must (refine H.store_blk (g := gs) (off := to_.toNat) (cs := H.bcells bs) (cs' := H.bcells (bs.set to_.toNat true)) (u := .bool true) (seg := [.bool true]) rfl rfl rfl rfl HBS8.out rfl rfl (by kernel_rfl) (by simp [Value.oneCell']) (by rw [H.bcells_size, HLN.out]; show to_.toNat + 1 ≤ 40; omega) (H.bcells_put _ _ _ (by rw [HLN.out]; omega)) ?_); intro w9 hbs9 hg9 hz9; have HBS9 := Aside0.mk hbs9; have HB9 := Aside0.mk (H.below_own (pw_below_drewN HB8.out _) hg9 HB8.out.size HGS.out); clear hbs9 hg9 hz9))
                        go_roundw
                        case rel => exact ⟨i + 1, _, by go_num, by omega, ⟨by rw [List.length_set]; exact HLN.out⟩, HE', HBS9, HB9⟩
                        case measure => simp [intOf]; omega
                  · have zn1 : (num == 0) = false := beq_eq_false_iff_ne.2 zn
                    have zn2 : (num != 0) = true := bne_iff_ne.2 zn
                    clear zn
                    obtain rfl : r = false := by rw [← HE.out]; simp [codeStep, hb1, hb2, hb3, HO.out, hb4, zn1]
                    clear HE
                    go_wp2_with (first | (go_at_call 89; refine (HW.out _ _ _ _).mono ?_; rintro e w' ⟨rfl, ⟨nd, rfl⟩⟩) | ((with_reducible refine gate_dst (N := 5) rfl ?_); refine box_event ?hg (N := 5) ?hd (cs := #[.int .i64 0, .int .i64 0, .int .i64 0, .int .i64 0, .int .i64 0]) (t := 89) ?hr ?_; (case hd => rfl); (case hg => rfl); (case hr => first | (go_simp; done) | (go_simp; rfl)); intro gx hgx w7 hbx hb7; have HBX := Aside0.mk hbx; have HBS7 := Aside0.mk (blk_below HBS.out hb7); have HNE := Aside0.mk (blk_ne (blk_below HBS.out hb7) hbx (by decide)); have HGX := Aside0.mk (show w.heap.size ≤ gx by rw [hgx]; exact HB.out.size); have HB7 := Aside0.mk (HB.out.trans (hb7.mono HB.out.size)); clear hgx hbx hb7) | ((with_reducible refine gate_store (t := 89) (p := 5) rfl ?_); refine H.store_blk (cs' := #[.int .i64 op, .int .i64 to_, .int .i64 xa, .int .i64 xb, .int .i64 num]) (u := .agg #[.int .i64 op, .int .i64 to_, .int .i64 xa, .int .i64 xb, .int .i64 num]) (seg := [.int .i64 op, .int .i64 to_, .int .i64 xa, .int .i64 xb, .int .i64 num]) rfl rfl rfl rfl HBX.out rfl rfl (by kernel_rfl) (by simp [Value.oneCell']) (by simp) (by simp) ?_; intro w8 hbx8 hg8 hz8; have HBS8 := Aside0.mk (H.blk_other HBS7.out hg8 HNE.out); have HB8 := Aside0.mk (H.below_own HB7.out hg8 HB7.out.size HGX.out); have hx0 : w8.cell? ⟨gx, 0, none⟩ = some (.int .i64 op) := (blk_cell hbx8 0).trans rfl; have hx1 : w8.cell? ⟨gx, 1, none⟩ = some (.int .i64 to_) := (blk_cell hbx8 1).trans rfl; have hx2 : w8.cell? ⟨gx, 2, none⟩ = some (.int .i64 xa) := (blk_cell hbx8 2).trans rfl; have hx3 : w8.cell? ⟨gx, 3, none⟩ = some (.int .i64 xb) := (blk_cell hbx8 3).trans rfl; have hx4 : w8.cell? ⟨gx, 4, none⟩ = some (.int .i64 num) := (blk_cell hbx8 4).trans rfl;  clear hbx8 hg8 hz8 h0 h1 h2 h3 h4))
                    go_ret
                    exact ⟨rfl, by repeat (first | exact HB8.out | apply pw_below_drewN | apply below_drew1)⟩
      · go_wp2
        go_ret
        have : i = l0.length := by omega
        subst this
        refine ⟨H.ret_bool ?_, HB.out⟩
        rw [← HE.out, List.drop_length]
        rfl

end Go.Proofs.Ytclkajdafinccaa.P
