-- Written by a program of this session (wip/plug.py) out of Lean's print of the translation.
import Derived.Test.YtclkajdafinccaaP0
import Derived.Test.YtclkajdafinccaaPImplCodeOk
import Derived.Test.YtclkajdafinccaaPImplUsed
import Derived.Test.YtclkajdafinccaaPImplTreeValue
namespace Go.Proofs.Ytclkajdafinccaa.P
open Go.RowKit Go.Proofs.YtclkajdafinccaaW.PrintWords Go.Proofs.YtclkajdafinccaaW.PrintLast Go.Proofs.YtclkajdafinccaaW.PrintMore
attribute [local go_sem] max2_int min2_int max_two min_two max_three min_three max_four min_four   -- for this text's walks alone
set_option linter.unusedVariables false
set_option linter.unusedSimpArgs false

/-! ### impl_RunCode: function 31 -/
theorem mod_any (n : Int) (W : World) : Calls Try.prog 68 #[.int .i64 n] W fun e w' => e = .returned (.int .i64 (modF n)) ∧ w' = W := by
  go_enter Try.func68, Try.ntmps68
  go_wp2
  go_ret
  exact ⟨by simp [modF], rfl⟩

theorem combine_any (op a b : Int) (W : World) : Calls Try.prog 69 #[.int .i64 op, .int .i64 a, .int .i64 b] W fun e w' => e = .returned (.int .i64 (doF op a b)) ∧ w' = W := by
  have HM := Aside0.mk mod_any
  unfold doF
  by_cases h2 : op = 2
  · subst h2
    simp only [if_true]
    go_enter Try.func69, Try.ntmps69
    go_wp2_with (go_at_call 68; refine (HM.out _ _).mono ?_; rintro e w' ⟨rfl, rfl⟩)
    go_ret
    exact ⟨rfl, rfl⟩
  · rw [if_neg h2]
    have e2 : (op == 2) = false := beq_eq_false_iff_ne.2 h2
    by_cases h3 : op = 3
    · subst h3
      simp only [if_true]
      clear h2
      go_enter Try.func69, Try.ntmps69
      go_wp2_with (go_at_call 68; refine (HM.out _ _).mono ?_; rintro e w' ⟨rfl, rfl⟩)
      go_ret
      exact ⟨rfl, rfl⟩
    · rw [if_neg h3]
      have e3 : (op == 3) = false := beq_eq_false_iff_ne.2 h3
      clear h2 h3
      go_enter Try.func69, Try.ntmps69
      go_wp2_with (go_at_call 68; refine (HM.out _ _).mono ?_; rintro e w' ⟨rfl, rfl⟩)
      go_ret
      exact ⟨rfl, rfl⟩

/-- How many places code uses. -/
def usedV (l : List S89) : Int := l.foldl (fun m c => mx m (wrap64 (c.f1 + 1))) 0

theorem used_ends (l : List S89) (hl : l.length ≤ 1048576) : ∃ k, impl_used.f k l = some (usedV l) := by
  apply Ev.rounds
  unfold impl_used.f usedV
  have key := H.down (n := l.length) (p := fun i => ∀ m, Ev (fun k => impl_used.l0 k m l (l.length : Int) (i : Int)) ((l.drop i).foldl (fun m c => mx m (wrap64 (c.f1 + 1))) m)) ?h0 ?hs 0 (Nat.zero_le _) 0
  · simpa using key
  case h0 =>
    intro m
    refine Ev.step (f := fun _ => some m) (fun k => by simp only [impl_used.l0]; rw [if_neg (by omega)]) ?_
    simpa using Ev.now m
  case hs =>
    intro i hi ih m
    refine Ev.step (fun k => by simp only [impl_used.l0]; rw [if_pos (by omega), if_pos (by omega), if_pos (by omega), H.w64 (x := (i : Int) + 1) (by omega) (by omega)]) ?_
    rw [List.drop_eq_getElem_cons hi, List.foldl_cons]
    have e : rd_T89 l (i : Int) = l[i] := by
      show l.getD i _ = _
      rw [List.getD_eq_getElem?_getD, List.getElem?_eq_getElem hi]
      rfl
    rw [e]
    exact ih _

/-- One step of code, carried out. -/
def runStep (pl : List Int) (c : S89) : List Int := pl.set c.f1.toNat (if c.f0 = 1 then modF c.f4 else doF c.f0 (pl.getD c.f2.toNat 0) (pl.getD c.f3.toNat 0))

theorem codeFold_all : ∀ {l : List S89} {bs : List Bool}, codeFold l bs = true → ∀ c ∈ l, H.inB c.f1 0 39 = true ∧ H.inB c.f2 0 39 = true ∧ H.inB c.f3 0 39 = true
  | [], _, _, c, hc => by simp at hc
  | x :: l, bs, h, c, hc => by
    simp only [codeFold, Bool.and_eq_true] at h
    rcases List.mem_cons.1 hc with rfl | hc
    · simp only [codeStep, Bool.and_eq_true] at h
      exact ⟨h.1.1.1.1, h.1.1.1.2, h.1.1.2⟩
    · exact codeFold_all h.2 c hc

def impl_RunCode.f (l0 : List (S89)) : Option (Int × Int × Bool) :=
  if H.inB l0.length 1 60 && codeFold l0 (List.replicate 40 false) then some ((l0.foldl runStep (List.replicate 40 0)).getD (l0.getD (l0.length - 1) z89).f1.toNat 0, usedV l0, true) else some (0, 0, false)

set_option maxHeartbeats 8000000 in
set_option maxRecDepth 100000 in
theorem impl_RunCode.calls (A0 : Option Addr) (c0 : Nat) (l0 : List (S89)) (r1 : Int) (r2 : Int) (r3 : Bool) (w : World) (hr0 : Kd.C k89 w A0 l0.length l0) (hc0 : l0.length ≤ c0) (h : impl_RunCode.f l0 = some (r1, r2, r3)) :
    Calls Try.prog 31 #[.slice A0 l0.length c0] w fun e w' => e = .returned (.tuple #[.int .i64 r1, .int .i64 r2, .bool r3]) ∧ Below w.heap.size w w' := by
  have HK := Aside0.mk (impl_codeOk.calls A0 c0 l0 _ w hr0 hc0 rfl)
  have HR := Aside0.mk hr0
  have hn := hr0.2.1
  clear hr0
  unfold impl_RunCode.f at h
  cases hk : (H.inB l0.length 1 60 && codeFold l0 (List.replicate 40 false)) with
  | false =>
    rw [hk] at h HK
    simp only [Bool.false_eq_true, if_false, Option.some.injEq, Prod.mk.injEq] at h
    obtain ⟨rfl, rfl, rfl⟩ := h
    clear hk
    go_enter Try.func31, Try.ntmps31
    go_wp2_with fail
    refine HK.out.mono ?_
    rintro e w' ⟨rfl, hb⟩
    have HB := Aside0.mk hb
    clear hb
    go_wp2
    go_ret3
    exact ⟨rfl, HB.out⟩
  | true =>
    rw [hk] at h HK
    simp only [if_true, Option.some.injEq, Prod.mk.injEq] at h
    obtain ⟨h1, rfl, rfl⟩ := h
    have hk' := hk
    simp only [Bool.and_eq_true, H.inB, decide_eq_true_eq] at hk'
    have hlen1 : 1 ≤ l0.length := by omega
    have hlen2 : l0.length ≤ 60 := by omega
    have HALL := Aside0.mk (codeFold_all hk'.2)
    obtain ⟨ku, hku⟩ := used_ends l0 (by omega)
    have HU : Aside0 (∀ W, Below w.heap.size w W → Calls Try.prog 70 #[.slice A0 l0.length c0] W fun e w' => e = .returned (.int .i64 (usedV l0)) ∧ Below W.heap.size W w') :=
      ⟨fun W hb => impl_used.calls ku A0 c0 l0 _ W (Kd.C_below HR.out hb) hc0 hku⟩
    have HM := Aside0.mk mod_any
    have HC := Aside0.mk combine_any
    have HE := Aside0.mk h1
    clear hk hk' hku h1
    go_enter Try.func31, Try.ntmps31
    go_wp2_with fail
    refine HK.out.mono ?_
    clear HK
    rintro e w5 ⟨rfl, hb5⟩
    have HB5 := Aside0.mk hb5
    clear hb5
    go_wp2_with (first | ((with_reducible refine gate_dst (N := 5) rfl ?_); refine box_event ?hg (N := 5) ?hd (cs := H.icells (List.replicate 40 0)) (t := 94) ?hr ?_; (case hd => rfl); (case hg => rfl); (case hr => first | (go_simp; done) | (go_simp; rfl)); intro gs hgs w6 hbs hb6; have HGS := Aside0.mk (show w.heap.size ≤ gs by rw [hgs]; exact HB5.out.size); have HBS := Aside0.mk hbs; have HB6 := Aside0.mk (HB5.out.trans (hb6.mono HB5.out.size)); clear hgs hbs hb6))
    go_loopw [13] (fun v13 wr => ∃ (i : Nat) (pl : List Int), v13 = .int .i64 i ∧ i ≤ l0.length ∧ Aside0 (pl.length = 40) ∧ Aside0 (((l0.drop i).foldl runStep pl).getD (l0.getD (l0.length - 1) z89).f1.toNat 0 = r1) ∧ Aside0 (wr.heap[gs]? = some (.cells (H.icells pl) 94 (0, 0))) ∧ Aside0 (Below w.heap.size w wr)) (fun v13 _ => l0.length - (intOf v13).toNat)
    case atStart => exact ⟨0, _, rfl, Nat.zero_le _, ⟨by simp⟩, HE, HBS, HB6⟩
    case round =>
      clear HE HBS HB6 HB5
      obtain ⟨i, pl, rfl, hi, HLN, HE, HBS, HB⟩ := hrel
      by_cases hlt : i < l0.length
      · obtain ⟨ad, e, h0, h1, h2, h3, h4⟩ := at_T89 HR.out (i : Int) (by omega) (by omega)
        cases e
        rw [Int.toNat_natCast] at h0 h1 h2 h3 h4
        have hx : rd_T89 l0 (i : Int) = l0[i] := by
          show l0.getD i _ = _
          rw [List.getD_eq_getElem?_getD, List.getElem?_eq_getElem hlt]
          rfl
        obtain ⟨hi1, hi2, hi3⟩ := HALL.out l0[i] (List.getElem_mem hlt)
        have hE := HE.out
        rw [List.drop_eq_getElem_cons hlt, List.foldl_cons] at hE
        rw [hx] at h0 h1 h2 h3 h4
        clear hx HE
        generalize l0[i] = x at h0 h1 h2 h3 h4 hE hi1 hi2 hi3
        obtain ⟨op, to_, xa, xb, num⟩ := x
        simp only [H.inB, Bool.and_eq_true, decide_eq_true_eq] at h0 h1 h2 h3 h4 hE hi1 hi2 hi3
        replace h0 := (HB.out.cell (World.block_lt_of_cell? w _ h0)).trans h0
        replace h1 := (HB.out.cell (World.block_lt_of_cell? w _ h1)).trans h1
        replace h2 := (HB.out.cell (World.block_lt_of_cell? w _ h2)).trans h2
        replace h3 := (HB.out.cell (World.block_lt_of_cell? w _ h3)).trans h3
        replace h4 := (HB.out.cell (World.block_lt_of_cell? w _ h4)).trans h4
        have HE := Aside0.mk hE
        obtain ⟨ht0, ht1⟩ := hi1
        obtain ⟨ha0, ha1⟩ := hi2
        obtain ⟨hb0, hb1⟩ := hi3
        have ht2 : to_ < 40 := by omega
        have ha2 : xa < 40 := by omega
        have hb2 : xb < 40 := by omega
        clear hE
        by_cases ho : op = 1
        · subst ho
          go_wp2_with (first | ((with_reducible refine gate_dst (N := 7) rfl ?_); refine box_event ?hg (N := 7) ?hd (cs := #[.int .i64 0, .int .i64 0, .int .i64 0, .int .i64 0, .int .i64 0]) (t := 89) ?hr ?_; (case hd => rfl); (case hg => rfl); (case hr => first | (go_simp; done) | (go_simp; rfl)); intro gx hgx w7 hbx hb7; have HBX := Aside0.mk hbx; have HBS7 := Aside0.mk (blk_below HBS.out hb7); have HNE := Aside0.mk (blk_ne (blk_below HBS.out hb7) hbx (by decide)); have HGX := Aside0.mk (show w.heap.size ≤ gx by rw [hgx]; exact HB.out.size); have HB7 := Aside0.mk (HB.out.trans (hb7.mono HB.out.size)); clear hgx hbx hb7) | ((with_reducible refine gate_store (t := 89) (p := 7) rfl ?_); refine H.store_blk (cs' := #[.int .i64 1, .int .i64 to_, .int .i64 xa, .int .i64 xb, .int .i64 num]) (u := .agg #[.int .i64 1, .int .i64 to_, .int .i64 xa, .int .i64 xb, .int .i64 num]) (seg := [.int .i64 1, .int .i64 to_, .int .i64 xa, .int .i64 xb, .int .i64 num]) rfl rfl rfl rfl HBX.out rfl rfl (by kernel_rfl) (by simp [Value.oneCell']) (by simp) (by simp) ?_; intro w8 hbx8 hg8 hz8; have HBS8 := Aside0.mk (H.blk_other HBS7.out hg8 HNE.out); have HB8 := Aside0.mk (H.below_own HB7.out hg8 HB7.out.size HGX.out); have hx0 : w8.cell? ⟨gx, 0, none⟩ = some (.int .i64 1) := (blk_cell hbx8 0).trans rfl; have hx1 : w8.cell? ⟨gx, 1, none⟩ = some (.int .i64 to_) := (blk_cell hbx8 1).trans rfl; have hx2 : w8.cell? ⟨gx, 2, none⟩ = some (.int .i64 xa) := (blk_cell hbx8 2).trans rfl; have hx3 : w8.cell? ⟨gx, 3, none⟩ = some (.int .i64 xb) := (blk_cell hbx8 3).trans rfl; have hx4 : w8.cell? ⟨gx, 4, none⟩ = some (.int .i64 num) := (blk_cell hbx8 4).trans rfl;  clear hbx8 hg8 hz8 h0 h1 h2 h3 h4))
          refine wp_region_still_tail 6 (by kernel_rfl) (by kernel_rfl) ?_
          simp only [List.take_succ_cons, List.take_zero, List.drop_succ_cons, List.drop_zero]
          repeat still_step
          still_call (HM.out _ _)
          repeat still_step
          refine wpStill_nil ?_
          show wpList _ _ _ _ _ w8.drew
          refine H.store_blk (g := gs) (off := to_.toNat) (cs := H.icells pl) (cs' := H.icells (pl.set to_.toNat (modF num))) (u := .int .i64 (modF num)) (seg := [.int .i64 (modF num)]) rfl rfl rfl rfl HBS8.out rfl rfl (by kernel_rfl) (by simp [Value.oneCell']) (by rw [H.icells_size, HLN.out]; show to_.toNat + 1 ≤ 40; omega) (H.icells_put _ _ _ (by rw [HLN.out]; omega)) ?_
          intro w9 hbs9 hg9 hz9
          have HBS9 := Aside0.mk hbs9
          have HB9 := Aside0.mk (H.below_own (W := w8.drew) (HB8.out.drew) hg9 HB8.out.size HGS.out)
          clear hbs9 hg9 hz9
          go_wp2
          go_roundw
          case rel => exact ⟨i + 1, _, by go_num, by omega, ⟨by show (List.set _ _ _).length = 40; rw [List.length_set]; exact HLN.out⟩, HE, HBS9, HB9⟩
          case measure => simp [intOf]; omega
        · have ho1 : (op == 1) = false := beq_eq_false_iff_ne.2 ho
          have hE := HE.out
          rw [show runStep pl ⟨op, to_, xa, xb, num⟩ = pl.set to_.toNat (doF op (pl.getD xa.toNat 0) (pl.getD xb.toNat 0)) by simp [runStep, ho]] at hE
          have HE' := Aside0.mk hE
          clear hE HE ho
          go_wp2_with (first | ((with_reducible refine gate_dst (N := 7) rfl ?_); refine box_event ?hg (N := 7) ?hd (cs := #[.int .i64 0, .int .i64 0, .int .i64 0, .int .i64 0, .int .i64 0]) (t := 89) ?hr ?_; (case hd => rfl); (case hg => rfl); (case hr => first | (go_simp; done) | (go_simp; rfl)); intro gx hgx w7 hbx hb7; have HBX := Aside0.mk hbx; have HBS7 := Aside0.mk (blk_below HBS.out hb7); have HNE := Aside0.mk (blk_ne (blk_below HBS.out hb7) hbx (by decide)); have HGX := Aside0.mk (show w.heap.size ≤ gx by rw [hgx]; exact HB.out.size); have HB7 := Aside0.mk (HB.out.trans (hb7.mono HB.out.size)); clear hgx hbx hb7) | ((with_reducible refine gate_store (t := 89) (p := 7) rfl ?_); refine H.store_blk (cs' := #[.int .i64 op, .int .i64 to_, .int .i64 xa, .int .i64 xb, .int .i64 num]) (u := .agg #[.int .i64 op, .int .i64 to_, .int .i64 xa, .int .i64 xb, .int .i64 num]) (seg := [.int .i64 op, .int .i64 to_, .int .i64 xa, .int .i64 xb, .int .i64 num]) rfl rfl rfl rfl HBX.out rfl rfl (by kernel_rfl) (by simp [Value.oneCell']) (by simp) (by simp) ?_; intro w8 hbx8 hg8 hz8; have HBS8 := Aside0.mk (H.blk_other HBS7.out hg8 HNE.out); have HB8 := Aside0.mk (H.below_own HB7.out hg8 HB7.out.size HGX.out); have hx0 : w8.cell? ⟨gx, 0, none⟩ = some (.int .i64 op) := (blk_cell hbx8 0).trans rfl; have hx1 : w8.cell? ⟨gx, 1, none⟩ = some (.int .i64 to_) := (blk_cell hbx8 1).trans rfl; have hx2 : w8.cell? ⟨gx, 2, none⟩ = some (.int .i64 xa) := (blk_cell hbx8 2).trans rfl; have hx3 : w8.cell? ⟨gx, 3, none⟩ = some (.int .i64 xb) := (blk_cell hbx8 3).trans rfl; have hx4 : w8.cell? ⟨gx, 4, none⟩ = some (.int .i64 num) := (blk_cell hbx8 4).trans rfl;  have hca : w8.cell? ⟨gs, xa.toNat, none⟩ = some (.int .i64 (pl.getD xa.toNat 0)) := H.icells_get HBS8.out xa.toNat (by rw [HLN.out]; omega); have hcb : w8.cell? ⟨gs, xb.toNat, none⟩ = some (.int .i64 (pl.getD xb.toNat 0)) := H.icells_get HBS8.out xb.toNat (by rw [HLN.out]; omega); have HVA := Aside0.mk hca; have HVB := Aside0.mk hcb; clear hca hcb; clear hbx8 hg8 hz8 h0 h1 h2 h3 h4))
          generalize pl.getD xa.toNat 0 = va at HVA HE'
          generalize pl.getD xb.toNat 0 = vb at HVB HE'
          have hca := HVA.out
          have hcb := HVB.out
          clear HVA HVB
          refine wp_region_still_tail 14 (by kernel_rfl) (by kernel_rfl) ?_
          simp only [List.take_succ_cons, List.take_zero, List.drop_succ_cons, List.drop_zero]
          repeat still_step
          still_call (HC.out _ _ _ _)
          repeat still_step
          refine wpStill_nil ?_
          show wpList _ _ _ _ _ w8.drew
          refine H.store_blk (g := gs) (off := to_.toNat) (cs := H.icells pl) (cs' := H.icells (pl.set to_.toNat (doF op va vb))) (u := .int .i64 (doF op va vb)) (seg := [.int .i64 (doF op va vb)]) rfl rfl rfl rfl HBS8.out rfl rfl (by kernel_rfl) (by simp [Value.oneCell']) (by rw [H.icells_size, HLN.out]; show to_.toNat + 1 ≤ 40; omega) (H.icells_put _ _ _ (by rw [HLN.out]; omega)) ?_
          intro w9 hbs9 hg9 hz9
          have HBS9 := Aside0.mk hbs9
          have HB9 := Aside0.mk (H.below_own (W := w8.drew) (HB8.out.drew) hg9 HB8.out.size HGS.out)
          clear hbs9 hg9 hz9
          go_wp2
          go_roundw
          case rel => exact ⟨i + 1, _, by go_num, by omega, ⟨by show (List.set _ _ _).length = 40; rw [List.length_set]; exact HLN.out⟩, HE', HBS9, HB9⟩
          case measure => simp [intOf]; omega
      · have : i = l0.length := by omega
        subst this
        have hE := HE.out
        rw [List.drop_length, List.foldl_nil] at hE
        obtain ⟨ad, e, h0, h1, _⟩ := at_T89 HR.out ((l0.length : Int) - 1) (by omega) (by omega)
        cases e
        have hix : ((l0.length : Int) - 1).toNat = l0.length - 1 := by omega
        have hx : rd_T89 l0 ((l0.length : Int) - 1) = l0.getD (l0.length - 1) z89 := by
          show l0.getD _ _ = _
          rw [hix]
        have hmem : l0.getD (l0.length - 1) z89 ∈ l0 := by
          rw [List.getD_eq_getElem?_getD, List.getElem?_eq_getElem (show l0.length - 1 < l0.length by omega)]
          exact List.getElem_mem _
        obtain ⟨hi1, _, _⟩ := HALL.out _ hmem
        rw [hx, hix] at h1
        generalize l0.getD (l0.length - 1) z89 = x at h1 hE hi1
        clear hx h0 hmem HE
        obtain ⟨op, to_, xa, xb, num⟩ := x
        simp only [H.inB, Bool.and_eq_true, decide_eq_true_eq] at h1 hE hi1
        replace h1 := (HB.out.cell (World.block_lt_of_cell? w _ h1)).trans h1
        obtain ⟨ht0, ht1⟩ := hi1
        have ht2 : to_ < 40 := by omega
        have hcg : wr.cell? ⟨gs, to_.toNat, none⟩ = some (.int .i64 r1) := by rw [H.icells_get HBS.out to_.toNat (by rw [HLN.out]; omega), hE]
        have hq1 : (0 : Int) ≤ (l0.length : Int) - 1 := by omega
        have hq2 : (l0.length : Int) - 1 < (l0.length : Int) := by omega
        have hm1 : ((l0.length : Int) - 1).toNat = l0.length - 1 := by omega
        have HCG := Aside0.mk hcg
        clear hE
        have hq3 : (1 : Int) ≤ (l0.length : Int) := by omega
        have hq4 : 0 < l0.length := by omega
        have hq5 : (0 : Int) < (l0.length : Int) := by omega
        have hq6 : l0.length - 1 < l0.length := by omega
        have hq8 : wrap64 ((l0.length : Int) - 1) = (l0.length : Int) - 1 := by unfold wrap64; omega
        have hq7 : IntKind.i64.wrap ((l0.length : Int) - 1) = (l0.length : Int) - 1 := IntWalk.i64_in _ (by omega)
        go_wp2
        go_region_held3 (fun W => W.cell? ⟨(ad.add ((l0.length - 1) * 5)).block, (ad.add ((l0.length - 1) * 5)).off + 1, none⟩ = some (.int .i64 to_) ∧ W.cell? ⟨gs, to_.toNat, none⟩ = some (.int .i64 r1) ∧ Aside0 (Below w.heap.size w W))
          (first | (exact ⟨h1, HCG.out, ⟨HB.out.drew⟩⟩) | (exact ⟨(hbu.cell (World.block_lt_of_cell? wr _ h1)).trans h1, (hbu.cell (World.block_lt_of_cell? wr _ HCG.out)).trans HCG.out, ⟨(HB.out.drew).trans (hbu.mono HB.out.size)⟩⟩) | go_keep)
          ((go_at_call 70; refine (HU.out _ (HB.out.drew)).mono ?_; rintro e w' ⟨rfl, hbu⟩))
        go_wp2
        go_ret3
        exact ⟨rfl, (HB.out.drew).trans (hbu.mono HB.out.size)⟩

end Go.Proofs.Ytclkajdafinccaa.P
