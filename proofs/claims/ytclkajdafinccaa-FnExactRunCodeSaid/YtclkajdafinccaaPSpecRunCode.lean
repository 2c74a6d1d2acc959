-- Written by a program of this session (wip/plug.py) out of Lean's print of the translation.
import Derived.Test.YtclkajdafinccaaP0
import Derived.Test.YtclkajdafinccaaPSpecL1In
import Derived.Test.YtclkajdafinccaaPImplCodeOk
import Derived.Test.YtclkajdafinccaaPImplTreeValue
import Derived.Test.YtclkajdafinccaaPImplRunCode
import Derived.Test.YtclkajdafinccaaPSpecL13Good
namespace Go.Proofs.Ytclkajdafinccaa.P
open Go.RowKit Go.Proofs.YtclkajdafinccaaW.PrintWords Go.Proofs.YtclkajdafinccaaW.PrintLast Go.Proofs.YtclkajdafinccaaW.PrintMore
attribute [local go_sem] max2_int min2_int max_two min_two max_three min_three max_four min_four   -- for this text's walks alone
set_option linter.unusedVariables false
set_option linter.unusedSimpArgs false

/-! ### spec_RunCode: function 29 -/
theorem inB_f (a b c : Int) : spec_l1In.f a b c = some (H.inB a b c) := by
  unfold spec_l1In.f H.inB
  by_cases h : b ≤ a
  · simp [h]
  · simp [h]

theorem rdCode (l : List S89) (i : Nat) (hi : i < l.length) : rd_T89 l (i : Int) = l[i] := by
  show l.getD i _ = _
  rw [List.getD_eq_getElem?_getD, List.getElem?_eq_getElem hi]
  rfl

theorem inB_iff {a b c : Int} : H.inB a b c = true ↔ b ≤ a ∧ a ≤ c := by simp [H.inB]

theorem specGood_ev (l : List S89) (hl : l.length ≤ 9223372036854775807) : Ev (fun k => spec_l13Good.f k l) (H.inB l.length 1 60 && codeFold l (List.replicate 40 false)) := by
  unfold spec_l13Good.f
  refine Ev.congr (fun k => by rw [if_pos (by decide)]) ?_
  have key := H.down (n := l.length) (p := fun i => ∀ bs : List Bool, bs.length = 40 → Ev (fun k => spec_l13Good.l0 k l bs l (l.length : Int) (i : Int)) (codeFold (l.drop i) bs && H.inB l.length 1 60)) ?h0 ?hs 0 (Nat.zero_le _) (List.replicate 40 false) (by simp)
  · rw [Bool.and_comm]
    simpa using key
  case h0 =>
    intro bs hbs
    refine Ev.step (fun k => by simp only [spec_l13Good.l0]; rw [if_neg (by omega), inB_f]) ?_
    rw [List.drop_length]
    exact H.ev_is fun k => by simp [codeFold]
  case hs =>
    intro i hi ih bs hbs
    rw [List.drop_eq_getElem_cons hi]
    have hx := rdCode l i hi
    have hgo := fun bs' h => ih bs' h
    generalize l[i] = x at hx ⊢
    obtain ⟨op, to_, xa, xb, num⟩ := x
    simp only [codeFold]
    have stop : Ev (fun k => spec_l13Good.j1 k l bs l (l.length : Int) (i : Int) true op to_ xa xb num) false := Ev.step (f := fun _ => some false) (fun k => by simp [spec_l13Good.j1]) (Ev.now _)
    cases hb1 : H.inB to_ 0 39 with
    | false =>
      refine Ev.step (fun k => by simp only [spec_l13Good.l0]; rw [if_pos (by omega), if_pos (by omega), if_pos (by omega), hx, inB_f, hb1]) ?_
      refine H.ev_eq stop (by simp [codeStep, hb1])
    | true =>
      cases hb2 : H.inB xa 0 39 with
      | false =>
        refine Ev.step (fun k => by simp only [spec_l13Good.l0]; rw [if_pos (by omega), if_pos (by omega), if_pos (by omega), hx, inB_f, hb1, inB_f, hb2]) ?_
        refine H.ev_eq stop (by simp [codeStep, hb1, hb2])
      | true =>
        refine Ev.step (fun k => by simp only [spec_l13Good.l0]; rw [if_pos (by omega), if_pos (by omega), if_pos (by omega), hx, inB_f, hb1, inB_f, hb2, inB_f]) ?_
        show Ev (fun k => spec_l13Good.j1 k l bs l (l.length : Int) (i : Int) (!H.inB xb 0 39) op to_ xa xb num) _
        cases hb3 : H.inB xb 0 39 with
        | false => exact H.ev_eq stop (by simp [codeStep, hb1, hb2, hb3])
        | true =>
          have t1 := inB_iff.1 hb1
          have t2 := inB_iff.1 hb2
          have t3 := inB_iff.1 hb3
          have goOn : Ev (fun k => spec_l13Good.l0 k l (bs.set to_.toNat true) l (l.length : Int) (wrap64 ((i : Int) + 1))) (codeFold (l.drop (i + 1)) (bs.set to_.toNat true) && H.inB l.length 1 60) := by
            rw [H.w64 (by omega) (by omega)]
            exact hgo _ (by rw [List.length_set]; exact hbs)
          by_cases ho : op = 1
          · by_cases za : xa = 0
            · by_cases zb : xb = 0
              · cases hb4 : H.inB num (-1000) 1000 with
                | false =>
                  refine Ev.step (f := fun _ => some false) (fun k => by simp only [spec_l13Good.j1]; rw [if_neg (by simp), if_pos ho, if_pos za, if_pos zb, inB_f, hb4]; rfl) (H.ev_is fun k => by simp [codeStep, hb4, ho])
                | true =>
                  refine Ev.step (fun k => by simp only [spec_l13Good.j1]; rw [if_neg (by simp), if_pos ho, if_pos za, if_pos zb, inB_f, hb4]; simp only [Option.bind_some]; rw [if_pos trivial, if_pos (by omega), if_pos (by omega)]) (H.ev_eq goOn (by simp only [codeStep, hb1, hb2, hb3, hb4]; simp [ho, za, zb]))
              · exact Ev.step (f := fun _ => some false) (fun k => by simp only [spec_l13Good.j1]; rw [if_neg (by simp), if_pos ho, if_pos za, if_neg zb]) (H.ev_is fun k => by simp [codeStep, ho, zb])
            · exact Ev.step (f := fun _ => some false) (fun k => by simp only [spec_l13Good.j1]; rw [if_neg (by simp), if_pos ho, if_neg za]) (H.ev_is fun k => by simp [codeStep, ho, za])
          · cases hb4 : H.inB op 2 4 with
            | false =>
              exact Ev.step (f := fun _ => some false) (fun k => by simp only [spec_l13Good.j1]; rw [if_neg (by simp), if_neg ho, inB_f, hb4]; rfl) (H.ev_is fun k => by simp [codeStep, hb4, ho])
            | true =>
              by_cases zn : num = 0
              · cases hga : bs.getD xa.toNat false with
                | false =>
                  have e : ¬ rdOf false bs xa = true := by show ¬ bs.getD xa.toNat false = true; rw [hga]; simp
                  exact Ev.step (f := fun _ => some false) (fun k => by simp only [spec_l13Good.j1]; rw [if_neg (by simp), if_neg ho, inB_f, hb4]; simp only [Option.bind_some]; rw [if_pos trivial, if_pos zn, if_pos (by omega), if_pos (by omega), if_neg e]) (H.ev_is fun k => by simp only [codeStep, hga]; simp [ho])
                | true =>
                  have e : rdOf false bs xa = true := hga
                  cases hgb : bs.getD xb.toNat false with
                  | false =>
                    have e2 : ¬ rdOf false bs xb = true := by show ¬ bs.getD xb.toNat false = true; rw [hgb]; simp
                    exact Ev.step (f := fun _ => some false) (fun k => by simp only [spec_l13Good.j1]; rw [if_neg (by simp), if_neg ho, inB_f, hb4]; simp only [Option.bind_some]; rw [if_pos trivial, if_pos zn, if_pos (by omega), if_pos (by omega), if_pos e, if_pos (by omega), if_pos (by omega), if_neg e2]) (H.ev_is fun k => by simp only [codeStep, hgb]; simp [ho])
                  | true =>
                    have e2 : rdOf false bs xb = true := hgb
                    refine Ev.step (fun k => by simp only [spec_l13Good.j1]; rw [if_neg (by simp), if_neg ho, inB_f, hb4]; simp only [Option.bind_some]; rw [if_pos trivial, if_pos zn, if_pos (by omega), if_pos (by omega), if_pos e, if_pos (by omega), if_pos (by omega), if_pos e2, if_pos (by omega), if_pos (by omega)]) (H.ev_eq goOn ?_)
                    simp only [codeStep, hga, hgb, hb1, hb2, hb3, hb4]
                    simp [ho, zn]
              · exact Ev.step (f := fun _ => some false) (fun k => by simp only [spec_l13Good.j1]; rw [if_neg (by simp), if_neg ho, inB_f, hb4]; simp only [Option.bind_some]; rw [if_pos trivial, if_neg zn]) (H.ev_is fun k => by simp [codeStep, ho, zn])


theorem norm_any (n : Int) (W : World) : Calls Try.prog 64 #[.int .i64 n] W fun e w' => e = .returned (.int .i64 (modF n)) ∧ w' = W := by
  go_enter Try.func64, Try.ntmps64
  go_wp2
  go_ret
  exact ⟨by simp [modF], rfl⟩

theorem do_any (op a b : Int) (W : World) : Calls Try.prog 65 #[.int .i64 op, .int .i64 a, .int .i64 b] W fun e w' => e = .returned (.int .i64 (doF op a b)) ∧ w' = W := by
  have HM := Aside0.mk norm_any
  unfold doF
  by_cases h2 : op = 2
  · subst h2
    simp only [if_true]
    go_enter Try.func65, Try.ntmps65
    go_wp2_with (go_at_call 64; refine (HM.out _ _).mono ?_; rintro e w' ⟨rfl, rfl⟩)
    go_ret
    exact ⟨rfl, rfl⟩
  · rw [if_neg h2]
    have e2 : (op == 2) = false := beq_eq_false_iff_ne.2 h2
    by_cases h3 : op = 3
    · subst h3
      simp only [if_true]
      clear h2
      go_enter Try.func65, Try.ntmps65
      go_wp2_with (go_at_call 64; refine (HM.out _ _).mono ?_; rintro e w' ⟨rfl, rfl⟩)
      go_ret
      exact ⟨rfl, rfl⟩
    · rw [if_neg h3]
      have e3 : (op == 3) = false := beq_eq_false_iff_ne.2 h3
      clear h2 h3
      go_enter Try.func65, Try.ntmps65
      go_wp2_with (go_at_call 64; refine (HM.out _ _).mono ?_; rintro e w' ⟨rfl, rfl⟩)
      go_ret
      exact ⟨rfl, rfl⟩


def spec_RunCode.f (l0 : List (S89)) : Option (Int × Int × Bool) := impl_RunCode.f l0

set_option maxHeartbeats 8000000 in
set_option maxRecDepth 100000 in
theorem spec_RunCode.calls (A0 : Option Addr) (c0 : Nat) (l0 : List (S89)) (r1 : Int) (r2 : Int) (r3 : Bool) (w : World) (hr0 : Kd.C k89 w A0 l0.length l0) (hc0 : l0.length ≤ c0) (h : spec_RunCode.f l0 = some (r1, r2, r3)) :
    Calls Try.prog 29 #[.slice A0 l0.length c0] w fun e w' => e = .returned (.tuple #[.int .i64 r1, .int .i64 r2, .bool r3]) ∧ Below w.heap.size w w' := by
  obtain ⟨kg, hkg⟩ := Ev.rounds (specGood_ev l0 hr0.2.1)
  have HK := Aside0.mk (spec_l13Good.calls kg A0 c0 l0 _ w hr0 hc0 hkg)
  clear hkg
  have HR := Aside0.mk hr0
  have hn := hr0.2.1
  clear hr0
  unfold spec_RunCode.f impl_RunCode.f at h
  cases hk : (H.inB l0.length 1 60 && codeFold l0 (List.replicate 40 false)) with
  | false =>
    rw [hk] at h HK
    simp only [Bool.false_eq_true, if_false, Option.some.injEq, Prod.mk.injEq] at h
    obtain ⟨rfl, rfl, rfl⟩ := h
    clear hk
    go_enter Try.func29, Try.ntmps29
    go_wp2_with fail
    refine HK.out.mono ?_
    rintro e w' ⟨rfl, hb⟩
    have HB := Aside0.mk hb
    clear hb
    go_wp2
    go_ret3
    exact ⟨rfl, HB.out⟩
  | true =>
    rw [hk] at h HK
    simp only [if_true, Option.some.injEq, Prod.mk.injEq] at h
    obtain ⟨h1, rfl, rfl⟩ := h
    have hk' := hk
    simp only [Bool.and_eq_true, H.inB, decide_eq_true_eq] at hk'
    have hlen1 : 1 ≤ l0.length := by omega
    have hlen2 : l0.length ≤ 60 := by omega
    have HALL := Aside0.mk (codeFold_all hk'.2)
    have HUU : Aside0 (l0.foldl (fun m c => mx m (wrap64 (c.f1 + 1))) 0 = usedV l0) := ⟨rfl⟩
    have HM := Aside0.mk norm_any
    have HC := Aside0.mk do_any
    have HE := Aside0.mk h1
    clear hk hk' h1
    go_enter Try.func29, Try.ntmps29
    go_wp2_with fail
    refine HK.out.mono ?_
    clear HK
    rintro e w5 ⟨rfl, hb5⟩
    have HB5 := Aside0.mk hb5
    clear hb5
    have hmk : ∀ W : World, (Instr.makeSlice 87 (.int .i64 40) (.int .i64 40)).run Try.prog W = .ok (.slice (some ⟨W.heap.size, 0, none⟩) 40 40) (W.alloc (.cells (H.icells (List.replicate 40 0)) 3)) := fun _ => by kernel_rfl
    go_wp2_with (first | ((with_reducible refine gate_dst (N := 12) rfl ?_); refine H.make_event ?hg (N := 12) ?hd (n := 40) (cs := H.icells (List.replicate 40 0)) (t := 3) ?hr ?_; (case hd => rfl); (case hg => rfl); (case hr => first | (go_simp; done) | (go_simp; rfl)); intro gs hgs w6 hbs hb6; have HGS := Aside0.mk (show w.heap.size ≤ gs by rw [hgs]; exact HB5.out.size); have HBS := Aside0.mk hbs; have HB6 := Aside0.mk (HB5.out.trans (hb6.mono HB5.out.size)); clear hgs hbs hb6))
    clear hmk
    go_loopw [6, 15] (fun v6 v15 wr => ∃ (i : Nat) (pl : List Int) (m : Int), v15 = .int .i64 i ∧ v6 = .int .i64 m ∧ i ≤ l0.length ∧ Aside0 (pl.length = 40) ∧ Aside0 (((l0.drop i).foldl runStep pl).getD (l0.getD (l0.length - 1) z89).f1.toNat 0 = r1) ∧ Aside0 ((l0.drop i).foldl (fun m c => mx m (wrap64 (c.f1 + 1))) m = usedV l0) ∧ Aside0 (wr.heap[gs]? = some (.cells (H.icells pl) 3 (0, 0))) ∧ Aside0 (Below w.heap.size w wr)) (fun _ v15 _ => l0.length - (intOf v15).toNat)
    case atStart => exact ⟨0, _, 0, rfl, rfl, Nat.zero_le _, ⟨by simp⟩, HE, HUU, HBS, HB6⟩
    case round =>
      clear HE HBS HB6 HB5 HUU
      obtain ⟨i, pl, m, rfl, rfl, hi, HLN, HE, HM6, HBS, HB⟩ := hrel
      by_cases hlt : i < l0.length
      · obtain ⟨ad, e, h0, h1, h2, h3, h4⟩ := at_T89 HR.out (i : Int) (by omega) (by omega)
        cases e
        rw [Int.toNat_natCast] at h0 h1 h2 h3 h4
        have hx : rd_T89 l0 (i : Int) = l0[i] := by
          show l0.getD i _ = _
          rw [List.getD_eq_getElem?_getD, List.getElem?_eq_getElem hlt]
          rfl
        obtain ⟨hi1, hi2, hi3⟩ := HALL.out l0[i] (List.getElem_mem hlt)
        have hE := HE.out
        have hM := HM6.out
        rw [List.drop_eq_getElem_cons hlt, List.foldl_cons] at hE hM
        rw [hx] at h0 h1 h2 h3 h4
        clear hx HE HM6
        generalize l0[i] = x at h0 h1 h2 h3 h4 hE hM hi1 hi2 hi3
        obtain ⟨op, to_, xa, xb, num⟩ := x
        simp only [H.inB, Bool.and_eq_true, decide_eq_true_eq] at h0 h1 h2 h3 h4 hE hM hi1 hi2 hi3
        replace h0 := (HB.out.cell (World.block_lt_of_cell? w _ h0)).trans h0
        replace h1 := (HB.out.cell (World.block_lt_of_cell? w _ h1)).trans h1
        replace h2 := (HB.out.cell (World.block_lt_of_cell? w _ h2)).trans h2
        replace h3 := (HB.out.cell (World.block_lt_of_cell? w _ h3)).trans h3
        replace h4 := (HB.out.cell (World.block_lt_of_cell? w _ h4)).trans h4
        have HE := Aside0.mk hE
        obtain ⟨ht0, ht1⟩ := hi1
        obtain ⟨ha0, ha1⟩ := hi2
        obtain ⟨hb0, hb1⟩ := hi3
        have ht2 : to_ < 40 := by omega
        have ha2 : xa < 40 := by omega
        have hb2 : xb < 40 := by omega
        rw [H.w64 (x := to_ + 1) (by omega) (by omega)] at hM
        have HMM := Aside0.mk hM
        clear hE hM
        by_cases ho : op = 1
        · subst ho
          go_wp2_with (first | ((with_reducible refine gate_dst (N := 8) rfl ?_); refine box_event ?hg (N := 8) ?hd (cs := #[.int .i64 0, .int .i64 0, .int .i64 0, .int .i64 0, .int .i64 0]) (t := 89) ?hr ?_; (case hd => rfl); (case hg => rfl); (case hr => first | (go_simp; done) | (go_simp; rfl)); intro gx hgx w7 hbx hb7; have HBX := Aside0.mk hbx; have HBS7 := Aside0.mk (blk_below HBS.out hb7); have HNE := Aside0.mk (blk_ne (blk_below HBS.out hb7) hbx (by decide)); have HGX := Aside0.mk (show w.heap.size ≤ gx by rw [hgx]; exact HB.out.size); have HB7 := Aside0.mk (HB.out.trans (hb7.mono HB.out.size)); clear hgx hbx hb7) | ((with_reducible refine gate_store (t := 89) (p := 8) rfl ?_); refine H.store_blk (cs' := #[.int .i64 1, .int .i64 to_, .int .i64 xa, .int .i64 xb, .int .i64 num]) (u := .agg #[.int .i64 1, .int .i64 to_, .int .i64 xa, .int .i64 xb, .int .i64 num]) (seg := [.int .i64 1, .int .i64 to_, .int .i64 xa, .int .i64 xb, .int .i64 num]) rfl rfl rfl rfl HBX.out rfl rfl (by kernel_rfl) (by simp [Value.oneCell']) (by simp) (by simp) ?_; intro w8 hbx8 hg8 hz8; have HBS8 := Aside0.mk (H.blk_other HBS7.out hg8 HNE.out); have HBX8 := Aside0.mk hbx8; have HB8 := Aside0.mk (H.below_own HB7.out hg8 HB7.out.size HGX.out); have hx0 : w8.cell? ⟨gx, 0, none⟩ = some (.int .i64 1) := (blk_cell hbx8 0).trans rfl; have hx1 : w8.cell? ⟨gx, 1, none⟩ = some (.int .i64 to_) := (blk_cell hbx8 1).trans rfl; have hx2 : w8.cell? ⟨gx, 2, none⟩ = some (.int .i64 xa) := (blk_cell hbx8 2).trans rfl; have hx3 : w8.cell? ⟨gx, 3, none⟩ = some (.int .i64 xb) := (blk_cell hbx8 3).trans rfl; have hx4 : w8.cell? ⟨gx, 4, none⟩ = some (.int .i64 num) := (blk_cell hbx8 4).trans rfl;  clear hbx8 hg8 hz8 h0 h1 h2 h3 h4))
          refine wp_region_still_tail 7 (by kernel_rfl) (by kernel_rfl) ?_
          simp only [List.take_succ_cons, List.take_zero, List.drop_succ_cons, List.drop_zero]
          repeat still_step
          still_call (HM.out _ _)
          repeat still_step
          refine wpStill_nil ?_
          show wpList _ _ _ _ _ w8.drew
          refine H.store_blk (g := gs) (off := to_.toNat) (cs := H.icells pl) (cs' := H.icells (pl.set to_.toNat (modF num))) (u := .int .i64 (modF num)) (seg := [.int .i64 (modF num)]) rfl rfl rfl rfl HBS8.out rfl rfl (by kernel_rfl) (by simp [Value.oneCell']) (by rw [H.icells_size, HLN.out]; show to_.toNat + 1 ≤ 40; omega) (H.icells_put _ _ _ (by rw [HLN.out]; omega)) ?_
          intro w9 hbs9 hg9 hz9
          have HBS9 := Aside0.mk hbs9
          have HBX9 := Aside0.mk (H.blk_other (W := w8.drew) HBX8.out hg9 (Ne.symm HNE.out))
          have HB9 := Aside0.mk (H.below_own (W := w8.drew) (HB8.out.drew) hg9 HB8.out.size HGS.out)
          clear hbs9 hg9 hz9
          have hx9 : w9.cell? ⟨gx, 1, none⟩ = some (.int .i64 to_) := (blk_cell HBX9.out 1).trans rfl
          by_cases cm : m < to_ + 1
          · have hmm : mx m (to_ + 1) = to_ + 1 := by unfold mx; rw [if_pos cm]
            rw [hmm] at HMM
            clear hmm
            go_wp2
            go_roundw
            case rel => exact ⟨i + 1, _, to_ + 1, by go_num, rfl, by omega, ⟨by show (List.set _ _ _).length = 40; rw [List.length_set]; exact HLN.out⟩, HE, HMM, HBS9, HB9⟩
            case measure => simp [intOf]; omega
          · have hmm : mx m (to_ + 1) = m := by unfold mx; rw [if_neg cm]
            rw [hmm] at HMM
            clear hmm
            go_wp2
            go_roundw
            case rel => exact ⟨i + 1, _, m, by go_num, rfl, by omega, ⟨by show (List.set _ _ _).length = 40; rw [List.length_set]; exact HLN.out⟩, HE, HMM, HBS9, HB9⟩
            case measure => simp [intOf]; omega
        · have ho1 : (op == 1) = false := beq_eq_false_iff_ne.2 ho
          have hE := HE.out
          rw [show runStep pl ⟨op, to_, xa, xb, num⟩ = pl.set to_.toNat (doF op (pl.getD xa.toNat 0) (pl.getD xb.toNat 0)) by simp [runStep, ho]] at hE
          have HE' := Aside0.mk hE
          clear hE HE ho
          go_wp2_with (first | ((with_reducible refine gate_dst (N := 8) rfl ?_); refine box_event ?hg (N := 8) ?hd (cs := #[.int .i64 0, .int .i64 0, .int .i64 0, .int .i64 0, .int .i64 0]) (t := 89) ?hr ?_; (case hd => rfl); (case hg => rfl); (case hr => first | (go_simp; done) | (go_simp; rfl)); intro gx hgx w7 hbx hb7; have HBX := Aside0.mk hbx; have HBS7 := Aside0.mk (blk_below HBS.out hb7); have HNE := Aside0.mk (blk_ne (blk_below HBS.out hb7) hbx (by decide)); have HGX := Aside0.mk (show w.heap.size ≤ gx by rw [hgx]; exact HB.out.size); have HB7 := Aside0.mk (HB.out.trans (hb7.mono HB.out.size)); clear hgx hbx hb7) | ((with_reducible refine gate_store (t := 89) (p := 8) rfl ?_); refine H.store_blk (cs' := #[.int .i64 op, .int .i64 to_, .int .i64 xa, .int .i64 xb, .int .i64 num]) (u := .agg #[.int .i64 op, .int .i64 to_, .int .i64 xa, .int .i64 xb, .int .i64 num]) (seg := [.int .i64 op, .int .i64 to_, .int .i64 xa, .int .i64 xb, .int .i64 num]) rfl rfl rfl rfl HBX.out rfl rfl (by kernel_rfl) (by simp [Value.oneCell']) (by simp) (by simp) ?_; intro w8 hbx8 hg8 hz8; have HBS8 := Aside0.mk (H.blk_other HBS7.out hg8 HNE.out); have HBX8 := Aside0.mk hbx8; have HB8 := Aside0.mk (H.below_own HB7.out hg8 HB7.out.size HGX.out); have hx0 : w8.cell? ⟨gx, 0, none⟩ = some (.int .i64 op) := (blk_cell hbx8 0).trans rfl; have hx1 : w8.cell? ⟨gx, 1, none⟩ = some (.int .i64 to_) := (blk_cell hbx8 1).trans rfl; have hx2 : w8.cell? ⟨gx, 2, none⟩ = some (.int .i64 xa) := (blk_cell hbx8 2).trans rfl; have hx3 : w8.cell? ⟨gx, 3, none⟩ = some (.int .i64 xb) := (blk_cell hbx8 3).trans rfl; have hx4 : w8.cell? ⟨gx, 4, none⟩ = some (.int .i64 num) := (blk_cell hbx8 4).trans rfl;  have hca : w8.cell? ⟨gs, xa.toNat, none⟩ = some (.int .i64 (pl.getD xa.toNat 0)) := H.icells_get HBS8.out xa.toNat (by rw [HLN.out]; omega); have hcb : w8.cell? ⟨gs, xb.toNat, none⟩ = some (.int .i64 (pl.getD xb.toNat 0)) := H.icells_get HBS8.out xb.toNat (by rw [HLN.out]; omega); have HVA := Aside0.mk hca; have HVB := Aside0.mk hcb; clear hca hcb; clear hbx8 hg8 hz8 h0 h1 h2 h3 h4))
          generalize pl.getD xa.toNat 0 = va at HVA HE'
          generalize pl.getD xb.toNat 0 = vb at HVB HE'
          have hca := HVA.out
          have hcb := HVB.out
          clear HVA HVB
          refine wp_region_still_tail 17 (by kernel_rfl) (by kernel_rfl) ?_
          simp only [List.take_succ_cons, List.take_zero, List.drop_succ_cons, List.drop_zero]
          repeat still_step
          still_call (HC.out _ _ _ _)
          repeat still_step
          refine wpStill_nil ?_
          show wpList _ _ _ _ _ w8.drew
          refine H.store_blk (g := gs) (off := to_.toNat) (cs := H.icells pl) (cs' := H.icells (pl.set to_.toNat (doF op va vb))) (u := .int .i64 (doF op va vb)) (seg := [.int .i64 (doF op va vb)]) rfl rfl rfl rfl HBS8.out rfl rfl (by kernel_rfl) (by simp [Value.oneCell']) (by rw [H.icells_size, HLN.out]; show to_.toNat + 1 ≤ 40; omega) (H.icells_put _ _ _ (by rw [HLN.out]; omega)) ?_
          intro w9 hbs9 hg9 hz9
          have HBS9 := Aside0.mk hbs9
          have HBX9 := Aside0.mk (H.blk_other (W := w8.drew) HBX8.out hg9 (Ne.symm HNE.out))
          have HB9 := Aside0.mk (H.below_own (W := w8.drew) (HB8.out.drew) hg9 HB8.out.size HGS.out)
          clear hbs9 hg9 hz9
          have hx9 : w9.cell? ⟨gx, 1, none⟩ = some (.int .i64 to_) := (blk_cell HBX9.out 1).trans rfl
          by_cases cm : m < to_ + 1
          · have hmm : mx m (to_ + 1) = to_ + 1 := by unfold mx; rw [if_pos cm]
            rw [hmm] at HMM
            clear hmm
            go_wp2
            go_roundw
            case rel => exact ⟨i + 1, _, to_ + 1, by go_num, rfl, by omega, ⟨by show (List.set _ _ _).length = 40; rw [List.length_set]; exact HLN.out⟩, HE', HMM, HBS9, HB9⟩
            case measure => simp [intOf]; omega
          · have hmm : mx m (to_ + 1) = m := by unfold mx; rw [if_neg cm]
            rw [hmm] at HMM
            clear hmm
            go_wp2
            go_roundw
            case rel => exact ⟨i + 1, _, m, by go_num, rfl, by omega, ⟨by show (List.set _ _ _).length = 40; rw [List.length_set]; exact HLN.out⟩, HE', HMM, HBS9, HB9⟩
            case measure => simp [intOf]; omega
      · have : i = l0.length := by omega
        subst this
        have hE := HE.out
        have hM := HM6.out
        rw [List.drop_length, List.foldl_nil] at hE hM
        subst hM
        clear HM6
        obtain ⟨ad, e, h0, h1, _⟩ := at_T89 HR.out ((l0.length : Int) - 1) (by omega) (by omega)
        cases e
        have hix : ((l0.length : Int) - 1).toNat = l0.length - 1 := by omega
        have hx : rd_T89 l0 ((l0.length : Int) - 1) = l0.getD (l0.length - 1) z89 := by
          show l0.getD _ _ = _
          rw [hix]
        have hmem : l0.getD (l0.length - 1) z89 ∈ l0 := by
          rw [List.getD_eq_getElem?_getD, List.getElem?_eq_getElem (show l0.length - 1 < l0.length by omega)]
          exact List.getElem_mem _
        obtain ⟨hi1, _, _⟩ := HALL.out _ hmem
        rw [hx, hix] at h1
        generalize l0.getD (l0.length - 1) z89 = x at h1 hE hi1
        clear hx h0 hmem HE
        obtain ⟨op, to_, xa, xb, num⟩ := x
        simp only [H.inB, Bool.and_eq_true, decide_eq_true_eq] at h1 hE hi1
        replace h1 := (HB.out.cell (World.block_lt_of_cell? w _ h1)).trans h1
        obtain ⟨ht0, ht1⟩ := hi1
        have ht2 : to_ < 40 := by omega
        have hcg : wr.cell? ⟨gs, to_.toNat, none⟩ = some (.int .i64 r1) := by rw [H.icells_get HBS.out to_.toNat (by rw [HLN.out]; omega), hE]
        have hq1 : (0 : Int) ≤ (l0.length : Int) - 1 := by omega
        have hq2 : (l0.length : Int) - 1 < (l0.length : Int) := by omega
        have hm1 : ((l0.length : Int) - 1).toNat = l0.length - 1 := by omega
        have HCG := Aside0.mk hcg
        clear hE
        have hq3 : (1 : Int) ≤ (l0.length : Int) := by omega
        have hq4 : 0 < l0.length := by omega
        have hq5 : (0 : Int) < (l0.length : Int) := by omega
        have hq6 : l0.length - 1 < l0.length := by omega
        have hq8 : wrap64 ((l0.length : Int) - 1) = (l0.length : Int) - 1 := by unfold wrap64; omega
        have hq7 : IntKind.i64.wrap ((l0.length : Int) - 1) = (l0.length : Int) - 1 := IntWalk.i64_in _ (by omega)
        go_wp2
        go_ret3
        exact ⟨rfl, HB.out⟩

end Go.Proofs.Ytclkajdafinccaa.P
