import Derived.Test.YtndkblahnihhjaaMFnExactMeetingOf1
import Derived.Test.YtndkblahnihhjaaMFnExactMeetingOf2
import Derived.Test.YtndkblahnihhjaaMFnExactMeetingOf3
set_option linter.unusedVariables false
set_option linter.unusedSimpArgs false
namespace Go.Proofs.Ytndkblahnihhjaa.P
open Go.RowKit Go.Proofs.YtndkblahnihhjaaW.PrintWords Go.Proofs.YtndkblahnihhjaaW.PrintLast Go.Proofs.YtndkblahnihhjaaW.PrintMore
attribute [local go_sem] max2_int min2_int max_two min_two max_three min_three max_four min_four
def spec_l10Dominators.f (l0_0 : List (List Int)) : Option (List (List Int)) := if H.goodG l0_0 then some (Q.domL l0_0) else none
theorem has_any (l : List Int) (hl : l.length ≤ 1048576) (A : Option Addr) (c : Nat) (x : Int) (W : World) (h : Kd.C (Kd.int .i64) W A l.length l) (hc : l.length ≤ c) : Calls Try.prog 43 #[.slice A l.length c, .int .i64 x] W fun e w' => e = .returned (.bool (decide (x ∈ l))) ∧ Drawn0 W w' := by
  obtain ⟨k, hk⟩ := Ev.rounds (Q.has_ev l x hl)
  exact spec_l1Has.calls k A c l x _ W h hc hk
theorem put_any (l : List Int) (hl : l.length ≤ 1048576) (x : Int) (u : Value) (ok : Nat → Prop) (w0 W : World) (hB : Below w0.heap.size w0 W) (h : Kd.R (Kd.int .i64) 3 W w0.heap.size ok u l) :
    Calls Try.prog 41 #[u, .int .i64 x] W fun e w' => ∃ v0_ : Value, e = .returned (v0_) ∧ Kd.R (Kd.int .i64) 3 w' w0.heap.size (fun k_ => (some k_ = u.ownBlock) ∨ W.heap.size ≤ k_) v0_ (Q.putL l x) ∧ Below w0.heap.size w0 w' ∧ Kept W w' (fun k_ => some k_ = u.ownBlock) := by
  obtain ⟨k, hk⟩ := Ev.rounds (Q.put_ev l x hl)
  exact spec_l1Put.calls k (fun k_ => some k_ = u.ownBlock) u l x _ w0 W hB (Kd.R_tight rfl h) hk
theorem reach_any {g : List (List Int)} (hG : H.goodG g = true) (A : Option Addr) (c : Nat) (wo : Int) (W : World) (h : Kd.C (Kd.slice 3 (Kd.int .i64)) W A g.length g) (hc : g.length ≤ c) :
    Calls Try.prog 68 #[.agg #[.slice A g.length c], .int .i64 wo] W fun e w' => ∃ v0_ : Value, e = .returned (v0_) ∧ Kd.R (Kd.int .i64) 3 w' W.heap.size (fun _ => True) v0_ (listTo (H.reachF g 0 wo) 12) ∧ Below W.heap.size W w' := by
  obtain ⟨k, hk⟩ := Ev.rounds (Q.specReach_ev hG wo)
  exact spec_l10Reach.calls k A c g wo _ W h hc hk
set_option maxHeartbeats 8000000 in
set_option maxRecDepth 100000 in
theorem spec_l10Dominators.calls (A0_0 : Option Addr) (c0_0 : Nat) (l0_0 : List (List Int)) (r : List (List Int)) (w : World) (hr0_0 : Kd.C (Kd.slice 3 (Kd.int .i64)) w A0_0 l0_0.length l0_0) (hc0_0 : l0_0.length ≤ c0_0) (h : spec_l10Dominators.f l0_0 = some r) :
    Calls Try.prog 53 #[.agg #[.slice A0_0 l0_0.length c0_0]] w fun e w' => ∃ v0_ : Value, e = .returned (v0_) ∧ Kd.S (Kd.slice 3 (Kd.int .i64)) 32 w' w.heap.size (fun _ => True) v0_ r ∧ Below w.heap.size w w' := by
  unfold spec_l10Dominators.f at h
  cases hG : H.goodG l0_0 with
  | false => rw [hG] at h; exact absurd h (by simp)
  | true =>
    rw [hG, if_pos rfl] at h
    obtain rfl := Option.some.inj h
    have hr := H.goodG_rows hG
    have hn1 : 1 ≤ l0_0.length := hr.1.1
    have hn2 : l0_0.length ≤ 12 := hr.1.2
    have HR0 := Aside0.mk hr0_0
    have HC0 := Aside0.mk hc0_0
    have HG := Aside0.mk hG
    have HO := Aside0.mk (H.Own.nil w)
    have HRE := Aside0.mk (fun (W : World) (hb : Below w.heap.size w W) (wo : Int) => reach_any hG A0_0 c0_0 wo W (Kd.C_below HR0.out hb) HC0.out)
    have HRL := Aside0.mk (fun wo => Q.listTo_small (H.reachF l0_0 0 wo))
    have HRIN := Aside0.mk (fun y (hy : y ∈ listTo (H.reachF l0_0 0 (-1)) 12) => ((Q.listTo_reach hG y).1 hy).rng hG (by decide) (by omega))
    clear hr0_0 hc0_0 hG h hr
    have hI : (Try.prog.info? 32).map (·.size) = some 1 := by kernel_rfl
    have HI := Aside0.mk hI
    clear hI
    obtain ⟨R, hR⟩ : ∃ R, listTo (H.reachF l0_0 0 (-1)) 12 = R := ⟨_, rfl⟩
    have HRS := Aside0.mk (HRL.out (-1))
    rw [hR] at HRIN HRS
    have HRD := Aside0.mk hR
    clear hR
    have hrs := HRS.out
    go_enter Try.func53, Try.ntmps53
    go_wp2_with (first | ((with_reducible refine gate_dst (N := 1) rfl ?_); refine H.own_box HO.out ?bxg (N := 1) ?bxd (cs := #[Value.slice A0_0 l0_0.length c0_0]) (t := 28) ?bxr ?_; (case bxd => rfl); (case bxg => rfl); (case bxr => first | (go_simp; done) | (go_simp; rfl)); intro gp w_ ho_ hb_; replace HO := Aside0.mk ho_; clear ho_ hb_) | ((with_reducible refine gate_dst (N := 10) rfl ?_); refine wpList_load_row rfl 28 (.tmp 1) rfl _ rfl 28 _ (0, 0) _ (HO.out.get 0 rfl) Try.underlying28 rfl (by kernel_rfl) ?_) | (go_at_call 68; refine (HRE.out _ HO.out.below (-1)).mono ?_; rw [HRD.out]; rintro e w' ⟨vr, rfl, hv, hb⟩; obtain ⟨AR, cR, rfl⟩ := Kd.R_slice hv; obtain ⟨N1, hN1⟩ : ∃ N1, w'.heap.size = N1 := ⟨_, rfl⟩; have HV := Aside0.mk (Kd.R_mono (ok' := fun k => k < N1) (H.R_upto (Kd.R_lower hv HO.out.size)) (fun k hk => hN1 ▸ hk.2)); have HN1 := Aside0.mk hN1; replace HO := Aside0.mk (HO.out.step hb); have hx1 := HO.out.cell 0 rfl 0; clear hv hb hN1) | ((with_reducible refine gate_dst (N := 15) rfl ?_); refine Kd.S_make (Kd.slice 3 (Kd.int .i64)) (w0 := _) _ 32 rfl (N := 15) rfl 22 _ _ rfl (l0_0.length : Int) rfl rfl Try.underlying22 (.slice none 0 0) 24 info32 rfl (by decide) (by omega) [] (ok := fun _ => True) (okp := fun _ => True) ⟨_, rfl, Kd.R_nil _ _ _ _ _⟩ (fun _ hk => hk) trivial (by omega) (by simp only [Int.toNat_natCast]; omega) (Below.refl _ _) (Nat.le_refl _) ?_; intro vs w_ ho_ hb_ hg_ hnew_; replace HV := Aside0.mk (Kd.R_below HV.out hb_); have HS := Aside0.mk (Kd.S_lower (Kd.S_mono (ok' := fun k => N1 ≤ k) (H.S_upto ho_) (fun k hk => by rw [← HN1.out]; exact hk.1)) HO.out.size); have HNW := Aside0.mk (show N1 ≤ w_.heap.size by rw [← HN1.out]; exact hb_.size); replace HO := Aside0.mk (HO.out.step hb_); clear ho_ hb_ hg_ hnew_ hx1 HN1))
    rw [Int.toNat_natCast] at HS
    obtain ⟨gs, cs, rfl, hgs0, _, _⟩ := Kd.S_form HS.out (by simp; omega)
    rw [List.length_replicate] at HS ⊢
    have HGS0 := Aside0.mk hgs0
    clear hgs0
    go_loopw [18] (fun v18 wr => ∃ (i : Nat) (xs : List (List Int)), v18 = .int .i64 i ∧ i ≤ R.length ∧ Aside0 (Kd.S (Kd.slice 3 (Kd.int .i64)) 32 wr w.heap.size (fun k => N1 ≤ k) (.slice (some ⟨gs, 0, none⟩) l0_0.length cs) xs) ∧ Aside0 (Q.Rel l0_0.length (fun b y => y ∈ R.take i ∧ (b : Int) ∈ R ∧ ¬ (b : Int) ∈ listTo (H.reachF l0_0 0 y) 12) xs) ∧ Aside0 ((Kd.int .i64).R 3 wr w.heap.size (fun k => k < N1) (.slice AR R.length cR) R) ∧ Aside0 (N1 ≤ wr.heap.size) ∧ Aside0 (H.Own w wr [(gp, #[Value.slice A0_0 l0_0.length c0_0], 28)])) (fun v18 _ => R.length - (intOf v18).toNat)
    case atStart => exact ⟨0, _, rfl, Nat.zero_le _, HS, ⟨Q.Rel.nil _ (fun b _ y h => by simp at h)⟩, HV, HNW, HO⟩
    case round =>
      clear HO HS HV HNW
      obtain ⟨i, xs, rfl, hi, HS, HREL, HV, HNW, HO⟩ := hrel
      by_cases hlt : i < R.length
      · obtain ⟨ad1, e1, hc1⟩ := Kd.at_int (Kd.R_reads' HV.out).2.2 (i : Int) (by omega) (by omega)
        subst e1
        rw [Int.toNat_natCast] at hc1
        have hd : rd R (i : Int) = R.getD i 0 := rfl
        rw [hd] at hc1
        have htk : R.take (i + 1) = R.take i ++ [R.getD i 0] := by rw [List.take_add_one, List.getElem?_eq_getElem hlt, List.getD_eq_getElem?_getD, List.getElem?_eq_getElem hlt]; rfl
        obtain ⟨d, hdd⟩ : ∃ d, R.getD i 0 = d := ⟨_, rfl⟩
        rw [hdd] at hc1 htk
        have HTK := Aside0.mk htk
        have hil : (i : Int) < (R.length : Int) := by omega
        obtain ⟨Wd, hWd⟩ : ∃ Wd, listTo (H.reachF l0_0 0 d) 12 = Wd := ⟨_, rfl⟩
        have HWL := HRL.out d
        rw [hWd] at HWL
        have HWD := Aside0.mk hWd
        have HWS := Aside0.mk HWL
        clear hd htk hdd HWL hWd
        go_wp2_with (first | ((with_reducible refine gate_dst (N := 22) rfl ?_); refine wpList_load_row rfl 28 (.tmp 1) rfl _ rfl 28 _ (0, 0) _ (HO.out.get 0 rfl) Try.underlying28 rfl (by kernel_rfl) ?_) | (go_at_call 68; refine (HRE.out _ HO.out.below d).mono ?_; rw [HWD.out]; rintro e w' ⟨vw, rfl, hv, hb⟩; obtain ⟨AW, cW, rfl⟩ := Kd.R_slice hv; have HW := Aside0.mk (Kd.R_lower hv HO.out.size); replace HS := Aside0.mk (Kd.S_elder' HS.out (Kd.R_base hv) hb); replace HV := Aside0.mk (Kd.R_below HV.out hb); replace HNW := Aside0.mk (Nat.le_trans HNW.out hb.size); replace HO := Aside0.mk (HO.out.step hb); clear hv hb hc1))
        go_loopw [27] (fun v27 wr => ∃ (j : Nat) (xs : List (List Int)), v27 = .int .i64 j ∧ j ≤ R.length ∧ Aside0 (Kd.S (Kd.slice 3 (Kd.int .i64)) 32 wr w.heap.size (fun k => N1 ≤ k ∧ some k ≠ (Value.slice AW Wd.length cW).ownBlock) (.slice (some ⟨gs, 0, none⟩) l0_0.length cs) xs) ∧ Aside0 (Q.Rel l0_0.length (fun b y => (y ∈ R.take i ∧ (b : Int) ∈ R ∧ ¬ (b : Int) ∈ listTo (H.reachF l0_0 0 y) 12) ∨ (y = d ∧ (b : Int) ∈ R.take j ∧ ¬ (b : Int) ∈ Wd)) xs) ∧ Aside0 ((Kd.int .i64).R 3 wr w.heap.size (fun k => k < N1) (.slice (some ad1) R.length cR) R) ∧ Aside0 ((Kd.int .i64).R 3 wr w.heap.size (fun _ => True) (.slice AW Wd.length cW) Wd) ∧ Aside0 (N1 ≤ wr.heap.size) ∧ Aside0 (H.Own w wr [(gp, #[Value.slice A0_0 l0_0.length c0_0], 28)])) (fun v27 _ => R.length - (intOf v27).toNat)
        case atStart => exact ⟨0, xs, rfl, Nat.zero_le _, HS, ⟨HREL.out.congr (fun b _ y => by simp)⟩, HV, HW, HNW, HO⟩
        case round =>
          clear HO HS HV HNW HREL HW
          obtain ⟨j, xs, rfl, hj, HS, HREL, HV, HW, HNW, HO⟩ := hrel
          by_cases hlt2 : j < R.length
          · obtain ⟨ad2, e2, hc2⟩ := Kd.at_int (Kd.R_reads' HV.out).2.2 (j : Int) (by omega) (by omega)
            injection e2 with e2
            subst e2
            rw [Int.toNat_natCast] at hc2
            have hd : rd R (j : Int) = R.getD j 0 := rfl
            rw [hd] at hc2
            have htk : R.take (j + 1) = R.take j ++ [R.getD j 0] := by rw [List.take_add_one, List.getElem?_eq_getElem hlt2, List.getD_eq_getElem?_getD, List.getElem?_eq_getElem hlt2]; rfl
            have hin := HRIN.out (R.getD j 0) (by rw [List.getD_eq_getElem?_getD, List.getElem?_eq_getElem hlt2]; exact List.getElem_mem hlt2)
            obtain ⟨k, hkk⟩ : ∃ k : Nat, R.getD j 0 = (k : Int) := ⟨(R.getD j 0).toNat, by omega⟩
            rw [hkk] at hc2 htk hin
            have HTK2 := Aside0.mk htk
            have hjl : (j : Int) < (R.length : Int) := by omega
            have hkn : (k : Int) < (l0_0.length : Int) := hin.2
            have HKN := Aside0.mk (show k < l0_0.length by omega)
            clear hd htk hkk hin
            obtain ⟨dd, hdd⟩ : ∃ dd, decide ((k : Int) ∈ Wd) = dd := ⟨_, rfl⟩
            have HDD := Aside0.mk hdd
            clear hdd
            cases dd with
            | true =>
              go_wp2_with (go_at_call 43; refine (has_any Wd HWS.out _ _ (k : Int) _ (Kd.R_reads' HW.out).2.2 (Kd.R_reads' HW.out).2.1).mono ?_; rw [HDD.out]; rintro e w2 ⟨rfl, hd⟩; replace HV := Aside0.mk (Kd.R_below HV.out hd.below); replace HW := Aside0.mk (Kd.R_below HW.out hd.below); replace HS := Aside0.mk (Kd.S_below HS.out hd.below); replace HNW := Aside0.mk (Nat.le_trans HNW.out hd.below.size); replace HO := Aside0.mk (HO.out.step hd.below); clear hd hc2)
              refine ⟨⟨j + 1, xs, by go_num, by omega, HS, ⟨HREL.out.congr (fun b _ y => by
                have hw := of_decide_eq_true HDD.out
                rw [HTK2.out, List.mem_append, List.mem_singleton]
                constructor
                · rintro (h | ⟨h1, h2, h3⟩)
                  · exact .inl h
                  · exact .inr ⟨h1, .inl h2, h3⟩
                · rintro (h | ⟨h1, h2 | h2, h3⟩)
                  · exact .inl h
                  · exact .inr ⟨h1, h2, h3⟩
                  · rw [h2] at h3
                    exact absurd hw h3)⟩, HV, HW, HNW, HO⟩, ?_⟩
              simp [intOf]
              omega
            | false =>
              obtain ⟨oki, u, hu, hRu, hoki, hH⟩ := H.S_holeG HS.out HKN.out
              have hgt := Kd.S_typed HS.out gs (by simp [Value.ownBlock])
              have HRU := Aside0.mk hRu
              have HOK := Aside0.mk hoki
              have HH := Aside0.mk hH
              have HGT := Aside0.mk hgt
              have HU := Aside0.mk hu
              have HXL := Aside0.mk (show (xs.getD k []).length ≤ 1048576 by
                have := HREL.out.len12 (fun b hb y h => by
                  have hy : y ∈ R := by
                    rcases h with h | h
                    · exact List.mem_of_mem_take h.1
                    · have := HTK.out
                      rw [h.1]
                      exact List.mem_of_mem_take (i := i + 1) (by rw [this]; simp)
                  have := HRIN.out y hy
                  omega) HKN.out
                omega)
              clear hRu hoki hH hgt hu HS
              go_wp2_with (first | (go_at_call 43; refine (has_any Wd HWS.out _ _ (k : Int) _ (Kd.R_reads' HW.out).2.2 (Kd.R_reads' HW.out).2.1).mono ?_; rw [HDD.out]; rintro e w2 ⟨rfl, hd⟩; replace HV := Aside0.mk (Kd.R_below HV.out hd.below); replace HW := Aside0.mk (Kd.R_below HW.out hd.below); replace HRU := Aside0.mk (Kd.R_below HRU.out hd.below); replace HH := Aside0.mk (Kd.H_below HH.out hd.below); replace HNW := Aside0.mk (Nat.le_trans HNW.out hd.below.size); replace HO := Aside0.mk (HO.out.step hd.below); have hu := pw_cell_below hd.below HU.out; replace HGT := Aside0.mk (HGT.out.imp (fun cells hc => blk_below hc hd.below)); clear hd hc2 HU) | (go_at_call 41; refine (put_any (xs.getD k []) HXL.out d u _ w _ HO.out.below HRU.out).mono ?_; rintro e w3 ⟨v0, rfl, hv0, hb, hk⟩; obtain ⟨A0, c0, rfl⟩ := Kd.R_slice hv0; have HIN : Aside0 (∀ k, (Value.slice A0 (Q.putL (xs.getD k []) d).length c0).ownBlock = some k → True) := ⟨fun _ _ => trivial⟩; clear HIN; have HV0 := Aside0.mk hv0; have HPU := Aside0.mk (fun k (hk : some k = u.ownBlock) => HOK.out k (HRU.out.1 k hk.symm)); have HWlt := Aside0.mk (Kd.R_lt HW.out); replace HH := Aside0.mk (H.hole_keptG HH.out hk (fun k hk => HRU.out.1 k hk.symm)); replace HV := Aside0.mk (H.R_keptB HV.out hk (fun k h1 h2 => by have a1 := HV.out.1 k h1; have a2 := (HPU.out k h2).1; omega)); replace HW := Aside0.mk (H.R_keptB HW.out hk (fun k h1 h2 => (HPU.out k h2).2 h1.symm)); replace HGT := Aside0.mk (HGT.out.imp (fun cells hc => (hk.2 gs (blk_lt hc) (Kd.R_ne HRU.out hc (by decide))).trans hc)); have HNW' := HNW; replace HNW := Aside0.mk (Nat.le_trans HNW.out hk.1); have HIN := Aside0.mk (fun k (h : (Value.slice A0 (Q.putL (xs.getD k []) d).length c0).ownBlock = some k) => trivial); clear HIN; replace HO := Aside0.mk (HO.out.keptU HRU.out hk hb (by simp)); clear hv0 hb hk hu) | ((with_reducible refine gate_store (t := 32) (p := 43) rfl ?_); refine H.own_eputG HO.out HH.out HV0.out (Nat.le_refl _) (fun q hq => by rcases HV0.out.1 q hq with h | h; exact .inl (HRU.out.1 q h.symm); exact .inr ⟨⟨Nat.le_trans HNW'.out h, fun e => by have := HWlt.out q e.symm; omega⟩, h⟩) rfl rfl rfl rfl rfl HI.out HKN.out HGS0.out HGT.out (by simp) ?_; intro w_ ho_ hs_ hg_; replace HV := Aside0.mk (Kd.R_over' (e' := 32) (v := .slice (some ⟨gs, 0, none⟩) 0 0) HV.out (fun q hq => by have : gs = q := (by simpa [Value.ownBlock] using hq); rw [← this]; exact HGT.out) (by decide) hg_); replace HW := Aside0.mk (Kd.R_over' (e' := 32) (v := .slice (some ⟨gs, 0, none⟩) 0 0) HW.out (fun q hq => by have : gs = q := (by simpa [Value.ownBlock] using hq); rw [← this]; exact HGT.out) (by decide) hg_); replace HNW := Aside0.mk (Nat.le_trans HNW.out hg_.size); have HS := Aside0.mk hs_; replace HO := Aside0.mk ho_; clear ho_ hs_ hg_))
              go_roundw
              case rel => exact ⟨j + 1, _, by go_num, by omega, HS, ⟨(HREL.out.put HKN.out d).congr (fun b _ y => by
                have hw := of_decide_eq_false HDD.out
                rw [HTK2.out, List.mem_append, List.mem_singleton]
                constructor
                · rintro ((h | ⟨h1, h2, h3⟩) | ⟨h1, h2⟩)
                  · exact .inl h
                  · exact .inr ⟨h1, .inl h2, h3⟩
                  · subst h1
                    exact .inr ⟨h2, .inr rfl, hw⟩
                · rintro (h | ⟨h1, h2 | h2, h3⟩)
                  · exact .inl (.inl h)
                  · exact .inl (.inr ⟨h1, h2, h3⟩)
                  · exact .inr ⟨by omega, h1⟩)⟩, HV, HW, HNW, HO⟩
              case measure => simp [intOf]; omega
          · have hE : j = R.length := by omega
            subst hE
            go_wp2
            go_roundw
            case rel => exact ⟨i + 1, xs, by go_num, by omega, ⟨Kd.S_mono HS.out (fun k hk => hk.1)⟩, ⟨HREL.out.congr (fun b _ y => by
              rw [HTK.out, List.mem_append, List.mem_singleton, List.take_length]
              constructor
              · rintro (h | ⟨h1, h2, h3⟩)
                · exact ⟨.inl h.1, h.2⟩
                · subst h1
                  exact ⟨.inr rfl, h2, by rw [HWD.out]; exact h3⟩
              · rintro ⟨h | h, h2, h3⟩
                · exact .inl ⟨h, h2, h3⟩
                · subst h
                  exact .inr ⟨rfl, h2, by rw [HWD.out] at h3; exact h3⟩)⟩, HV, HNW, HO⟩
            case measure => simp [intOf]; omega
      · have hE : i = R.length := by omega
        subst hE
        have hfin : xs = Q.domL l0_0 := by
          refine (HREL.out.congr (fun b _ y => ?_)).uniq (Q.domL_rel HG.out)
          unfold Q.domM
          rw [HRD.out, List.take_length]
        subst hfin
        go_wp2
        go_ret
        exact ⟨_, rfl, Kd.S_mono HS.out (fun _ _ => trivial), HO.out.below⟩
end Go.Proofs.Ytndkblahnihhjaa.P

namespace Go.Proofs.Ytndkblahnihhjaa.P
open Go.RowKit Go.Proofs.YtndkblahnihhjaaW.PrintWords Go.Proofs.YtndkblahnihhjaaW.PrintLast Go.Proofs.YtndkblahnihhjaaW.PrintMore
attribute [local go_sem] max2_int min2_int max_two min_two max_three min_three max_four min_four
def spec_l11Preds.f (l0_0 : List (List Int)) : Option (List (List Int)) := if H.goodG l0_0 then some (Q.prdL l0_0) else none
set_option maxHeartbeats 8000000 in
set_option maxRecDepth 100000 in
theorem spec_l11Preds.calls (A0_0 : Option Addr) (c0_0 : Nat) (l0_0 : List (List Int)) (r : List (List Int)) (w : World) (hr0_0 : Kd.C (Kd.slice 3 (Kd.int .i64)) w A0_0 l0_0.length l0_0) (hc0_0 : l0_0.length ≤ c0_0) (h : spec_l11Preds.f l0_0 = some r) :
    Calls Try.prog 65 #[.agg #[.slice A0_0 l0_0.length c0_0]] w fun e w' => ∃ v0_ : Value, e = .returned (v0_) ∧ Kd.S (Kd.slice 3 (Kd.int .i64)) 32 w' w.heap.size (fun _ => True) v0_ r ∧ Below w.heap.size w w' := by
  unfold spec_l11Preds.f at h
  cases hG : H.goodG l0_0 with
  | false => rw [hG] at h; exact absurd h (by simp)
  | true =>
    rw [hG, if_pos rfl] at h
    obtain rfl := Option.some.inj h
    have hr := H.goodG_rows hG
    have hn1 : 1 ≤ l0_0.length := hr.1.1
    have hn2 : l0_0.length ≤ 12 := hr.1.2
    have HR0 := Aside0.mk hr0_0
    have HC0 := Aside0.mk hc0_0
    have HG := Aside0.mk hG
    have HO := Aside0.mk (H.Own.nil w)
    have HRE := Aside0.mk (fun (W : World) (hb : Below w.heap.size w W) (wo : Int) => reach_any hG A0_0 c0_0 wo W (Kd.C_below HR0.out hb) HC0.out)
    have HRL := Aside0.mk (fun wo => Q.listTo_small (H.reachF l0_0 0 wo))
    have HRIN := Aside0.mk (fun y (hy : y ∈ listTo (H.reachF l0_0 0 (-1)) 12) => ((Q.listTo_reach hG y).1 hy).rng hG (by decide) (by omega))
    have HROW := Aside0.mk (H.goodG_row hG)
    clear hr0_0 hc0_0 hG h hr
    have hI : (Try.prog.info? 32).map (·.size) = some 1 := by kernel_rfl
    have HI := Aside0.mk hI
    clear hI
    obtain ⟨R, hR⟩ : ∃ R, listTo (H.reachF l0_0 0 (-1)) 12 = R := ⟨_, rfl⟩
    have HRS := Aside0.mk (HRL.out (-1))
    rw [hR] at HRIN HRS
    have HRD := Aside0.mk hR
    clear hR
    have hrs := HRS.out
    go_enter Try.func65, Try.ntmps65
    go_wp2_with (first | ((with_reducible refine gate_dst (N := 1) rfl ?_); refine H.own_box HO.out ?bxg (N := 1) ?bxd (cs := #[Value.slice A0_0 l0_0.length c0_0]) (t := 28) ?bxr ?_; (case bxd => rfl); (case bxg => rfl); (case bxr => first | (go_simp; done) | (go_simp; rfl)); intro gp w_ ho_ hb_; replace HO := Aside0.mk ho_; clear ho_ hb_) | ((with_reducible refine gate_dst (N := 9) rfl ?_); refine wpList_load_row rfl 28 (.tmp 1) rfl _ rfl 28 _ (0, 0) _ (HO.out.get 0 rfl) Try.underlying28 rfl (by kernel_rfl) ?_) | (go_at_call 68; refine (HRE.out _ HO.out.below (-1)).mono ?_; rw [HRD.out]; rintro e w' ⟨vr, rfl, hv, hb⟩; obtain ⟨AR, cR, rfl⟩ := Kd.R_slice hv; obtain ⟨N1, hN1⟩ : ∃ N1, w'.heap.size = N1 := ⟨_, rfl⟩; have HV := Aside0.mk (Kd.R_mono (ok' := fun k => k < N1) (H.R_upto (Kd.R_lower hv HO.out.size)) (fun k hk => hN1 ▸ hk.2)); have HN1 := Aside0.mk hN1; replace HO := Aside0.mk (HO.out.step hb); have hx1 := HO.out.cell 0 rfl 0; clear hv hb hN1) | ((with_reducible refine gate_dst (N := 14) rfl ?_); refine Kd.S_make (Kd.slice 3 (Kd.int .i64)) (w0 := _) _ 32 rfl (N := 14) rfl 22 _ _ rfl (l0_0.length : Int) rfl rfl Try.underlying22 (.slice none 0 0) 24 info32 rfl (by decide) (by omega) [] (ok := fun _ => True) (okp := fun _ => True) ⟨_, rfl, Kd.R_nil _ _ _ _ _⟩ (fun _ hk => hk) trivial (by omega) (by simp only [Int.toNat_natCast]; omega) (Below.refl _ _) (Nat.le_refl _) ?_; intro vs w_ ho_ hb_ hg_ hnew_; replace HV := Aside0.mk (Kd.R_below HV.out hb_); have HS := Aside0.mk (Kd.S_lower (Kd.S_mono (ok' := fun k => N1 ≤ k) (H.S_upto ho_) (fun k hk => by rw [← HN1.out]; exact hk.1)) HO.out.size); have HNW := Aside0.mk (show N1 ≤ w_.heap.size by rw [← HN1.out]; exact hb_.size); replace HO := Aside0.mk (HO.out.step hb_); clear ho_ hb_ hg_ hnew_ hx1 HN1))
    rw [Int.toNat_natCast] at HS
    obtain ⟨gs, cs, rfl, hgs0, _, _⟩ := Kd.S_form HS.out (by simp; omega)
    rw [List.length_replicate] at HS ⊢
    have HGS0 := Aside0.mk hgs0
    clear hgs0
    go_loopw [17] (fun v17 wr => ∃ (i : Nat) (xs : List (List Int)), v17 = .int .i64 i ∧ i ≤ R.length ∧ Aside0 (Kd.S (Kd.slice 3 (Kd.int .i64)) 32 wr w.heap.size (fun k => N1 ≤ k) (.slice (some ⟨gs, 0, none⟩) l0_0.length cs) xs) ∧ Aside0 (Q.Rel l0_0.length (fun b y => y ∈ R.take i ∧ (b : Int) ∈ l0_0.getD y.toNat []) xs) ∧ Aside0 ((Kd.int .i64).R 3 wr w.heap.size (fun k => k < N1) (.slice AR R.length cR) R) ∧ Aside0 (N1 ≤ wr.heap.size) ∧ Aside0 (H.Own w wr [(gp, #[Value.slice A0_0 l0_0.length c0_0], 28)])) (fun v17 _ => R.length - (intOf v17).toNat)
    case atStart => exact ⟨0, _, rfl, Nat.zero_le _, HS, ⟨Q.Rel.nil _ (fun b _ y h => by simp at h)⟩, HV, HNW, HO⟩
    case round =>
      clear HO HS HV HNW
      obtain ⟨i, xs, rfl, hi, HS, HREL, HV, HNW, HO⟩ := hrel
      by_cases hlt : i < R.length
      · obtain ⟨ad1, e1, hc1⟩ := Kd.at_int (Kd.R_reads' HV.out).2.2 (i : Int) (by omega) (by omega)
        subst e1
        rw [Int.toNat_natCast] at hc1
        have hd : rd R (i : Int) = R.getD i 0 := rfl
        rw [hd] at hc1
        have htk : R.take (i + 1) = R.take i ++ [R.getD i 0] := by rw [List.take_add_one, List.getElem?_eq_getElem hlt, List.getD_eq_getElem?_getD, List.getElem?_eq_getElem hlt]; rfl
        have hdin := HRIN.out (R.getD i 0) (by rw [List.getD_eq_getElem?_getD, List.getElem?_eq_getElem hlt]; exact List.getElem_mem hlt)
        obtain ⟨d, hdd⟩ : ∃ d : Nat, R.getD i 0 = (d : Int) := ⟨(R.getD i 0).toNat, by omega⟩
        rw [hdd] at hc1 htk hdin
        have HTK := Aside0.mk htk
        have hil : (i : Int) < (R.length : Int) := by omega
        have hdg : (d : Int) < (l0_0.length : Int) := hdin.2
        obtain ⟨ad, A1, c1, ea, hc0, hcx, hc2⟩ := at_L1 HR0.out (d : Int) (by omega) (by omega)
        subst ea
        rw [Int.toNat_natCast] at hc0
        have hrd : rd_L1 l0_0 (d : Int) = l0_0.getD d [] := rfl
        rw [hrd] at hc0 hcx hc2
        have hrow := HROW.out d
        obtain ⟨row, hrw⟩ : ∃ row, l0_0.getD d [] = row := ⟨_, rfl⟩
        rw [hrw] at hc0 hcx hc2 hrow
        have hxr := HO.out.old hc0
        have hx1 := HO.out.cell 0 rfl 0
        have HC2 := Aside0.mk hc2
        have HRR := Aside0.mk hrow
        have HRW := Aside0.mk hrw
        have hrl := hc2.2.1
        clear hd htk hdd hdin hc0 hcx hc2 hrow hrd hrw
        go_wp2
        go_loopw [27] (fun v27 wr => ∃ (j : Nat) (xs : List (List Int)), v27 = .int .i64 j ∧ j ≤ row.length ∧ Aside0 (Kd.S (Kd.slice 3 (Kd.int .i64)) 32 wr w.heap.size (fun k => N1 ≤ k) (.slice (some ⟨gs, 0, none⟩) l0_0.length cs) xs) ∧ Aside0 (Q.Rel l0_0.length (fun b y => (y ∈ R.take i ∧ (b : Int) ∈ l0_0.getD y.toNat []) ∨ (y = (d : Int) ∧ (b : Int) ∈ row.take j)) xs) ∧ Aside0 ((Kd.int .i64).R 3 wr w.heap.size (fun k => k < N1) (.slice (some ad1) R.length cR) R) ∧ Aside0 (N1 ≤ wr.heap.size) ∧ Aside0 (H.Own w wr [(gp, #[Value.slice (some ad) l0_0.length c0_0], 28)])) (fun v27 _ => row.length - (intOf v27).toNat)
        case atStart => exact ⟨0, xs, rfl, Nat.zero_le _, HS, ⟨HREL.out.congr (fun b _ y => by simp)⟩, HV, HNW, HO⟩
        case round =>
          clear HO HS HV HNW HREL hx1 hxr hc1
          obtain ⟨j, xs, rfl, hj, HS, HREL, HV, HNW, HO⟩ := hrel
          by_cases hlt2 : j < row.length
          · obtain ⟨ad2, e2, hc2⟩ := Kd.at_int HC2.out (j : Int) (by omega) (by omega)
            subst e2
            rw [Int.toNat_natCast] at hc2
            have hd : rd row (j : Int) = row.getD j 0 := rfl
            rw [hd] at hc2
            have htk : row.take (j + 1) = row.take j ++ [row.getD j 0] := by rw [List.take_add_one, List.getElem?_eq_getElem hlt2, List.getD_eq_getElem?_getD, List.getElem?_eq_getElem hlt2]; rfl
            have hin := HRR.out (row.getD j 0) (by rw [List.getD_eq_getElem?_getD, List.getElem?_eq_getElem hlt2]; exact List.getElem_mem hlt2)
            obtain ⟨k, hkk⟩ : ∃ k : Nat, row.getD j 0 = (k : Int) := ⟨(row.getD j 0).toNat, by omega⟩
            rw [hkk] at hc2 htk hin
            have hcy := HO.out.old hc2
            have HTK2 := Aside0.mk htk
            have hjl : (j : Int) < (row.length : Int) := by omega
            have hkn : (k : Int) < (l0_0.length : Int) := hin.2
            have HKN := Aside0.mk (show k < l0_0.length by omega)
            clear hd htk hkk hin hc2
            obtain ⟨oki, u, hu, hRu, hoki, hH⟩ := H.S_holeG HS.out HKN.out
            have hgt := Kd.S_typed HS.out gs (by simp [Value.ownBlock])
            have HRU := Aside0.mk hRu
            have HOK := Aside0.mk hoki
            have HH := Aside0.mk hH
            have HGT := Aside0.mk hgt
            have HXL := Aside0.mk (show (xs.getD k []).length ≤ 1048576 by
              have := HREL.out.len12 (fun b hb y h => by
                have hy : y ∈ R := by
                  rcases h with h | h
                  · exact List.mem_of_mem_take h.1
                  · have := HTK.out
                    rw [h.1]
                    exact List.mem_of_mem_take (i := i + 1) (by rw [this]; simp)
                have := HRIN.out y hy
                omega) HKN.out
              omega)
            clear hRu hoki hH hgt HS
            go_wp2_with (first | (go_at_call 41; refine (put_any (xs.getD k []) HXL.out (d : Int) u _ w _ HO.out.below HRU.out).mono ?_; rintro e w3 ⟨v0, rfl, hv0, hb, hk⟩; obtain ⟨A0, c0, rfl⟩ := Kd.R_slice hv0; have HV0 := Aside0.mk hv0; have HPU := Aside0.mk (fun k (hk : some k = u.ownBlock) => HOK.out k (HRU.out.1 k hk.symm)); replace HH := Aside0.mk (H.hole_keptG HH.out hk (fun k hk => HRU.out.1 k hk.symm)); replace HV := Aside0.mk (H.R_keptB HV.out hk (fun k h1 h2 => by have a1 := HV.out.1 k h1; have a2 := (HPU.out k h2); omega)); replace HGT := Aside0.mk (HGT.out.imp (fun cells hc => (hk.2 gs (blk_lt hc) (Kd.R_ne HRU.out hc (by decide))).trans hc)); have HNW' := HNW; replace HNW := Aside0.mk (Nat.le_trans HNW.out hk.1); replace HO := Aside0.mk (HO.out.keptU HRU.out hk hb (by simp)); clear hv0 hb hk hu hcy) | ((with_reducible refine gate_store (t := 32) (p := 39) rfl ?_); refine H.own_eputG HO.out HH.out HV0.out (Nat.le_refl _) (fun q hq => by rcases HV0.out.1 q hq with h | h; exact .inl (HRU.out.1 q h.symm); exact .inr ⟨Nat.le_trans HNW'.out h, h⟩) rfl rfl rfl rfl rfl HI.out HKN.out HGS0.out HGT.out (by simp) ?_; intro w_ ho_ hs_ hg_; replace HV := Aside0.mk (Kd.R_over' (e' := 32) (v := .slice (some ⟨gs, 0, none⟩) 0 0) HV.out (fun q hq => by have : gs = q := (by simpa [Value.ownBlock] using hq); rw [← this]; exact HGT.out) (by decide) hg_); replace HNW := Aside0.mk (Nat.le_trans HNW.out hg_.size); have HS := Aside0.mk hs_; replace HO := Aside0.mk ho_; clear ho_ hs_ hg_))
            go_roundw
            case rel => exact ⟨j + 1, _, by go_num, by omega, HS, ⟨(HREL.out.put HKN.out (d : Int)).congr (fun b _ y => by
              rw [HTK2.out, List.mem_append, List.mem_singleton]
              constructor
              · rintro ((h | ⟨h1, h2⟩) | ⟨h1, h2⟩)
                · exact .inl h
                · exact .inr ⟨h1, .inl h2⟩
                · subst h1
                  exact .inr ⟨h2, .inr rfl⟩
              · rintro (h | ⟨h1, h2 | h2⟩)
                · exact .inl (.inl h)
                · exact .inl (.inr ⟨h1, h2⟩)
                · exact .inr ⟨by omega, h1⟩)⟩, HV, HNW, HO⟩
            case measure => simp [intOf]; omega
          · have hE : j = row.length := by omega
            subst hE
            go_wp2
            go_roundw
            case rel => exact ⟨i + 1, xs, by go_num, by omega, HS, ⟨HREL.out.congr (fun b _ y => by
              rw [HTK.out, List.mem_append, List.mem_singleton, List.take_length]
              constructor
              · rintro (h | ⟨h1, h2⟩)
                · exact ⟨.inl h.1, h.2⟩
                · subst h1
                  exact ⟨.inr rfl, by rw [Int.toNat_natCast, HRW.out]; exact h2⟩
              · rintro ⟨h | h, h2⟩
                · exact .inl ⟨h, h2⟩
                · subst h
                  exact .inr ⟨rfl, by rw [Int.toNat_natCast, HRW.out] at h2; exact h2⟩)⟩, HV, HNW, HO⟩
            case measure => simp [intOf]; omega
      · have hE : i = R.length := by omega
        subst hE
        have hfin : xs = Q.prdL l0_0 := by
          refine (HREL.out.congr (fun b _ y => ?_)).uniq (Q.prdL_rel HG.out)
          unfold Q.prdM
          rw [HRD.out, List.take_length]
        subst hfin
        go_wp2
        go_ret
        exact ⟨_, rfl, Kd.S_mono HS.out (fun _ _ => trivial), HO.out.below⟩
end Go.Proofs.Ytndkblahnihhjaa.P

namespace Go.Proofs.Ytndkblahnihhjaa.P
open Go.RowKit Go.Proofs.YtndkblahnihhjaaW.PrintWords Go.Proofs.YtndkblahnihhjaaW.PrintLast Go.Proofs.YtndkblahnihhjaaW.PrintMore
attribute [local go_sem] max2_int min2_int max_two min_two max_three min_three max_four min_four
def spec_l11Frontier.f (l0_0 : List (List Int)) : Option (List (List Int)) := if H.goodG l0_0 then some (Q.froL l0_0) else none
set_option maxHeartbeats 8000000 in
set_option maxRecDepth 100000 in
theorem spec_l11Frontier.calls (A0_0 : Option Addr) (c0_0 : Nat) (l0_0 : List (List Int)) (r : List (List Int)) (w : World) (hr0_0 : Kd.C (Kd.slice 3 (Kd.int .i64)) w A0_0 l0_0.length l0_0) (hc0_0 : l0_0.length ≤ c0_0) (h : spec_l11Frontier.f l0_0 = some r) :
    Calls Try.prog 64 #[.agg #[.slice A0_0 l0_0.length c0_0]] w fun e w' => ∃ v0_ : Value, e = .returned (v0_) ∧ Kd.S (Kd.slice 3 (Kd.int .i64)) 32 w' w.heap.size (fun _ => True) v0_ r ∧ Below w.heap.size w w' := by
  unfold spec_l11Frontier.f at h
  cases hG : H.goodG l0_0 with
  | false => rw [hG] at h; exact absurd h (by simp)
  | true =>
    rw [hG, if_pos rfl] at h
    obtain rfl := Option.some.inj h
    have hr := H.goodG_rows hG
    have hn1 : 1 ≤ l0_0.length := hr.1.1
    have hn2 : l0_0.length ≤ 12 := hr.1.2
    have HN12 := Aside0.mk hn2
    have HR0 := Aside0.mk hr0_0
    have HC0 := Aside0.mk hc0_0
    have HG := Aside0.mk hG
    have HO := Aside0.mk (H.Own.nil w)
    have HRE := Aside0.mk (fun (W : World) (hb : Below w.heap.size w W) (wo : Int) => reach_any hG A0_0 c0_0 wo W (Kd.C_below HR0.out hb) HC0.out)
    have HDC := Aside0.mk (fun (W : World) (hb : Below w.heap.size w W) => spec_l10Dominators.calls A0_0 c0_0 l0_0 (Q.domL l0_0) W (Kd.C_below HR0.out hb) HC0.out (by unfold spec_l10Dominators.f; rw [hG, if_pos rfl]))
    have HPC := Aside0.mk (fun (W : World) (hb : Below w.heap.size w W) => spec_l11Preds.calls A0_0 c0_0 l0_0 (Q.prdL l0_0) W (Kd.C_below HR0.out hb) HC0.out (by unfold spec_l11Preds.f; rw [hG, if_pos rfl]))
    have HRIN := Aside0.mk (fun y (hy : y ∈ listTo (H.reachF l0_0 0 (-1)) 12) => ((Q.listTo_reach hG y).1 hy).rng hG (by decide) (by omega))
    have hrs := Q.listTo_small (H.reachF l0_0 0 (-1))
    clear hr0_0 hc0_0 hG h hr
    have HII := Aside0.mk (show (Try.prog.info? 32).map (·.size) = some 1 by kernel_rfl)
    obtain ⟨R, hR⟩ : ∃ R, listTo (H.reachF l0_0 0 (-1)) 12 = R := ⟨_, rfl⟩
    rw [hR] at HRIN hrs
    have HRD := Aside0.mk hR
    have hdl := Q.domL_length l0_0
    have hpl := Q.prdL_length l0_0
    have HD12 := Aside0.mk (fun b => Q.domL_len12 (g := l0_0) b)
    have HP12 := Aside0.mk (fun b => Q.prdL_len12 (g := l0_0) b)
    have HPRN := Aside0.mk (fun (b : Nat) (hb : b < l0_0.length) (y : Int) (h : y ∈ (Q.prdL l0_0).getD b []) => Q.prdL_rng l0_0 hb h)
    have HFP := Aside0.mk (fun (x y p : Nat) => show Q.froP l0_0 x (y : Int) (p : Int) ↔ ((x : Int) ∈ (Q.domL l0_0).getD p [] ∧ ((x : Int) = (y : Int) ∨ ¬ (x : Int) ∈ (Q.domL l0_0).getD y [])) by unfold Q.froP; rw [Int.toNat_natCast, Int.toNat_natCast])
    have HFA := Aside0.mk (fun (b y : Nat) (hy : y < l0_0.length) => Q.froM_at (g := l0_0) (b := b) hy)
    obtain ⟨DL, hDL⟩ : ∃ DL, Q.domL l0_0 = DL := ⟨_, rfl⟩
    obtain ⟨PL, hPL⟩ : ∃ PL, Q.prdL l0_0 = PL := ⟨_, rfl⟩
    rw [hDL] at hdl HD12 HDC HFP
    rw [hPL] at hpl HP12 HPRN HPC HFA
    have HDL := Aside0.mk hdl
    have HPL := Aside0.mk hpl
    clear hR hDL hPL
    go_enter Try.func64, Try.ntmps64
    go_wp2_with (first | ((with_reducible refine gate_dst (N := 1) rfl ?_); refine H.own_box HO.out ?bxg (N := 1) ?bxd (cs := #[Value.slice A0_0 l0_0.length c0_0]) (t := 28) ?bxr ?_; (case bxd => rfl); (case bxg => rfl); (case bxr => first | (go_simp; done) | (go_simp; rfl)); intro gp w_ ho_ hb_; replace HO := Aside0.mk ho_; clear ho_ hb_) | ((with_reducible refine gate_dst (N := 12) rfl ?_); refine wpList_load_row rfl 28 (.tmp 1) rfl _ rfl 28 _ (0, 0) _ (HO.out.get 0 rfl) Try.underlying28 rfl (by kernel_rfl) ?_) | ((with_reducible refine gate_dst (N := 14) rfl ?_); refine wpList_load_row rfl 28 (.tmp 1) rfl _ rfl 28 _ (0, 0) _ (HO.out.get 0 rfl) Try.underlying28 rfl (by kernel_rfl) ?_) | ((with_reducible refine gate_dst (N := 20) rfl ?_); refine wpList_load_row rfl 28 (.tmp 1) rfl _ rfl 28 _ (0, 0) _ (HO.out.get 0 rfl) Try.underlying28 rfl (by kernel_rfl) ?_) | (go_at_call 53; refine (HDC.out _ HO.out.below).mono ?_; rintro e w' ⟨vd, rfl, hv, hb⟩; obtain ⟨gd, cd, rfl, _, _, _⟩ := Kd.S_form hv (by omega); rw [hdl] at hv; obtain ⟨N0, hN0⟩ : ∃ N0, w'.heap.size = N0 := ⟨_, rfl⟩; have HD := Aside0.mk (Kd.S_lower (Kd.S_mono (ok' := fun k => k < N0) (H.S_upto hv) (fun k hk => hN0 ▸ hk.2)) HO.out.size); have HN0 := Aside0.mk hN0; replace HO := Aside0.mk (HO.out.step hb); clear hv hb hN0) | (go_at_call 65; refine (HPC.out _ HO.out.below).mono ?_; rintro e w' ⟨vq, rfl, hv, hb⟩; obtain ⟨gq, cq, rfl, _, _, _⟩ := Kd.S_form hv (by omega); rw [hpl] at hv; obtain ⟨N1, hN1⟩ : ∃ N1, w'.heap.size = N1 := ⟨_, rfl⟩; have hN01 : N0 ≤ N1 := (by rw [← HN0.out, ← hN1]; exact hb.size); have HQ := Aside0.mk (Kd.S_lower (Kd.S_mono (ok' := fun k => N0 ≤ k ∧ k < N1) (H.S_upto hv) (fun k hk => ⟨by rw [← HN0.out]; exact hk.1, hN1 ▸ hk.2⟩)) HO.out.size); replace HD := Aside0.mk (Kd.S_below HD.out hb); have HN1 := Aside0.mk hN1; replace HO := Aside0.mk (HO.out.step hb); have hx1 := HO.out.cell 0 rfl 0; clear hv hb hN1) | ((with_reducible refine gate_dst (N := 19) rfl ?_); refine Kd.S_make (Kd.slice 3 (Kd.int .i64)) (w0 := _) _ 32 rfl (N := 19) rfl 22 _ _ rfl (l0_0.length : Int) rfl rfl Try.underlying22 (.slice none 0 0) 24 info32 rfl (by decide) (by omega) [] (ok := fun _ => True) (okp := fun _ => True) ⟨_, rfl, Kd.R_nil _ _ _ _ _⟩ (fun _ hk => hk) trivial (by omega) (by simp only [Int.toNat_natCast]; omega) (Below.refl _ _) (Nat.le_refl _) ?_; intro vs w_ ho_ hb_ hg_ hnew_; obtain ⟨N2, hN2⟩ : ∃ N2, w_.heap.size = N2 := ⟨_, rfl⟩; have hN12 : N1 ≤ N2 := (by rw [← HN1.out, ← hN2]; exact hb_.size); replace HD := Aside0.mk (Kd.S_below HD.out hb_); replace HQ := Aside0.mk (Kd.S_below HQ.out hb_); have HS := Aside0.mk (Kd.S_lower (Kd.S_mono (ok' := fun k => N1 ≤ k ∧ k < N2) (H.S_upto ho_) (fun k hk => ⟨by rw [← HN1.out]; exact hk.1, hN2 ▸ hk.2⟩)) HO.out.size); have HN2 := Aside0.mk hN2; replace HO := Aside0.mk (HO.out.step hb_); clear ho_ hb_ hg_ hnew_ hx1 hN2) | (go_at_call 68; refine (HRE.out _ HO.out.below (-1)).mono ?_; rw [HRD.out]; rintro e w' ⟨vr, rfl, hv, hb⟩; obtain ⟨AR, cR, rfl⟩ := Kd.R_slice hv; obtain ⟨N3, hN3⟩ : ∃ N3, w'.heap.size = N3 := ⟨_, rfl⟩; have hN23 : N2 ≤ N3 := (by rw [← HN2.out, ← hN3]; exact hb.size); have HV := Aside0.mk (Kd.R_lower (Kd.R_mono (ok' := fun k => N2 ≤ k ∧ k < N3) (H.R_upto hv) (fun k hk => ⟨by rw [← HN2.out]; exact hk.1, hN3 ▸ hk.2⟩)) HO.out.size); replace HD := Aside0.mk (Kd.S_below HD.out hb); replace HQ := Aside0.mk (Kd.S_below HQ.out hb); replace HS := Aside0.mk (Kd.S_below HS.out hb); have HNW := Aside0.mk (Nat.le_of_eq hN3.symm); replace HO := Aside0.mk (HO.out.step hb); clear hv hb hN3))
    rw [Int.toNat_natCast] at HS
    obtain ⟨gs, cs, rfl, hgs0, _, _⟩ := Kd.S_form HS.out (by simp; omega)
    have HGS1 := Aside0.mk ((Kd.S_R HS.out).1 gs (by simp [Value.ownBlock]))
    rw [List.length_replicate] at HS ⊢
    have HGS0 := Aside0.mk hgs0
    replace HS := Aside0.mk (Kd.S_mono (ok' := (fun k => (N1 ≤ k ∧ k < N2) ∨ N3 ≤ k)) HS.out (fun k hk => .inl hk))
    have HNN := Aside0.mk (show N0 ≤ N1 ∧ N1 ≤ N2 ∧ N2 ≤ N3 from ⟨hN01, hN12, hN23⟩)
    clear hgs0 hN01 hN12 hN23 HN0 HN1 HN2 hdl hpl
    go_loopw [23] (fun v23 wr => ∃ (i : Nat) (xs : List (List Int)), v23 = .int .i64 i ∧ i ≤ R.length ∧ Aside0 (Kd.S (Kd.slice 3 (Kd.int .i64)) 32 wr w.heap.size (fun k => (N1 ≤ k ∧ k < N2) ∨ N3 ≤ k) (.slice (some ⟨gs, 0, none⟩) l0_0.length cs) xs) ∧ Aside0 (Q.Rel l0_0.length (fun b yy => (b : Int) ∈ R.take i ∧ Q.froM l0_0 b yy) xs) ∧ Aside0 (Kd.S (Kd.slice 3 (Kd.int .i64)) 32 wr w.heap.size (fun k => k < N0) (.slice (some ⟨gd, 0, none⟩) l0_0.length cd) DL) ∧ Aside0 (Kd.S (Kd.slice 3 (Kd.int .i64)) 32 wr w.heap.size (fun k => N0 ≤ k ∧ k < N1) (.slice (some ⟨gq, 0, none⟩) l0_0.length cq) PL) ∧ Aside0 ((Kd.int .i64).R 3 wr w.heap.size (fun k => N2 ≤ k ∧ k < N3) (.slice AR R.length cR) R) ∧ Aside0 (N3 ≤ wr.heap.size) ∧ Aside0 (H.Own w wr [(gp, #[Value.slice A0_0 l0_0.length c0_0], 28)])) (fun v23 _ => R.length - (intOf v23).toNat)
    case atStart => exact ⟨0, _, rfl, Nat.zero_le _, HS, ⟨Q.Rel.nil _ (fun b _ y h => by simp at h)⟩, HD, HQ, HV, HNW, HO⟩
    case round =>
      clear HO HS HV HNW HD HQ
      obtain ⟨i, xs, rfl, hi, HS, HREL, HD, HQ, HV, HNW, HO⟩ := hrel
      by_cases hlt : i < R.length
      · obtain ⟨ad1, e1, hc1⟩ := Kd.at_int (Kd.R_reads' HV.out).2.2 (i : Int) (by omega) (by omega)
        subst e1
        rw [Int.toNat_natCast] at hc1
        have hd : rd R (i : Int) = R.getD i 0 := rfl
        rw [hd] at hc1
        have htk : R.take (i + 1) = R.take i ++ [R.getD i 0] := by rw [List.take_add_one, List.getElem?_eq_getElem hlt, List.getD_eq_getElem?_getD, List.getElem?_eq_getElem hlt]; rfl
        have hin := HRIN.out (R.getD i 0) (by rw [List.getD_eq_getElem?_getD, List.getElem?_eq_getElem hlt]; exact List.getElem_mem hlt)
        obtain ⟨x, hx⟩ : ∃ x : Nat, R.getD i 0 = (x : Int) := ⟨(R.getD i 0).toNat, by omega⟩
        rw [hx] at hc1 htk hin
        have HTK := Aside0.mk htk
        have hxn : (x : Int) < (l0_0.length : Int) := hin.2
        have HXN := Aside0.mk (show x < l0_0.length by omega)
        have hil : (i : Int) < (R.length : Int) := by omega
        clear hd htk hx hin
        go_wp2
        go_loopw [29] (fun v29 wr => ∃ (y : Nat) (xs : List (List Int)), v29 = .int .i64 y ∧ y ≤ l0_0.length ∧ Aside0 (Kd.S (Kd.slice 3 (Kd.int .i64)) 32 wr w.heap.size (fun k => (N1 ≤ k ∧ k < N2) ∨ N3 ≤ k) (.slice (some ⟨gs, 0, none⟩) l0_0.length cs) xs) ∧ Aside0 (Q.Rel l0_0.length (fun b yy => ((b : Int) ∈ R.take i ∧ Q.froM l0_0 b yy) ∨ (b = x ∧ yy < (y : Int) ∧ Q.froM l0_0 b yy)) xs) ∧ Aside0 (Kd.S (Kd.slice 3 (Kd.int .i64)) 32 wr w.heap.size (fun k => k < N0) (.slice (some ⟨gd, 0, none⟩) l0_0.length cd) DL) ∧ Aside0 (Kd.S (Kd.slice 3 (Kd.int .i64)) 32 wr w.heap.size (fun k => N0 ≤ k ∧ k < N1) (.slice (some ⟨gq, 0, none⟩) l0_0.length cq) PL) ∧ Aside0 ((Kd.int .i64).R 3 wr w.heap.size (fun k => N2 ≤ k ∧ k < N3) (.slice (some ad1) R.length cR) R) ∧ Aside0 (N3 ≤ wr.heap.size) ∧ Aside0 (H.Own w wr [(gp, #[Value.slice A0_0 l0_0.length c0_0], 28)])) (fun v29 _ => l0_0.length - (intOf v29).toNat)
        case atStart => exact ⟨0, xs, rfl, Nat.zero_le _, HS, ⟨HREL.out.congr (fun b _ yy => ⟨fun h => .inl h, fun h => h.elim id (fun h => absurd h.2.1 (by have := h.2.2.1; omega))⟩)⟩, HD, HQ, HV, HNW, HO⟩
        case round =>
          clear HO HS HV HNW HD HQ HREL hc1
          obtain ⟨y, xs, rfl, hy, HS, HREL, HD, HQ, HV, HNW, HO⟩ := hrel
          by_cases hlt2 : y < l0_0.length
          · obtain ⟨okr, ur, hur, hRr, hokr, _⟩ := H.S_holeG HQ.out hlt2
            have hyn : (y : Int) < (l0_0.length : Int) := by omega
            have HYN := Aside0.mk (show y < l0_0.length by omega)
            have HYD := HYN
            have hp12 := HP12.out y
            have hprn := HPRN.out y HYN.out
            have hfa := HFA.out x y HYN.out
            obtain ⟨row, hrow⟩ : ∃ row, PL.getD y [] = row := ⟨_, rfl⟩
            rw [hrow] at hRr hp12 hprn hfa
            have HRN := Aside0.mk hprn
            have HFAY := Aside0.mk hfa
            obtain ⟨AW, cW, rfl⟩ := Kd.R_slice hRr
            have HRW := Aside0.mk (Kd.R_mono (ok' := fun k => N0 ≤ k ∧ k < N1) hRr hokr)
            have hdr := HD12.out y
            clear hRr hrow hokr hprn hfa
            go_wp2
            go_loopw [36] (fun v36 wr => ∃ (j : Nat) (xs : List (List Int)), v36 = .int .i64 j ∧ j ≤ row.length ∧ Aside0 (Kd.S (Kd.slice 3 (Kd.int .i64)) 32 wr w.heap.size (fun k => (N1 ≤ k ∧ k < N2) ∨ N3 ≤ k) (.slice (some ⟨gs, 0, none⟩) l0_0.length cs) xs) ∧ Aside0 (Q.Rel l0_0.length (fun b yy => (((b : Int) ∈ R.take i ∧ Q.froM l0_0 b yy) ∨ (b = x ∧ yy < (y : Int) ∧ Q.froM l0_0 b yy)) ∨ (b = x ∧ yy = (y : Int) ∧ ∃ q, q ∈ row.take j ∧ Q.froP l0_0 x yy q)) xs) ∧ Aside0 (Kd.S (Kd.slice 3 (Kd.int .i64)) 32 wr w.heap.size (fun k => k < N0) (.slice (some ⟨gd, 0, none⟩) l0_0.length cd) DL) ∧ Aside0 (Kd.S (Kd.slice 3 (Kd.int .i64)) 32 wr w.heap.size (fun k => N0 ≤ k ∧ k < N1) (.slice (some ⟨gq, 0, none⟩) l0_0.length cq) PL) ∧ Aside0 ((Kd.int .i64).R 3 wr w.heap.size (fun k => N2 ≤ k ∧ k < N3) (.slice (some ad1) R.length cR) R) ∧ Aside0 ((Kd.int .i64).R 3 wr w.heap.size (fun k => N0 ≤ k ∧ k < N1) (.slice AW row.length cW) row) ∧ Aside0 (N3 ≤ wr.heap.size) ∧ Aside0 (H.Own w wr [(gp, #[Value.slice A0_0 l0_0.length c0_0], 28)])) (fun v36 _ => row.length - (intOf v36).toNat)
            case atStart => exact ⟨0, xs, rfl, Nat.zero_le _, HS, ⟨HREL.out.congr (fun b _ yy => by simp)⟩, HD, HQ, HV, HRW, HNW, HO⟩
            case round =>
              clear HO HS HV HNW HD HQ HREL HRW hur
              obtain ⟨j, xs, rfl, hj, HS, HREL, HD, HQ, HV, HRW, HNW, HO⟩ := hrel
              by_cases hlt3 : j < row.length
              · obtain ⟨ad3, e3, hc3⟩ := Kd.at_int (Kd.R_reads' HRW.out).2.2 (j : Int) (by omega) (by omega)
                subst e3
                rw [Int.toNat_natCast] at hc3
                have hd3 : rd row (j : Int) = row.getD j 0 := rfl
                rw [hd3] at hc3
                have htk2 : row.take (j + 1) = row.take j ++ [row.getD j 0] := by rw [List.take_add_one, List.getElem?_eq_getElem hlt3, List.getD_eq_getElem?_getD, List.getElem?_eq_getElem hlt3]; rfl
                have hpr := HRN.out (row.getD j 0) (by rw [List.getD_eq_getElem?_getD, List.getElem?_eq_getElem hlt3]; exact List.getElem_mem hlt3)
                obtain ⟨p, hp⟩ : ∃ p : Nat, row.getD j 0 = (p : Int) := ⟨(row.getD j 0).toNat, by omega⟩
                rw [hp] at hc3 htk2 hpr
                have HTK2 := Aside0.mk htk2
                have hpd : (p : Int) < (l0_0.length : Int) := by omega
                have hjl : (j : Int) < (row.length : Int) := by omega
                obtain ⟨okp, up, hcp, hRp, hokp, _⟩ := H.S_holeG HD.out (show p < l0_0.length by omega)
                have hfp := HFP.out x y p
                have hpl12 := HD12.out p
                obtain ⟨dp, hdp⟩ : ∃ dp, DL.getD p [] = dp := ⟨_, rfl⟩
                rw [hdp] at hRp hfp hpl12
                obtain ⟨AP, cP, rfl⟩ := Kd.R_slice hRp
                have HDP := Aside0.mk hRp
                have HDPL := Aside0.mk (show dp.length ≤ 1048576 by omega)
                obtain ⟨b1, hb1⟩ : ∃ b, decide ((x : Int) ∈ dp) = b := ⟨_, rfl⟩
                have HB1 := Aside0.mk hb1
                clear hd3 htk2 hp hpr hRp hokp hdp hpl12
                cases b1 with
                | false =>
                  have HPN := Aside0.mk (show ¬ Q.froP l0_0 x (y : Int) (p : Int) from fun h => absurd (hfp.1 h).1 (of_decide_eq_false hb1))
                  clear hfp hb1
                  go_wp2_with (go_at_call 43; (refine (has_any (dp) HDPL.out _ _ (x : Int) _ (Kd.R_reads' HDP.out).2.2 (Kd.R_reads' HDP.out).2.1).mono ?_; rw [HB1.out]; rintro e w2 ⟨rfl, hd⟩; replace HD := Aside0.mk (Kd.S_below HD.out hd.below); replace HQ := Aside0.mk (Kd.S_below HQ.out hd.below); replace HV := Aside0.mk (Kd.R_below HV.out hd.below); replace HNW := Aside0.mk (Nat.le_trans HNW.out (hd.below).size); replace HRW := Aside0.mk (Kd.R_below HRW.out hd.below); replace HO := Aside0.mk (HO.out.step hd.below); replace HS := Aside0.mk (Kd.S_below HS.out hd.below); clear hcp hc3; clear hd))
                  go_roundw
                  case rel => exact ⟨j + 1, xs, by go_num, by omega, HS, ⟨HREL.out.congr (fun b _ yy => by
                    rw [HTK2.out]
                    simp only [List.mem_append, List.mem_singleton]
                    constructor
                    · rintro (h | ⟨h1, h2, q, h3, h4⟩)
                      · exact .inl h
                      · exact .inr ⟨h1, h2, q, .inl h3, h4⟩
                    · rintro (h | ⟨h1, h2, q, h3 | h3, h4⟩)
                      · exact .inl h
                      · exact .inr ⟨h1, h2, q, h3, h4⟩
                      · exact absurd h4 (by rw [h2, h3]; exact HPN.out))⟩, HD, HQ, HV, HRW, HNW, HO⟩
                  case measure => simp [intOf]; omega
                | true =>
                  have hxp := of_decide_eq_true hb1
                  by_cases hxy : x = y
                  · have HPN := Aside0.mk (show Q.froP l0_0 x (y : Int) (p : Int) from hfp.2 ⟨hxp, .inl (by omega)⟩)
                    clear hfp hb1 hxp
                    subst hxy
                    obtain ⟨oki, u, hu, hRu, hoki, hH⟩ := H.S_holeG HS.out HXN.out
                    have hgt := Kd.S_typed HS.out gs (by simp [Value.ownBlock])
                    have HRU := Aside0.mk hRu
                    have HOK := Aside0.mk hoki
                    have HH := Aside0.mk hH
                    have HGT := Aside0.mk hgt
                    have HU := Aside0.mk hu
                    have HXL := Aside0.mk (show (xs.getD x []).length ≤ 1048576 by
                      have := HREL.out.len12 (fun b hb yy h => by
                        have hn2 := HN12.out
                        rcases h with (h | h) | h
                        · have := h.2.1; omega
                        · have := h.2.2.1; omega
                        · have := h.2.1; have := HYN.out; omega) HXN.out
                      omega)
                    clear hRu hoki hH hgt hu HS
                    go_wp2_with (first | (go_at_call 43; (refine (has_any (dp) HDPL.out _ _ (x : Int) _ (Kd.R_reads' HDP.out).2.2 (Kd.R_reads' HDP.out).2.1).mono ?_; rw [HB1.out]; rintro e w2 ⟨rfl, hd⟩; replace HD := Aside0.mk (Kd.S_below HD.out hd.below); replace HQ := Aside0.mk (Kd.S_below HQ.out hd.below); replace HV := Aside0.mk (Kd.R_below HV.out hd.below); replace HNW := Aside0.mk (Nat.le_trans HNW.out (hd.below).size); replace HRW := Aside0.mk (Kd.R_below HRW.out hd.below); replace HO := Aside0.mk (HO.out.step hd.below); replace HRU := Aside0.mk (Kd.R_below HRU.out hd.below); replace HH := Aside0.mk (Kd.H_below HH.out hd.below); replace HGT := Aside0.mk (HGT.out.imp (fun cells hc => blk_below hc hd.below)); replace HU := Aside0.mk (pw_cell_below hd.below HU.out); have hu := HU.out; clear hcp hc3; clear hd)) | (go_at_call 41; refine (put_any (xs.getD x []) HXL.out (x : Int) u _ w _ HO.out.below HRU.out).mono ?_; rintro e w3 ⟨v0, rfl, hv0, hb, hk⟩; obtain ⟨A0, c0, rfl⟩ := Kd.R_slice hv0; have HV0 := Aside0.mk hv0; have HPU := Aside0.mk (fun k (hk : some k = u.ownBlock) => HOK.out k (HRU.out.1 k hk.symm)); replace HH := Aside0.mk (H.hole_keptG HH.out hk (fun k hk => HRU.out.1 k hk.symm)); replace HRW := Aside0.mk (H.R_keptB HRW.out hk (fun k h1 h2 => by have a1 := HRW.out.1 k h1; have a2 := (HPU.out k h2); have := HNN.out; omega)); replace HV := Aside0.mk (H.R_keptB HV.out hk (fun k h1 h2 => by have a1 := HV.out.1 k h1; have a2 := (HPU.out k h2); have := HNN.out; omega)); replace HD := Aside0.mk (Kd.S_step HD.out (fun k hok hlt => hk.2 k hlt (fun h2 => by have a2 := HPU.out k h2; have := HNN.out; omega))); replace HQ := Aside0.mk (Kd.S_step HQ.out (fun k hok hlt => hk.2 k hlt (fun h2 => by have a2 := HPU.out k h2; have := HNN.out; omega))); replace HGT := Aside0.mk (HGT.out.imp (fun cells hc => (hk.2 gs (blk_lt hc) (Kd.R_ne HRU.out hc (by decide))).trans hc)); have HNW' := HNW; replace HNW := Aside0.mk (Nat.le_trans HNW.out hk.1); replace HO := Aside0.mk (HO.out.keptU HRU.out hk hb (by simp)); clear hv0 hb hk hu) | ((with_reducible refine gate_store (t := 32) (p := 68) rfl ?_); refine H.own_eputG HO.out HH.out HV0.out (Nat.le_refl _) (fun q hq => by rcases HV0.out.1 q hq with h | h; exact .inl (HRU.out.1 q h.symm); exact .inr ⟨.inr (Nat.le_trans HNW'.out h), h⟩) rfl rfl rfl rfl rfl HII.out HXN.out HGS0.out HGT.out (by simp) ?_; intro w_ ho_ hs_ hg_; replace HRW := Aside0.mk (Kd.R_step HRW.out (fun k hok hlt => hg_.block k hlt (fun he => by injection he with he; have := HGS1.out; have := HNN.out; omega))); replace HV := Aside0.mk (Kd.R_step HV.out (fun k hok hlt => hg_.block k hlt (fun he => by injection he with he; have := HGS1.out; have := HNN.out; omega))); replace HD := Aside0.mk (Kd.S_step HD.out (fun k hok hlt => hg_.block k hlt (fun he => by injection he with he; have := HGS1.out; have := HNN.out; omega))); replace HQ := Aside0.mk (Kd.S_step HQ.out (fun k hok hlt => hg_.block k hlt (fun he => by injection he with he; have := HGS1.out; have := HNN.out; omega))); replace HNW := Aside0.mk (Nat.le_trans HNW.out hg_.size); have HS := Aside0.mk hs_; replace HO := Aside0.mk ho_; clear ho_ hs_ hg_))
                    go_roundw
                    case rel => exact ⟨j + 1, _, by go_num, by omega, HS, ⟨(HREL.out.put HXN.out (x : Int)).congr (fun b _ yy => by
                      rw [HTK2.out]
                      simp only [List.mem_append, List.mem_singleton]
                      constructor
                      · rintro ((h | ⟨h1, h2, q, h3, h4⟩) | ⟨h1, h2⟩)
                        · exact .inl h
                        · exact .inr ⟨h1, h2, q, .inl h3, h4⟩
                        · exact .inr ⟨h1, h2, (p : Int), .inr rfl, by rw [h2]; exact HPN.out⟩
                      · rintro (h | ⟨h1, h2, q, h3 | h3, h4⟩)
                        · exact .inl (.inl h)
                        · exact .inl (.inr ⟨h1, h2, q, h3, h4⟩)
                        · exact .inr ⟨h1, h2⟩)⟩, HD, HQ, HV, HRW, HNW, HO⟩
                    case measure => simp [intOf]; omega
                  · have hxe : ((x : Int) == (y : Int)) = false := beq_eq_false_iff_ne.2 (by omega)
                    obtain ⟨oky, uy, hcy, hRy, hoky, _⟩ := H.S_holeG HD.out HYD.out
                    obtain ⟨dy, hdy⟩ : ∃ dy, DL.getD y [] = dy := ⟨_, rfl⟩
                    rw [hdy] at hRy hfp hdr
                    obtain ⟨AY, cY, rfl⟩ := Kd.R_slice hRy
                    have HDY := Aside0.mk hRy
                    have HDYL := Aside0.mk (show dy.length ≤ 1048576 by omega)
                    have HCY := Aside0.mk hcy
                    obtain ⟨b2, hb2⟩ : ∃ b, decide ((x : Int) ∈ dy) = b := ⟨_, rfl⟩
                    have HB2 := Aside0.mk hb2
                    clear hRy hoky hdy hcy
                    cases b2 with
                    | true =>
                      have HPN := Aside0.mk (show ¬ Q.froP l0_0 x (y : Int) (p : Int) from fun h => (hfp.1 h).2.elim (fun e => hxy (by omega)) (fun e => e (of_decide_eq_true hb2)))
                      clear hfp hb1 hb2 hxp hxy
                      go_wp2_with (go_at_call 43; first | (with_reducible refine (has_any (dp) HDPL.out _ _ (x : Int) _ (Kd.R_reads' HDP.out).2.2 (Kd.R_reads' HDP.out).2.1).mono ?_; rw [HB1.out]; rintro e w2 ⟨rfl, hd⟩; replace HD := Aside0.mk (Kd.S_below HD.out hd.below); replace HQ := Aside0.mk (Kd.S_below HQ.out hd.below); replace HV := Aside0.mk (Kd.R_below HV.out hd.below); replace HNW := Aside0.mk (Nat.le_trans HNW.out (hd.below).size); replace HRW := Aside0.mk (Kd.R_below HRW.out hd.below); replace HO := Aside0.mk (HO.out.step hd.below); replace HS := Aside0.mk (Kd.S_below HS.out hd.below); replace HDY := Aside0.mk (Kd.R_below HDY.out hd.below); have hcy := pw_cell_below hd.below HCY.out; clear hcp hc3 HB1; clear hd) | (refine (has_any (dy) HDYL.out _ _ (x : Int) _ (Kd.R_reads' HDY.out).2.2 (Kd.R_reads' HDY.out).2.1).mono ?_; rw [HB2.out]; rintro e w2 ⟨rfl, hd⟩; replace HD := Aside0.mk (Kd.S_below HD.out hd.below); replace HQ := Aside0.mk (Kd.S_below HQ.out hd.below); replace HV := Aside0.mk (Kd.R_below HV.out hd.below); replace HNW := Aside0.mk (Nat.le_trans HNW.out (hd.below).size); replace HRW := Aside0.mk (Kd.R_below HRW.out hd.below); replace HO := Aside0.mk (HO.out.step hd.below); replace HS := Aside0.mk (Kd.S_below HS.out hd.below); clear hcy; clear hd))
                      go_roundw
                      case rel => exact ⟨j + 1, xs, by go_num, by omega, HS, ⟨HREL.out.congr (fun b _ yy => by
                        rw [HTK2.out]
                        simp only [List.mem_append, List.mem_singleton]
                        constructor
                        · rintro (h | ⟨h1, h2, q, h3, h4⟩)
                          · exact .inl h
                          · exact .inr ⟨h1, h2, q, .inl h3, h4⟩
                        · rintro (h | ⟨h1, h2, q, h3 | h3, h4⟩)
                          · exact .inl h
                          · exact .inr ⟨h1, h2, q, h3, h4⟩
                          · exact absurd h4 (by rw [h2, h3]; exact HPN.out))⟩, HD, HQ, HV, HRW, HNW, HO⟩
                      case measure => simp [intOf]; omega
                    | false =>
                      have HPN := Aside0.mk (show Q.froP l0_0 x (y : Int) (p : Int) from hfp.2 ⟨hxp, .inr (of_decide_eq_false hb2)⟩)
                      clear hfp hb1 hb2 hxp hxy
                      obtain ⟨oki, u, hu, hRu, hoki, hH⟩ := H.S_holeG HS.out HXN.out
                      have hgt := Kd.S_typed HS.out gs (by simp [Value.ownBlock])
                      have HRU := Aside0.mk hRu
                      have HOK := Aside0.mk hoki
                      have HH := Aside0.mk hH
                      have HGT := Aside0.mk hgt
                      have HU := Aside0.mk hu
                      have HXL := Aside0.mk (show (xs.getD x []).length ≤ 1048576 by
                        have := HREL.out.len12 (fun b hb yy h => by
                          have hn2 := HN12.out
                          rcases h with (h | h) | h
                          · have := h.2.1; omega
                          · have := h.2.2.1; omega
                          · have := h.2.1; have := HYN.out; omega) HXN.out
                        omega)
                      clear hRu hoki hH hgt hu HS
                      go_wp2_with (first | (go_at_call 43; first | (with_reducible refine (has_any (dp) HDPL.out _ _ (x : Int) _ (Kd.R_reads' HDP.out).2.2 (Kd.R_reads' HDP.out).2.1).mono ?_; rw [HB1.out]; rintro e w2 ⟨rfl, hd⟩; replace HD := Aside0.mk (Kd.S_below HD.out hd.below); replace HQ := Aside0.mk (Kd.S_below HQ.out hd.below); replace HV := Aside0.mk (Kd.R_below HV.out hd.below); replace HNW := Aside0.mk (Nat.le_trans HNW.out (hd.below).size); replace HRW := Aside0.mk (Kd.R_below HRW.out hd.below); replace HO := Aside0.mk (HO.out.step hd.below); replace HRU := Aside0.mk (Kd.R_below HRU.out hd.below); replace HH := Aside0.mk (Kd.H_below HH.out hd.below); replace HGT := Aside0.mk (HGT.out.imp (fun cells hc => blk_below hc hd.below)); replace HU := Aside0.mk (pw_cell_below hd.below HU.out); replace HDY := Aside0.mk (Kd.R_below HDY.out hd.below); have hcy := pw_cell_below hd.below HCY.out; clear hcp hc3 HB1; clear hd) | (refine (has_any (dy) HDYL.out _ _ (x : Int) _ (Kd.R_reads' HDY.out).2.2 (Kd.R_reads' HDY.out).2.1).mono ?_; rw [HB2.out]; rintro e w2 ⟨rfl, hd⟩; replace HD := Aside0.mk (Kd.S_below HD.out hd.below); replace HQ := Aside0.mk (Kd.S_below HQ.out hd.below); replace HV := Aside0.mk (Kd.R_below HV.out hd.below); replace HNW := Aside0.mk (Nat.le_trans HNW.out (hd.below).size); replace HRW := Aside0.mk (Kd.R_below HRW.out hd.below); replace HO := Aside0.mk (HO.out.step hd.below); replace HRU := Aside0.mk (Kd.R_below HRU.out hd.below); replace HH := Aside0.mk (Kd.H_below HH.out hd.below); replace HGT := Aside0.mk (HGT.out.imp (fun cells hc => blk_below hc hd.below)); replace HU := Aside0.mk (pw_cell_below hd.below HU.out); have hu := HU.out; clear hcy; clear hd)) | (go_at_call 41; refine (put_any (xs.getD x []) HXL.out (y : Int) u _ w _ HO.out.below HRU.out).mono ?_; rintro e w3 ⟨v0, rfl, hv0, hb, hk⟩; obtain ⟨A0, c0, rfl⟩ := Kd.R_slice hv0; have HV0 := Aside0.mk hv0; have HPU := Aside0.mk (fun k (hk : some k = u.ownBlock) => HOK.out k (HRU.out.1 k hk.symm)); replace HH := Aside0.mk (H.hole_keptG HH.out hk (fun k hk => HRU.out.1 k hk.symm)); replace HRW := Aside0.mk (H.R_keptB HRW.out hk (fun k h1 h2 => by have a1 := HRW.out.1 k h1; have a2 := (HPU.out k h2); have := HNN.out; omega)); replace HV := Aside0.mk (H.R_keptB HV.out hk (fun k h1 h2 => by have a1 := HV.out.1 k h1; have a2 := (HPU.out k h2); have := HNN.out; omega)); replace HD := Aside0.mk (Kd.S_step HD.out (fun k hok hlt => hk.2 k hlt (fun h2 => by have a2 := HPU.out k h2; have := HNN.out; omega))); replace HQ := Aside0.mk (Kd.S_step HQ.out (fun k hok hlt => hk.2 k hlt (fun h2 => by have a2 := HPU.out k h2; have := HNN.out; omega))); replace HGT := Aside0.mk (HGT.out.imp (fun cells hc => (hk.2 gs (blk_lt hc) (Kd.R_ne HRU.out hc (by decide))).trans hc)); have HNW' := HNW; replace HNW := Aside0.mk (Nat.le_trans HNW.out hk.1); replace HO := Aside0.mk (HO.out.keptU HRU.out hk hb (by simp)); clear hv0 hb hk hu) | ((with_reducible refine gate_store (t := 32) (p := 68) rfl ?_); refine H.own_eputG HO.out HH.out HV0.out (Nat.le_refl _) (fun q hq => by rcases HV0.out.1 q hq with h | h; exact .inl (HRU.out.1 q h.symm); exact .inr ⟨.inr (Nat.le_trans HNW'.out h), h⟩) rfl rfl rfl rfl rfl HII.out HXN.out HGS0.out HGT.out (by simp) ?_; intro w_ ho_ hs_ hg_; replace HRW := Aside0.mk (Kd.R_step HRW.out (fun k hok hlt => hg_.block k hlt (fun he => by injection he with he; have := HGS1.out; have := HNN.out; omega))); replace HV := Aside0.mk (Kd.R_step HV.out (fun k hok hlt => hg_.block k hlt (fun he => by injection he with he; have := HGS1.out; have := HNN.out; omega))); replace HD := Aside0.mk (Kd.S_step HD.out (fun k hok hlt => hg_.block k hlt (fun he => by injection he with he; have := HGS1.out; have := HNN.out; omega))); replace HQ := Aside0.mk (Kd.S_step HQ.out (fun k hok hlt => hg_.block k hlt (fun he => by injection he with he; have := HGS1.out; have := HNN.out; omega))); replace HNW := Aside0.mk (Nat.le_trans HNW.out hg_.size); have HS := Aside0.mk hs_; replace HO := Aside0.mk ho_; clear ho_ hs_ hg_))
                      go_roundw
                      case rel => exact ⟨j + 1, _, by go_num, by omega, HS, ⟨(HREL.out.put HXN.out (y : Int)).congr (fun b _ yy => by
                        rw [HTK2.out]
                        simp only [List.mem_append, List.mem_singleton]
                        constructor
                        · rintro ((h | ⟨h1, h2, q, h3, h4⟩) | ⟨h1, h2⟩)
                          · exact .inl h
                          · exact .inr ⟨h1, h2, q, .inl h3, h4⟩
                          · exact .inr ⟨h1, h2, (p : Int), .inr rfl, by rw [h2]; exact HPN.out⟩
                        · rintro (h | ⟨h1, h2, q, h3 | h3, h4⟩)
                          · exact .inl (.inl h)
                          · exact .inl (.inr ⟨h1, h2, q, h3, h4⟩)
                          · exact .inr ⟨h1, h2⟩)⟩, HD, HQ, HV, HRW, HNW, HO⟩
                      case measure => simp [intOf]; omega
              · have hE : j = row.length := by omega
                subst hE
                go_wp2
                go_roundw
                case rel => exact ⟨y + 1, xs, by go_num, by omega, HS, ⟨HREL.out.congr (fun b _ yy => by
                  rw [List.take_length]
                  constructor
                  · rintro ((h | h) | ⟨h1, h2, h3⟩)
                    · exact .inl h
                    · exact .inr ⟨h.1, by have := h.2.1; omega, h.2.2⟩
                    · subst h1 h2
                      exact .inr ⟨rfl, by omega, HFAY.out.2 h3⟩
                  · rintro (h | ⟨h1, h2, h3⟩)
                    · exact .inl (.inl h)
                    · by_cases e : yy = (y : Int)
                      · subst h1 e
                        exact .inr ⟨rfl, rfl, HFAY.out.1 h3⟩
                      · exact .inl (.inr ⟨h1, by omega, h3⟩))⟩, HD, HQ, HV, HNW, HO⟩
                case measure => simp [intOf]; omega
          · have hE : y = l0_0.length := by omega
            subst hE
            go_wp2
            go_roundw
            case rel => exact ⟨i + 1, xs, by go_num, by omega, HS, ⟨HREL.out.congr (fun b _ yy => by
              rw [HTK.out]
              simp only [List.mem_append, List.mem_singleton]
              constructor
              · rintro (h | h)
                · exact ⟨.inl h.1, h.2⟩
                · exact ⟨.inr (by omega), h.2.2⟩
              · rintro ⟨h | h, h2⟩
                · exact .inl ⟨h, h2⟩
                · exact .inr ⟨by omega, by have := h2.1; have := HPL.out; omega, h2⟩)⟩, HD, HQ, HV, HNW, HO⟩
            case measure => simp [intOf]; omega
      · have hE : i = R.length := by omega
        subst hE
        have hfin : xs = Q.froL l0_0 := by
          refine (HREL.out.congr (fun b _ y => ?_)).uniq (Q.froL_rel HN12.out)
          rw [List.take_length]
          exact ⟨fun h => h.2, fun h => ⟨HRD.out ▸ Q.froM_in HG.out h, h⟩⟩
        subst hfin
        go_wp2
        go_ret
        exact ⟨_, rfl, Kd.S_mono HS.out (fun _ _ => trivial), HO.out.below⟩
end Go.Proofs.Ytndkblahnihhjaa.P

namespace Go.Proofs.Ytndkblahnihhjaa.P
open Go.RowKit Go.Proofs.YtndkblahnihhjaaW.PrintWords Go.Proofs.YtndkblahnihhjaaW.PrintLast Go.Proofs.YtndkblahnihhjaaW.PrintMore
attribute [local go_sem] max2_int min2_int max_two min_two max_three min_three max_four min_four
def spec_l11Joins.f (l0_0 : List (List Int)) (l1 : List Int) : Option (List Int) := if H.goodG l0_0 && Q.inRow l0_0.length l1 then some (listTo (Q.joinsF (Q.froL l0_0) l1) 12) else none
set_option maxHeartbeats 8000000 in
set_option maxRecDepth 100000 in
theorem spec_l11Joins.calls (A0_0 : Option Addr) (c0_0 : Nat) (l0_0 : List (List Int)) (A1 : Option Addr) (c1 : Nat) (l1 : List Int) (r : List Int) (w : World) (hr0_0 : Kd.C (Kd.slice 3 (Kd.int .i64)) w A0_0 l0_0.length l0_0) (hc0_0 : l0_0.length ≤ c0_0) (hr1 : Kd.C (Kd.int .i64) w A1 l1.length l1) (hc1 : l1.length ≤ c1) (h : spec_l11Joins.f l0_0 l1 = some r) :
    Calls Try.prog 42 #[.agg #[.slice A0_0 l0_0.length c0_0], .slice A1 l1.length c1] w fun e w' => ∃ v0_ : Value, e = .returned (v0_) ∧ Kd.R (Kd.int .i64) 3 w' w.heap.size (fun _ => True) v0_ r ∧ Below w.heap.size w w' := by
  unfold spec_l11Joins.f at h
  cases hG : H.goodG l0_0 with
  | false => rw [hG] at h; exact absurd h (by simp)
  | true =>
    rw [hG, Bool.true_and] at h
    cases hI : Q.inRow l0_0.length l1 with
    | false => rw [hI] at h; exact absurd h (by simp)
    | true =>
    rw [hI, if_pos rfl] at h
    obtain rfl := Option.some.inj h
    have hr := H.goodG_rows hG
    have hn1 : 1 ≤ l0_0.length := hr.1.1
    have hn2 : l0_0.length ≤ 12 := hr.1.2
    obtain ⟨hrng, hl12⟩ := Q.inRow_all hI
    have HR0 := Aside0.mk hr0_0
    have HC0 := Aside0.mk hc0_0
    have HR1 := Aside0.mk hr1
    have HO := Aside0.mk (H.Own.nil w)
    have HFC := Aside0.mk (fun (W : World) (hb : Below w.heap.size w W) => spec_l11Frontier.calls A0_0 c0_0 l0_0 (Q.froL l0_0) W (Kd.C_below HR0.out hb) HC0.out (by unfold spec_l11Frontier.f; rw [hG, if_pos rfl]))
    have hrow := Q.froL_row (g := l0_0) hn2
    have hrow12 := Q.froL_row12 (g := l0_0) hn2
    have hfl : (Q.froL l0_0).length = l0_0.length := by unfold Q.froL H.froF; rw [List.length_map, H.matF_len]
    have HDONE := Aside0.mk (fun acc => Q.JSnd.done (acc := acc) hrow12 (fun y hy => ⟨(hrng y hy).1, by have := (hrng y hy).2; omega⟩) hl12)
    have HLEN := Aside0.mk (fun acc (h : Q.JSnd (Q.froL l0_0) l1 acc) => h.len hrow12)
    have HJR := Aside0.mk (fun y (h : Q.Jn (Q.froL l0_0) l1 y) => h.rng hrow)
    obtain ⟨FL, hFL⟩ : ∃ FL, Q.froL l0_0 = FL := ⟨_, rfl⟩
    rw [hFL] at HFC hfl HDONE HLEN HJR hrow ⊢
    obtain ⟨fin, hfin⟩ : ∃ fin, listTo (Q.joinsF FL l1) 12 = fin := ⟨_, rfl⟩
    rw [hfin] at HDONE ⊢
    have HRNG := Aside0.mk hrng
    have HROW := Aside0.mk hrow
    clear hr0_0 hc0_0 hr1 hG hI h hr hrng hrow hrow12 hFL hfin
    go_enter Try.func42, Try.ntmps42
    go_wp2_with (first | ((with_reducible refine gate_dst (N := 2) rfl ?_); refine H.own_box HO.out ?bxg (N := 2) ?bxd (cs := #[Value.slice A0_0 l0_0.length c0_0]) (t := 28) ?bxr ?_; (case bxd => rfl); (case bxg => rfl); (case bxr => first | (go_simp; done) | (go_simp; rfl)); intro gp w_ ho_ hb_; replace HO := Aside0.mk ho_; clear ho_ hb_) | ((with_reducible refine gate_dst (N := 12) rfl ?_); refine wpList_load_row rfl 28 (.tmp 2) rfl _ rfl 28 _ (0, 0) _ (HO.out.get 0 rfl) Try.underlying28 rfl (by kernel_rfl) ?_) | (go_at_call 64; refine (HFC.out _ HO.out.below).mono ?_; rintro e w' ⟨vd, rfl, hv, hb⟩; obtain ⟨gd, cd, rfl, _, _, _⟩ := Kd.S_form hv (by omega); rw [hfl] at hv; obtain ⟨N0, hN0⟩ : ∃ N0, w'.heap.size = N0 := ⟨_, rfl⟩; have HD := Aside0.mk (Kd.S_lower (Kd.S_mono (ok' := fun k => k < N0) (H.S_upto hv) (fun k hk => hN0 ▸ hk.2)) HO.out.size); have HNW := Aside0.mk (Nat.le_of_eq hN0.symm); replace HO := Aside0.mk (HO.out.step hb); clear hv hb hN0))
    clear hfl
    go_loopw [6] (fun v6 wr => ∃ acc, Aside0 (Q.JSnd FL l1 acc) ∧ Aside0 ((Kd.int .i64).R 3 wr w.heap.size (fun k => N0 ≤ k) v6 acc) ∧ Aside0 (Kd.S (Kd.slice 3 (Kd.int .i64)) 32 wr w.heap.size (fun k => k < N0) (.slice (some ⟨gd, 0, none⟩) l0_0.length cd) FL) ∧ Aside0 (N0 ≤ wr.heap.size) ∧ Aside0 (H.Own w wr [(gp, #[Value.slice A0_0 l0_0.length c0_0], 28)])) (fun v6 _ => 13 - Q.sliceLen v6)
    case atStart => exact ⟨[], ⟨Q.JSnd.nil _ _⟩, ⟨Kd.R_nil _ _ _ _ _⟩, HD, HNW, HO⟩
    case round =>
      clear HO HD HNW
      obtain ⟨acc, HJ, HV, HD, HN01, HO⟩ := hrel
      obtain ⟨AO, cO, rfl⟩ := Kd.R_slice HV.out
      have hal := HLEN.out acc HJ.out
      have HAL := Aside0.mk hal
      obtain ⟨N1, hN1⟩ : ∃ N1, wr.heap.size = N1 := ⟨_, rfl⟩
      rw [hN1] at HN01
      have HN1 := Aside0.mk (Nat.le_of_eq hN1.symm)
      replace HV := Aside0.mk (Kd.R_mono (ok' := fun k => N0 ≤ k ∧ k < N1) (Kd.R_tight rfl HV.out) (fun k hk => ⟨HV.out.1 k hk.symm, by rw [← hN1]; exact Kd.R_lt HV.out k hk.symm⟩))
      clear hN1
      go_wp2_with (first | ((with_reducible refine gate_dst (N := 16) rfl ?_); refine Kd.R_lit (Kd.int .i64) (w0 := w) w.heap.size 3 ?bxg (N := 16) ?bxd (xs := ([] : List Int)) (inner := []) (ok := fun k => N1 ≤ k) (okp := fun k => N1 ≤ k) ?bxr ?bxp (fun _ hk => hk) HN1.out HO.out.below HO.out.size (by simp) ?_; (case bxd => rfl); (case bxg => rfl); (case bxr => first | (go_simp; done) | (go_simp; rfl)); (case bxp => exact Reps.none _ _); intro v16 w_ ho_ hb_ hg_ hnew_; replace HD := Aside0.mk (Kd.S_step HD.out (fun k hok hlt => hg_.block k hlt (fun he => by cases he))); replace HV := Aside0.mk (Kd.R_step HV.out (fun k hok hlt => hg_.block k hlt (fun he => by cases he))); replace HO := Aside0.mk (HO.out.grown hg_ (fun k hk => by cases hk)); replace HN1 := Aside0.mk (Nat.le_trans HN1.out hg_.size); have HE := Aside0.mk ho_; clear ho_ hb_ hg_ hnew_) | ((with_reducible refine gate_builtin (b := .append) (xs := #[.tmp 16, .tmp 17]) rfl ?_); at_builtin; refine Kd.R_append_rows (Kd.int .i64) (w0 := w) w.heap.size rfl (.tmp 16) (.tmp 17) 32 3 (.int .i64 0) 8 rfl Try.underlying32 info3 rfl (by decide) (by omega) v16 [] l1 _ _ _ (fun k => N1 ≤ k) (fun _ => False) rfl rfl ?aO ?aR (fun _ _ h => h) (fun _ h => h.elim) ?aF ?aB ?aS ?aL ?_; (case aO => exact HE.out); (case aR => exact Kd.C_below HR1.out HO.out.below); (case aF => exact fun k hk => Nat.le_trans HN1.out hk); (case aB => exact HO.out.below); (case aS => exact HO.out.size); (case aL => (first | (simp only [List.length_nil]; omega) | (simp only [List.length_append, List.length_nil]; omega))); intro v18 w_ ho_ hb_ hg_ hat_; replace HD := Aside0.mk (Kd.S_step HD.out (fun k hok hlt => hg_.block k hlt (fun he => by have := HE.out.1 k he.symm; have := HN01.out; omega))); replace HV := Aside0.mk (Kd.R_step HV.out (fun k hok hlt => hg_.block k hlt (fun he => by have := HE.out.1 k he.symm; omega))); replace HO := Aside0.mk (HO.out.row HE.out (Nat.le_refl _) hg_ (by simp)); replace HN1 := Aside0.mk (Nat.le_trans HN1.out hg_.size); have HF1 := Aside0.mk ho_; clear ho_ hb_ hg_ hat_ HE) | ((with_reducible refine gate_builtin (b := .append) (xs := #[.tmp 18, .tmp 19]) rfl ?_); at_builtin; refine Kd.R_append_rows (Kd.int .i64) (w0 := w) w.heap.size rfl (.tmp 18) (.tmp 19) 32 3 (.int .i64 0) 8 rfl Try.underlying32 info3 rfl (by decide) (by omega) v18 ([] ++ l1) acc _ _ _ (fun k => N1 ≤ k) (fun _ => False) rfl rfl ?bO ?bR (fun _ _ h => h) (fun _ h => h.elim) ?bF ?bB ?bS ?bL ?_; (case bO => exact HF1.out); (case bR => exact (Kd.R_reads' HV.out).2.2); (case bF => exact fun k hk => Nat.le_trans HN1.out hk); (case bB => exact HO.out.below); (case bS => exact HO.out.size); (case bL => (first | (simp only [List.length_nil]; omega) | (simp only [List.length_append, List.length_nil]; omega))); intro v20 w_ ho_ hb_ hg_ hat_; rw [List.nil_append] at ho_; obtain ⟨q, hq⟩ : ∃ q, l1 ++ acc = q := ⟨_, rfl⟩; rw [hq] at ho_; obtain ⟨AQ, cQ, rfl⟩ := Kd.R_slice ho_; have HQE := Aside0.mk hq; clear hq; replace HD := Aside0.mk (Kd.S_step HD.out (fun k hok hlt => hg_.block k hlt (fun he => by have := HF1.out.1 k he.symm; have := HN01.out; omega))); replace HV := Aside0.mk (Kd.R_step HV.out (fun k hok hlt => hg_.block k hlt (fun he => by have := HF1.out.1 k he.symm; omega))); replace HO := Aside0.mk (HO.out.row HF1.out (Nat.le_refl _) hg_ (by simp)); replace HN1 := Aside0.mk (Nat.le_trans HN1.out hg_.size); have HF2 := Aside0.mk ho_; clear ho_ hb_ hg_ hat_ HF1))
      obtain ⟨N2, hN2⟩ : ∃ N2, w_.heap.size = N2 := ⟨_, rfl⟩
      have HQ := Aside0.mk (Kd.R_mono (ok' := (fun k => N1 ≤ k ∧ k < N2)) (Kd.R_tight rfl HF2.out) (fun k hk => ⟨HF2.out.1 k hk.symm, by rw [← hN2]; exact Kd.R_lt HF2.out k hk.symm⟩))
      have HN12 := Aside0.mk (show N1 ≤ N2 by rw [← hN2]; exact HN1.out)
      have HNW := Aside0.mk (Nat.le_of_eq hN2.symm)
      replace HV := Aside0.mk (Kd.R_mono (ok' := (fun k => (N0 ≤ k ∧ k < N1) ∨ N2 ≤ k)) HV.out (fun k hk => .inl hk))
      have HQR := Aside0.mk (show ∀ x ∈ l1 ++ acc, 0 ≤ x ∧ x < (l0_0.length : Int) from fun x hx => by
        rcases List.mem_append.1 hx with h | h
        · exact HRNG.out x h
        · exact HJR.out x (HJ.out.snd x h))
      have HQJ := Aside0.mk (show ∀ x ∈ l1 ++ acc, ∀ y ∈ FL.getD x.toNat [], Q.Jn FL l1 y from fun x hx y hy => by
        rcases List.mem_append.1 hx with h | h
        · exact .one h hy
        · exact .on (HJ.out.snd x h) hy)
      have hq24 : (l1 ++ acc).length ≤ 24 := by rw [List.length_append]; omega
      rw [HQE.out] at HQR HQJ hq24
      clear hN2 HN1 HF2
      go_loopw [22, 6] (fun v22 v6 wr => ∃ (i : Nat) (acc2 : List Int), v22 = .int .i64 i ∧ i ≤ q.length ∧ Aside0 (Q.JSnd FL l1 acc2) ∧ Aside0 (∀ y ∈ acc, y ∈ acc2) ∧ Aside0 (∀ x ∈ q.take i, ∀ y ∈ FL.getD x.toNat [], y ∈ acc2) ∧ Aside0 ((Kd.int .i64).R 3 wr w.heap.size (fun k => (N0 ≤ k ∧ k < N1) ∨ N2 ≤ k) v6 acc2) ∧ Aside0 ((Kd.int .i64).R 3 wr w.heap.size (fun k => N1 ≤ k ∧ k < N2) (.slice AQ q.length cQ) q) ∧ Aside0 (Kd.S (Kd.slice 3 (Kd.int .i64)) 32 wr w.heap.size (fun k => k < N0) (.slice (some ⟨gd, 0, none⟩) l0_0.length cd) FL) ∧ Aside0 (N2 ≤ wr.heap.size) ∧ Aside0 (H.Own w wr [(gp, #[Value.slice A0_0 l0_0.length c0_0], 28)])) (fun v22 _ _ => q.length - (intOf v22).toNat)
      case atStart => exact ⟨0, acc, rfl, Nat.zero_le _, HJ, ⟨fun _ h => h⟩, ⟨fun x hx => by simp at hx⟩, HV, HQ, HD, HNW, HO⟩
      case round =>
        clear HO HV HQ HD HNW
        obtain ⟨i, acc2, rfl, hi, HJ2, HSUB, HCL, HV, HQ, HD, HNW, HO⟩ := hrel
        obtain ⟨AO2, cO2, rfl⟩ := Kd.R_slice HV.out
        by_cases hlt : i < q.length
        · obtain ⟨ad1, e1, hc1⟩ := Kd.at_int (Kd.R_reads' HQ.out).2.2 (i : Int) (by omega) (by omega)
          subst e1
          rw [Int.toNat_natCast] at hc1
          have hd : rd q (i : Int) = q.getD i 0 := rfl
          rw [hd] at hc1
          have htk : q.take (i + 1) = q.take i ++ [q.getD i 0] := by rw [List.take_add_one, List.getElem?_eq_getElem hlt, List.getD_eq_getElem?_getD, List.getElem?_eq_getElem hlt]; rfl
          have hmem : q.getD i 0 ∈ q := by rw [List.getD_eq_getElem?_getD, List.getElem?_eq_getElem hlt]; exact List.getElem_mem hlt
          have hin := HQR.out _ hmem
          have hqj := HQJ.out _ hmem
          obtain ⟨x, hx⟩ : ∃ x : Nat, q.getD i 0 = (x : Int) := ⟨(q.getD i 0).toNat, by omega⟩
          rw [hx] at hc1 htk hin hqj
          rw [Int.toNat_natCast] at hqj
          have HTK := Aside0.mk htk
          have hxn : (x : Int) < (l0_0.length : Int) := hin.2
          have hil : (i : Int) < (q.length : Int) := by omega
          obtain ⟨okr, ur, hur, hRr, hokr, _⟩ := H.S_holeG HD.out (show x < l0_0.length by omega)
          obtain ⟨row, hrow⟩ : ∃ row, FL.getD x [] = row := ⟨_, rfl⟩
          rw [hrow] at hRr hqj
          obtain ⟨AW, cW, rfl⟩ := Kd.R_slice hRr
          have HRW := Aside0.mk (Kd.R_mono (ok' := fun k => k < N0) hRr hokr)
          have HRJ := Aside0.mk hqj
          have hrl64 := (Kd.C_below (Kd.R_reads' HRW.out).2.2 (Below.refl _ _)).2.1
          have HRE := Aside0.mk hrow
          clear hd htk hmem hin hqj hx hRr hokr hrow
          go_wp2
          go_loopw [31, 6] (fun v31 v6 wr => ∃ (j : Nat) (acc3 : List Int), v31 = .int .i64 j ∧ j ≤ row.length ∧ Aside0 (Q.JSnd FL l1 acc3) ∧ Aside0 (∀ y ∈ acc2, y ∈ acc3) ∧ Aside0 (∀ y ∈ row.take j, y ∈ acc3) ∧ Aside0 ((Kd.int .i64).R 3 wr w.heap.size (fun k => (N0 ≤ k ∧ k < N1) ∨ N2 ≤ k) v6 acc3) ∧ Aside0 ((Kd.int .i64).R 3 wr w.heap.size (fun k => N1 ≤ k ∧ k < N2) (.slice (some ad1) q.length cQ) q) ∧ Aside0 (Kd.S (Kd.slice 3 (Kd.int .i64)) 32 wr w.heap.size (fun k => k < N0) (.slice (some ⟨gd, 0, none⟩) l0_0.length cd) FL) ∧ Aside0 ((Kd.int .i64).R 3 wr w.heap.size (fun k => k < N0) (.slice AW row.length cW) row) ∧ Aside0 (N2 ≤ wr.heap.size) ∧ Aside0 (H.Own w wr [(gp, #[Value.slice A0_0 l0_0.length c0_0], 28)])) (fun v31 _ _ => row.length - (intOf v31).toNat)
          case atStart => exact ⟨0, acc2, rfl, Nat.zero_le _, HJ2, ⟨fun _ h => h⟩, ⟨fun x hx => by simp at hx⟩, HV, HQ, HD, HRW, HNW, HO⟩
          case round =>
            clear HO HV HQ HD HNW HRW hc1 hur
            obtain ⟨j, acc3, rfl, hj, HJ3, HSB3, HC3, HV, HQ, HD, HRW, HNW, HO⟩ := hrel
            obtain ⟨AO3, cO3, rfl⟩ := Kd.R_slice HV.out
            have hl3 := HLEN.out acc3 HJ3.out
            have HL3 := Aside0.mk (show acc3.length ≤ 1048576 by omega)
            by_cases hlt2 : j < row.length
            · obtain ⟨ad2, e2, hc2⟩ := Kd.at_int (Kd.R_reads' HRW.out).2.2 (j : Int) (by omega) (by omega)
              subst e2
              rw [Int.toNat_natCast] at hc2
              have hd : rd row (j : Int) = row.getD j 0 := rfl
              rw [hd] at hc2
              have htk : row.take (j + 1) = row.take j ++ [row.getD j 0] := by rw [List.take_add_one, List.getElem?_eq_getElem hlt2, List.getD_eq_getElem?_getD, List.getElem?_eq_getElem hlt2]; rfl
              have hmem : row.getD j 0 ∈ row := by rw [List.getD_eq_getElem?_getD, List.getElem?_eq_getElem hlt2]; exact List.getElem_mem hlt2
              have HJY := Aside0.mk (HRJ.out _ hmem)
              have HTK2 := Aside0.mk htk
              have hjl : (j : Int) < (row.length : Int) := by omega
              generalize row.getD j 0 = y at hc2 HJY HTK2
              clear hd htk hmem
              go_wp2_with (go_at_call 41; refine (put_any acc3 HL3.out y (.slice AO3 acc3.length cO3) _ w _ HO.out.below HV.out).mono ?_; rintro e w3 ⟨v0, rfl, hv0, hb, hk⟩; have HPU := Aside0.mk (fun k (hk : some k = (Value.slice AO3 acc3.length cO3).ownBlock) => HV.out.1 k hk.symm); replace HRW := Aside0.mk (H.R_keptB HRW.out hk (fun k h1 h2 => by have a1 := HRW.out.1 k h1; have a2 := (HPU.out k h2); have := HN01.out; have := HN12.out; omega)); replace HQ := Aside0.mk (H.R_keptB HQ.out hk (fun k h1 h2 => by have a1 := HQ.out.1 k h1; have a2 := (HPU.out k h2); have := HN01.out; have := HN12.out; omega)); replace HD := Aside0.mk (Kd.S_step HD.out (fun k hok hlt => hk.2 k hlt (fun h2 => by have a2 := HPU.out k h2; have := HN01.out; have := HN12.out; omega))); replace HO := Aside0.mk (HO.out.keptU HV.out hk hb (by simp)); replace HV := Aside0.mk (Kd.R_mono (ok' := (fun k => (N0 ≤ k ∧ k < N1) ∨ N2 ≤ k)) hv0 (fun k hk' => hk'.elim (fun h => HPU.out k h) (fun h => .inr (Nat.le_trans HNW.out h)))); replace HNW := Aside0.mk (Nat.le_trans HNW.out hk.1); clear hv0 hb hk hc2)
              go_roundw
              case rel => exact ⟨j + 1, _, by go_num, by omega, ⟨HJ3.out.put HJY.out⟩, ⟨fun z hz => (Q.putL_mem _ _ _).2 (.inl (HSB3.out z hz))⟩, ⟨fun z hz => by
                rw [HTK2.out] at hz
                rcases List.mem_append.1 hz with h | h
                · exact (Q.putL_mem _ _ _).2 (.inl (HC3.out z h))
                · exact (Q.putL_mem _ _ _).2 (.inr (List.mem_singleton.1 h))⟩, HV, HQ, HD, HRW, HNW, HO⟩
              case measure => simp [intOf]; omega
            · have hE : j = row.length := by omega
              subst hE
              go_wp2
              go_roundw
              case rel => exact ⟨i + 1, acc3, by go_num, by omega, HJ3, ⟨fun z hz => HSB3.out z (HSUB.out z hz)⟩, ⟨fun z hz z2 hz2 => by
                rw [HTK.out] at hz
                rcases List.mem_append.1 hz with h | h
                · exact HSB3.out _ (HCL.out z h z2 hz2)
                · rw [List.mem_singleton.1 h, Int.toNat_natCast, HRE.out] at hz2
                  exact HC3.out z2 (by rw [List.take_length]; exact hz2)⟩, HV, HQ, HD, HNW, HO⟩
              case measure => simp [intOf]; omega
        · have hE : i = q.length := by omega
          subst hE
          have hgrow := HJ.out.grow HJ2.out HSUB.out
          have hl2 := HLEN.out acc2 HJ2.out
          have hsame := HJ.out.same HJ2.out HSUB.out
          by_cases e : acc2.length = acc.length
          · have e2 := hsame e
            subst e2
            have HF := Aside0.mk (HDONE.out acc2 HJ.out (fun x hx y hy => HCL.out x (by rw [List.take_length, ← HQE.out]; exact hx) y hy))
            clear hgrow hsame
            go_wp2
            go_ret
            exact ⟨_, rfl, by rw [← HF.out]; exact Kd.R_mono HV.out (fun _ _ => trivial), HO.out.below⟩
          · have e3 : ((acc2.length : Int) == (acc.length : Int)) = false := beq_eq_false_iff_ne.2 (by omega)
            clear hsame
            go_wp2
            go_roundw
            case rel => exact ⟨acc2, HJ2, ⟨Kd.R_mono HV.out (fun k hk => by have := HN01.out; have := HN12.out; omega)⟩, HD, ⟨by have := HN01.out; have := HN12.out; have := HNW.out; omega⟩, HO⟩
            case measure => simp [Q.sliceLen]; omega
end Go.Proofs.Ytndkblahnihhjaa.P

namespace Go.Proofs.Ytndkblahnihhjaa.P
open Go.RowKit Go.Proofs.YtndkblahnihhjaaW.PrintWords Go.Proofs.YtndkblahnihhjaaW.PrintLast Go.Proofs.YtndkblahnihhjaaW.PrintMore
attribute [local go_sem] max2_int min2_int max_two min_two max_three min_three max_four min_four
def spec_JoinsOf.f (k : Nat) (l0_0 : List (List Int)) (l1 : List Int) : Option (List Int × Bool) := (spec_GoodGraph.f k l0_0).bind fun t242 => (if t242 = true then ((spec_l11Blocks.f k l0_0 l1).bind fun t243 => (if t243 = true then ((spec_l1Has.f k l1 0).bind fun t244 => (if t244 = true then ((spec_l11Joins.f l0_0 l1).bind fun t245 => (some (t245, true))) else (some (([] : List Int), false)))) else (some (([] : List Int), false)))) else (some (([] : List Int), false)))
theorem spec_JoinsOf.mono : ∀ a0 a1 k, LeO (spec_JoinsOf.f k a0 a1) (spec_JoinsOf.f (k + 1) a0 a1) := by
  intro a0 a1 k
  unfold spec_JoinsOf.f
  repeat' first
      | (with_reducible exact spec_GoodGraph.mono _ _)
      | (with_reducible exact spec_l11Blocks.mono _ _ _)
      | (with_reducible exact spec_l1Has.mono _ _ _)
      | (with_reducible exact LeO.refl _)
      | (with_reducible exact LeO.none _)
      | (with_reducible refine LeO.ite ?_ ?_)
      | (with_reducible refine LeO.bind ?_ (fun _ => ?_))
      | exact spec_GoodGraph.mono _ _
      | exact spec_l11Blocks.mono _ _ _
      | exact spec_l1Has.mono _ _ _
      | exact LeO.none _
      | refine LeO.ite ?_ ?_
      | refine LeO.bind ?_ (fun _ => ?_)
set_option maxHeartbeats 8000000 in
set_option maxRecDepth 100000 in
theorem spec_JoinsOf.calls (k : Nat) (A0_0 : Option Addr) (c0_0 : Nat) (l0_0 : List (List Int)) (A1 : Option Addr) (c1 : Nat) (l1 : List Int) (r1 : List Int) (r2 : Bool) (w : World) (hr0_0 : Kd.C (Kd.slice 3 (Kd.int .i64)) w A0_0 l0_0.length l0_0) (hc0_0 : l0_0.length ≤ c0_0) (hr1 : Kd.C (Kd.int .i64) w A1 l1.length l1) (hc1 : l1.length ≤ c1) (h : spec_JoinsOf.f k l0_0 l1 = some (r1, r2)) :
    Calls Try.prog 13 #[.agg #[.slice A0_0 l0_0.length c0_0], .slice A1 l1.length c1] w fun e w' => ∃ v0_ : Value, e = .returned (.tuple #[v0_, .bool r2]) ∧ Kd.R (Kd.int .i64) 3 w' w.heap.size (fun _ => True) v0_ r1 ∧ Below w.heap.size w w' := by
  have hu28 := Try.underlying28
  have HR0_0 := Aside0.mk hr0_0
  have HC0_0 := Aside0.mk hc0_0
  clear hr0_0 hc0_0
  have HR1 := Aside0.mk hr1
  have HC1 := Aside0.mk hc1
  clear hr1 hc1
  have HB := Aside0.mk (Below.refl w.heap.size w)
  have H : ((spec_GoodGraph.f k l0_0).bind fun t242 => (if t242 = true then ((spec_l11Blocks.f k l0_0 l1).bind fun t243 => (if t243 = true then ((spec_l1Has.f k l1 0).bind fun t244 => (if t244 = true then ((spec_l11Joins.f l0_0 l1).bind fun t245 => (some (t245, true))) else (some (([] : List Int), false)))) else (some (([] : List Int), false)))) else (some (([] : List Int), false)))) = some (r1, r2) := h
  clear h
  replace H := Option.bind_eq_some_iff.mp H
  obtain ⟨t242, A30, H⟩ := H
  replace H : (if t242 = true then ((spec_l11Blocks.f k l0_0 l1).bind fun t243 => (if t243 = true then ((spec_l1Has.f k l1 0).bind fun t244 => (if t244 = true then ((spec_l11Joins.f l0_0 l1).bind fun t245 => (some (t245, true))) else (some (([] : List Int), false)))) else (some (([] : List Int), false)))) else (some (([] : List Int), false))) = some (r1, r2) := H
  have A3 := Aside0.mk A30
  clear A30
  by_cases c4 : t242 = true
  · subst c4
    have H1 : ((spec_l11Blocks.f k l0_0 l1).bind fun t243 => (if t243 = true then ((spec_l1Has.f k l1 0).bind fun t244 => (if t244 = true then ((spec_l11Joins.f l0_0 l1).bind fun t245 => (some (t245, true))) else (some (([] : List Int), false)))) else (some (([] : List Int), false)))) = some (r1, r2) := by rw [if_pos rfl] at H; exact H
    clear H
    have H := H1
    clear H1
    replace H := Option.bind_eq_some_iff.mp H
    obtain ⟨t243, A50, H⟩ := H
    replace H : (if t243 = true then ((spec_l1Has.f k l1 0).bind fun t244 => (if t244 = true then ((spec_l11Joins.f l0_0 l1).bind fun t245 => (some (t245, true))) else (some (([] : List Int), false)))) else (some (([] : List Int), false))) = some (r1, r2) := H
    have A5 := Aside0.mk A50
    clear A50
    by_cases c6 : t243 = true
    · subst c6
      have H1 : ((spec_l1Has.f k l1 0).bind fun t244 => (if t244 = true then ((spec_l11Joins.f l0_0 l1).bind fun t245 => (some (t245, true))) else (some (([] : List Int), false)))) = some (r1, r2) := by rw [if_pos rfl] at H; exact H
      clear H
      have H := H1
      clear H1
      replace H := Option.bind_eq_some_iff.mp H
      obtain ⟨t244, A70, H⟩ := H
      replace H : (if t244 = true then ((spec_l11Joins.f l0_0 l1).bind fun t245 => (some (t245, true))) else (some (([] : List Int), false))) = some (r1, r2) := H
      have A7 := Aside0.mk A70
      clear A70
      by_cases c8 : t244 = true
      · subst c8
        have H1 : ((spec_l11Joins.f l0_0 l1).bind fun t245 => (some (t245, true))) = some (r1, r2) := by rw [if_pos rfl] at H; exact H
        clear H
        have H := H1
        clear H1
        replace H := Option.bind_eq_some_iff.mp H
        obtain ⟨t245, A90, H⟩ := H
        replace H : (some (t245, true)) = some (r1, r2) := H
        have A9 := Aside0.mk A90
        clear A90
        simp only [Option.some.injEq, Prod.mk.injEq] at H
        obtain ⟨rfl, rfl⟩ := H
        go_enter Try.func13, Try.ntmps13
        go_wp2_with (first | ((with_reducible refine gate_dst (N := 2) rfl ?_); refine box_event ?hg (N := 2) ?hd (cs := #[.slice A0_0 l0_0.length c0_0]) (t := 28) ?hr ?_; (case hd => rfl); (case hg => rfl); (case hr => first | (go_simp; done) | (go_simp; rfl)); intro gb241 hg w10 hbox hb; have n0_ := Aside0.mk (below_step (by repeat (first | (with_reducible first | exact HB.out | apply below_alloc | apply pw_below_drewN | apply below_drew1) | exact HB.out)) hb); have n1_ := Aside0.mk (hbox); have n2_ := Aside0.mk ((by rw [hg]; exact (below_size (by repeat (first | (with_reducible first | exact HB.out | apply below_alloc | apply pw_below_drewN | apply below_drew1) | exact HB.out))) : w.heap.size ≤ gb241)); have n3_ := Aside0.mk ((by rw [hg]; exact (below_size (by repeat (first | (with_reducible first | exact HB.out | apply below_alloc | apply pw_below_drewN | apply below_drew1) | exact HB.out))) : w.heap.size ≤ gb241)); clear HB; have HB := n0_; have BK241 := n1_; have GW241 := n2_; have GE241 := n3_; clear n0_ n1_ n2_ n3_; clear hb hbox hg; have hcz11_0 : w10.cell? ⟨gb241, 0, none⟩ = some (.slice A0_0 l0_0.length c0_0) := (blk_cell BK241.out 0).trans rfl; have hfz11_0 := blk_frozen BK241.out 0) | ((with_reducible refine gate_callee (f := 39) rfl ?_); refine goesL_ (some 7) rfl rfl Try.func39 (by kernel_rfl) rfl #[.agg #[.slice A0_0 l0_0.length c0_0]] rfl (by (try simp only [List.map_toArray, List.map_cons, List.map_nil]); first | done | rfl | (simp only [List.length_drop, List.length_take]; rfl)) ?_; (with_reducible refine (spec_GoodGraph.calls k _ _ l0_0 true _ ?side1 ?side2 A3.out).mono ?_); (case side1 => repeat (first | exact (Kd.C_below HR0_0.out HB.out) | (with_reducible refine Kd.C_alloc ?_ _) | (with_reducible refine Kd.C_drewN ?_ _) | (with_reducible refine Kd.C_drew ?_))); (case side2 => exact HC0_0.out); rintro e w12 ⟨rfl, hb⟩; refine ⟨_, rfl, ?_⟩; have n0_ := Aside0.mk (blk_below (g := gb241) (o := .cells #[.slice A0_0 l0_0.length c0_0] 28 (0, 0)) (by (with_reducible repeat (first | refine blk_drewN ?_ _ | refine blk_drew ?_ | refine blk_alloc ?_ _)); exact BK241.out) hb); have n1_ := Aside0.mk (below_step (by repeat (first | (with_reducible first | exact HB.out | apply below_alloc | apply pw_below_drewN | apply below_drew1 | refine below_set ?_ GE241.out) | exact HB.out)) hb); clear BK241; clear HB; have BK241 := n0_; have HB := n1_; clear n0_ n1_; (try clear hb); (try clear hb2); (try clear hk); (try clear hi); have hcz13_0 : w12.cell? ⟨gb241, 0, none⟩ = some (.slice A0_0 l0_0.length c0_0) := (blk_cell BK241.out 0).trans rfl; have hfz13_0 := blk_frozen BK241.out 0) | (go_at_call 40; (with_reducible refine (spec_l11Blocks.calls k _ _ l0_0 _ _ l1 true _ ?side1 ?side2 ?side3 ?side4 A5.out).mono ?_); (case side1 => repeat (first | exact (Kd.C_below HR0_0.out HB.out) | (with_reducible refine Kd.C_alloc ?_ _) | (with_reducible refine Kd.C_drewN ?_ _) | (with_reducible refine Kd.C_drew ?_))); (case side2 => exact HC0_0.out); (case side3 => repeat (first | exact (Kd.C_below HR1.out HB.out) | (with_reducible refine Kd.C_alloc ?_ _) | (with_reducible refine Kd.C_drewN ?_ _) | (with_reducible refine Kd.C_drew ?_))); (case side4 => exact HC1.out); rintro e w14 ⟨rfl, hb⟩; have n0_ := Aside0.mk (blk_below (g := gb241) (o := .cells #[.slice A0_0 l0_0.length c0_0] 28 (0, 0)) (by (with_reducible repeat (first | refine blk_drewN ?_ _ | refine blk_drew ?_ | refine blk_alloc ?_ _)); exact BK241.out) hb); have n1_ := Aside0.mk (below_step (by repeat (first | (with_reducible first | exact HB.out | apply below_alloc | apply pw_below_drewN | apply below_drew1 | refine below_set ?_ GE241.out) | exact HB.out)) hb); clear BK241; clear HB; have BK241 := n0_; have HB := n1_; clear n0_ n1_; (try clear hb); (try clear hb2); (try clear hk); (try clear hi)) | (go_at_call 43; (with_reducible refine (spec_l1Has.calls k _ _ l1 0 true _ ?side1 ?side2 A7.out).mono ?_); (case side1 => repeat (first | exact (Kd.C_below HR1.out HB.out) | (with_reducible refine Kd.C_alloc ?_ _) | (with_reducible refine Kd.C_drewN ?_ _) | (with_reducible refine Kd.C_drew ?_))); (case side2 => exact HC1.out); rintro e w' ⟨rfl, ⟨nd, rfl⟩⟩; have hcz15_0 : w14.cell? ⟨gb241, 0, none⟩ = some (.slice A0_0 l0_0.length c0_0) := (blk_cell BK241.out 0).trans rfl; have hfz15_0 := blk_frozen BK241.out 0) | ((with_reducible refine gate_callee (f := 42) rfl ?_); refine goesL_ (some 22) rfl rfl Try.func42 (by kernel_rfl) rfl #[.agg #[.slice A0_0 l0_0.length c0_0], .slice A1 l1.length c1] rfl (by (try simp only [List.map_toArray, List.map_cons, List.map_nil]); first | done | rfl | (simp only [List.length_drop, List.length_take]; rfl)) ?_; (with_reducible refine (spec_l11Joins.calls _ _ l0_0 _ _ l1 t245 _ ?side1 ?side2 ?side3 ?side4 A9.out).mono ?_); (case side1 => repeat (first | exact (Kd.C_below HR0_0.out (by repeat (first | (with_reducible first | exact HB.out | apply below_alloc | apply pw_below_drewN | apply below_drew1 | refine below_set ?_ GE241.out) | exact HB.out))) | (with_reducible refine Kd.C_alloc ?_ _) | (with_reducible refine Kd.C_drewN ?_ _) | (with_reducible refine Kd.C_drew ?_))); (case side2 => exact HC0_0.out); (case side3 => repeat (first | exact (Kd.C_below HR1.out (by repeat (first | (with_reducible first | exact HB.out | apply below_alloc | apply pw_below_drewN | apply below_drew1 | refine below_set ?_ GE241.out) | exact HB.out))) | (with_reducible refine Kd.C_alloc ?_ _) | (with_reducible refine Kd.C_drewN ?_ _) | (with_reducible refine Kd.C_drew ?_))); (case side4 => exact HC1.out); rintro e w16 ⟨v246, rfl, ho0, hb⟩; refine ⟨_, rfl, ?_⟩; have n0_ := Aside0.mk (Kd.R_lower ho0 (below_size (by repeat (first | (with_reducible first | exact HB.out | apply below_alloc | apply pw_below_drewN | apply below_drew1 | refine below_set ?_ GE241.out) | exact HB.out)))); have n1_ := Aside0.mk (blk_below (g := gb241) (o := .cells #[.slice A0_0 l0_0.length c0_0] 28 (0, 0)) (by (with_reducible repeat (first | refine blk_drewN ?_ _ | refine blk_drew ?_ | refine blk_alloc ?_ _)); exact BK241.out) hb); have n2_ := Aside0.mk (below_step (by repeat (first | (with_reducible first | exact HB.out | apply below_alloc | apply pw_below_drewN | apply below_drew1 | refine below_set ?_ GE241.out) | exact HB.out)) hb); clear BK241; clear HB; have HO247 := n0_; have BK241 := n1_; have HB := n2_; clear n0_ n1_ n2_; (try clear hb); (try clear hb2); (try clear hk); (try clear hi); (try clear ho0)))
        go_ret2
        exact ⟨_, by first | rfl | (simp [errW_none, errW_some] <;> rfl) | (simp [*, errW_none, errW_some] <;> rfl), by (with_reducible repeat (first | apply Kd.R_alloc | apply Kd.R_drewN | apply Kd.R_drew)); exact HO247.out, by repeat (first | (with_reducible first | exact HB.out | apply below_alloc | apply pw_below_drewN | apply below_drew1 | refine below_set ?_ GE241.out) | exact HB.out)⟩
      · replace c8 := Bool.eq_false_iff.mpr c8
        subst c8
        have H1 : (some (([] : List Int), false)) = some (r1, r2) := by rw [if_neg (show ¬ (false = true) by decide)] at H; exact H
        clear H
        have H := H1
        clear H1
        simp only [Option.some.injEq, Prod.mk.injEq] at H
        obtain ⟨rfl, rfl⟩ := H
        go_enter Try.func13, Try.ntmps13
        go_wp2_with (first | ((with_reducible refine gate_dst (N := 2) rfl ?_); refine box_event ?hg (N := 2) ?hd (cs := #[.slice A0_0 l0_0.length c0_0]) (t := 28) ?hr ?_; (case hd => rfl); (case hg => rfl); (case hr => first | (go_simp; done) | (go_simp; rfl)); intro gb241 hg w17 hbox hb; have n0_ := Aside0.mk (below_step (by repeat (first | (with_reducible first | exact HB.out | apply below_alloc | apply pw_below_drewN | apply below_drew1) | exact HB.out)) hb); have n1_ := Aside0.mk (hbox); have n2_ := Aside0.mk ((by rw [hg]; exact (below_size (by repeat (first | (with_reducible first | exact HB.out | apply below_alloc | apply pw_below_drewN | apply below_drew1) | exact HB.out))) : w.heap.size ≤ gb241)); have n3_ := Aside0.mk ((by rw [hg]; exact (below_size (by repeat (first | (with_reducible first | exact HB.out | apply below_alloc | apply pw_below_drewN | apply below_drew1) | exact HB.out))) : w.heap.size ≤ gb241)); clear HB; have HB := n0_; have BK241 := n1_; have GW241 := n2_; have GE241 := n3_; clear n0_ n1_ n2_ n3_; clear hb hbox hg; have hcz18_0 : w17.cell? ⟨gb241, 0, none⟩ = some (.slice A0_0 l0_0.length c0_0) := (blk_cell BK241.out 0).trans rfl; have hfz18_0 := blk_frozen BK241.out 0) | ((with_reducible refine gate_callee (f := 39) rfl ?_); refine goesL_ (some 7) rfl rfl Try.func39 (by kernel_rfl) rfl #[.agg #[.slice A0_0 l0_0.length c0_0]] rfl (by (try simp only [List.map_toArray, List.map_cons, List.map_nil]); first | done | rfl | (simp only [List.length_drop, List.length_take]; rfl)) ?_; (with_reducible refine (spec_GoodGraph.calls k _ _ l0_0 true _ ?side1 ?side2 A3.out).mono ?_); (case side1 => repeat (first | exact (Kd.C_below HR0_0.out HB.out) | (with_reducible refine Kd.C_alloc ?_ _) | (with_reducible refine Kd.C_drewN ?_ _) | (with_reducible refine Kd.C_drew ?_))); (case side2 => exact HC0_0.out); rintro e w19 ⟨rfl, hb⟩; refine ⟨_, rfl, ?_⟩; have n0_ := Aside0.mk (blk_below (g := gb241) (o := .cells #[.slice A0_0 l0_0.length c0_0] 28 (0, 0)) (by (with_reducible repeat (first | refine blk_drewN ?_ _ | refine blk_drew ?_ | refine blk_alloc ?_ _)); exact BK241.out) hb); have n1_ := Aside0.mk (below_step (by repeat (first | (with_reducible first | exact HB.out | apply below_alloc | apply pw_below_drewN | apply below_drew1 | refine below_set ?_ GE241.out) | exact HB.out)) hb); clear BK241; clear HB; have BK241 := n0_; have HB := n1_; clear n0_ n1_; (try clear hb); (try clear hb2); (try clear hk); (try clear hi); have hcz20_0 : w19.cell? ⟨gb241, 0, none⟩ = some (.slice A0_0 l0_0.length c0_0) := (blk_cell BK241.out 0).trans rfl; have hfz20_0 := blk_frozen BK241.out 0) | (go_at_call 40; (with_reducible refine (spec_l11Blocks.calls k _ _ l0_0 _ _ l1 true _ ?side1 ?side2 ?side3 ?side4 A5.out).mono ?_); (case side1 => repeat (first | exact (Kd.C_below HR0_0.out HB.out) | (with_reducible refine Kd.C_alloc ?_ _) | (with_reducible refine Kd.C_drewN ?_ _) | (with_reducible refine Kd.C_drew ?_))); (case side2 => exact HC0_0.out); (case side3 => repeat (first | exact (Kd.C_below HR1.out HB.out) | (with_reducible refine Kd.C_alloc ?_ _) | (with_reducible refine Kd.C_drewN ?_ _) | (with_reducible refine Kd.C_drew ?_))); (case side4 => exact HC1.out); rintro e w21 ⟨rfl, hb⟩; have n0_ := Aside0.mk (blk_below (g := gb241) (o := .cells #[.slice A0_0 l0_0.length c0_0] 28 (0, 0)) (by (with_reducible repeat (first | refine blk_drewN ?_ _ | refine blk_drew ?_ | refine blk_alloc ?_ _)); exact BK241.out) hb); have n1_ := Aside0.mk (below_step (by repeat (first | (with_reducible first | exact HB.out | apply below_alloc | apply pw_below_drewN | apply below_drew1 | refine below_set ?_ GE241.out) | exact HB.out)) hb); clear BK241; clear HB; have BK241 := n0_; have HB := n1_; clear n0_ n1_; (try clear hb); (try clear hb2); (try clear hk); (try clear hi)) | (go_at_call 43; (with_reducible refine (spec_l1Has.calls k _ _ l1 0 false _ ?side1 ?side2 A7.out).mono ?_); (case side1 => repeat (first | exact (Kd.C_below HR1.out HB.out) | (with_reducible refine Kd.C_alloc ?_ _) | (with_reducible refine Kd.C_drewN ?_ _) | (with_reducible refine Kd.C_drew ?_))); (case side2 => exact HC1.out); rintro e w' ⟨rfl, ⟨nd, rfl⟩⟩))
        go_ret2
        exact ⟨_, by first | rfl | (simp [errW_none, errW_some] <;> rfl) | (simp [*, errW_none, errW_some] <;> rfl), by first | exact Kd.R_nil _ _ _ _ _ | exact Kd.N_nil _ _ _ _ _ | exact Kd.V_nil _ _ _ _ _ | exact Kd.Q_nil _ _ _ _ _ | exact Kd.S_nil _ _ _ _ _, by repeat (first | (with_reducible first | exact HB.out | apply below_alloc | apply pw_below_drewN | apply below_drew1 | refine below_set ?_ GE241.out) | exact HB.out)⟩
    · replace c6 := Bool.eq_false_iff.mpr c6
      subst c6
      have H1 : (some (([] : List Int), false)) = some (r1, r2) := by rw [if_neg (show ¬ (false = true) by decide)] at H; exact H
      clear H
      have H := H1
      clear H1
      simp only [Option.some.injEq, Prod.mk.injEq] at H
      obtain ⟨rfl, rfl⟩ := H
      go_enter Try.func13, Try.ntmps13
      go_wp2_with (first | ((with_reducible refine gate_dst (N := 2) rfl ?_); refine box_event ?hg (N := 2) ?hd (cs := #[.slice A0_0 l0_0.length c0_0]) (t := 28) ?hr ?_; (case hd => rfl); (case hg => rfl); (case hr => first | (go_simp; done) | (go_simp; rfl)); intro gb241 hg w22 hbox hb; have n0_ := Aside0.mk (below_step (by repeat (first | (with_reducible first | exact HB.out | apply below_alloc | apply pw_below_drewN | apply below_drew1) | exact HB.out)) hb); have n1_ := Aside0.mk (hbox); have n2_ := Aside0.mk ((by rw [hg]; exact (below_size (by repeat (first | (with_reducible first | exact HB.out | apply below_alloc | apply pw_below_drewN | apply below_drew1) | exact HB.out))) : w.heap.size ≤ gb241)); have n3_ := Aside0.mk ((by rw [hg]; exact (below_size (by repeat (first | (with_reducible first | exact HB.out | apply below_alloc | apply pw_below_drewN | apply below_drew1) | exact HB.out))) : w.heap.size ≤ gb241)); clear HB; have HB := n0_; have BK241 := n1_; have GW241 := n2_; have GE241 := n3_; clear n0_ n1_ n2_ n3_; clear hb hbox hg; have hcz23_0 : w22.cell? ⟨gb241, 0, none⟩ = some (.slice A0_0 l0_0.length c0_0) := (blk_cell BK241.out 0).trans rfl; have hfz23_0 := blk_frozen BK241.out 0) | ((with_reducible refine gate_callee (f := 39) rfl ?_); refine goesL_ (some 7) rfl rfl Try.func39 (by kernel_rfl) rfl #[.agg #[.slice A0_0 l0_0.length c0_0]] rfl (by (try simp only [List.map_toArray, List.map_cons, List.map_nil]); first | done | rfl | (simp only [List.length_drop, List.length_take]; rfl)) ?_; (with_reducible refine (spec_GoodGraph.calls k _ _ l0_0 true _ ?side1 ?side2 A3.out).mono ?_); (case side1 => repeat (first | exact (Kd.C_below HR0_0.out HB.out) | (with_reducible refine Kd.C_alloc ?_ _) | (with_reducible refine Kd.C_drewN ?_ _) | (with_reducible refine Kd.C_drew ?_))); (case side2 => exact HC0_0.out); rintro e w24 ⟨rfl, hb⟩; refine ⟨_, rfl, ?_⟩; have n0_ := Aside0.mk (blk_below (g := gb241) (o := .cells #[.slice A0_0 l0_0.length c0_0] 28 (0, 0)) (by (with_reducible repeat (first | refine blk_drewN ?_ _ | refine blk_drew ?_ | refine blk_alloc ?_ _)); exact BK241.out) hb); have n1_ := Aside0.mk (below_step (by repeat (first | (with_reducible first | exact HB.out | apply below_alloc | apply pw_below_drewN | apply below_drew1 | refine below_set ?_ GE241.out) | exact HB.out)) hb); clear BK241; clear HB; have BK241 := n0_; have HB := n1_; clear n0_ n1_; (try clear hb); (try clear hb2); (try clear hk); (try clear hi); have hcz25_0 : w24.cell? ⟨gb241, 0, none⟩ = some (.slice A0_0 l0_0.length c0_0) := (blk_cell BK241.out 0).trans rfl; have hfz25_0 := blk_frozen BK241.out 0) | (go_at_call 40; (with_reducible refine (spec_l11Blocks.calls k _ _ l0_0 _ _ l1 false _ ?side1 ?side2 ?side3 ?side4 A5.out).mono ?_); (case side1 => repeat (first | exact (Kd.C_below HR0_0.out HB.out) | (with_reducible refine Kd.C_alloc ?_ _) | (with_reducible refine Kd.C_drewN ?_ _) | (with_reducible refine Kd.C_drew ?_))); (case side2 => exact HC0_0.out); (case side3 => repeat (first | exact (Kd.C_below HR1.out HB.out) | (with_reducible refine Kd.C_alloc ?_ _) | (with_reducible refine Kd.C_drewN ?_ _) | (with_reducible refine Kd.C_drew ?_))); (case side4 => exact HC1.out); rintro e w26 ⟨rfl, hb⟩; have n0_ := Aside0.mk (blk_below (g := gb241) (o := .cells #[.slice A0_0 l0_0.length c0_0] 28 (0, 0)) (by (with_reducible repeat (first | refine blk_drewN ?_ _ | refine blk_drew ?_ | refine blk_alloc ?_ _)); exact BK241.out) hb); have n1_ := Aside0.mk (below_step (by repeat (first | (with_reducible first | exact HB.out | apply below_alloc | apply pw_below_drewN | apply below_drew1 | refine below_set ?_ GE241.out) | exact HB.out)) hb); clear BK241; clear HB; have BK241 := n0_; have HB := n1_; clear n0_ n1_; (try clear hb); (try clear hb2); (try clear hk); (try clear hi)))
      go_ret2
      exact ⟨_, by first | rfl | (simp [errW_none, errW_some] <;> rfl) | (simp [*, errW_none, errW_some] <;> rfl), by first | exact Kd.R_nil _ _ _ _ _ | exact Kd.N_nil _ _ _ _ _ | exact Kd.V_nil _ _ _ _ _ | exact Kd.Q_nil _ _ _ _ _ | exact Kd.S_nil _ _ _ _ _, by repeat (first | (with_reducible first | exact HB.out | apply below_alloc | apply pw_below_drewN | apply below_drew1 | refine below_set ?_ GE241.out) | exact HB.out)⟩
  · replace c4 := Bool.eq_false_iff.mpr c4
    subst c4
    have H1 : (some (([] : List Int), false)) = some (r1, r2) := by rw [if_neg (show ¬ (false = true) by decide)] at H; exact H
    clear H
    have H := H1
    clear H1
    simp only [Option.some.injEq, Prod.mk.injEq] at H
    obtain ⟨rfl, rfl⟩ := H
    go_enter Try.func13, Try.ntmps13
    go_wp2_with (first | ((with_reducible refine gate_dst (N := 2) rfl ?_); refine box_event ?hg (N := 2) ?hd (cs := #[.slice A0_0 l0_0.length c0_0]) (t := 28) ?hr ?_; (case hd => rfl); (case hg => rfl); (case hr => first | (go_simp; done) | (go_simp; rfl)); intro gb241 hg w27 hbox hb; have n0_ := Aside0.mk (below_step (by repeat (first | (with_reducible first | exact HB.out | apply below_alloc | apply pw_below_drewN | apply below_drew1) | exact HB.out)) hb); have n1_ := Aside0.mk (hbox); have n2_ := Aside0.mk ((by rw [hg]; exact (below_size (by repeat (first | (with_reducible first | exact HB.out | apply below_alloc | apply pw_below_drewN | apply below_drew1) | exact HB.out))) : w.heap.size ≤ gb241)); have n3_ := Aside0.mk ((by rw [hg]; exact (below_size (by repeat (first | (with_reducible first | exact HB.out | apply below_alloc | apply pw_below_drewN | apply below_drew1) | exact HB.out))) : w.heap.size ≤ gb241)); clear HB; have HB := n0_; have BK241 := n1_; have GW241 := n2_; have GE241 := n3_; clear n0_ n1_ n2_ n3_; clear hb hbox hg; have hcz28_0 : w27.cell? ⟨gb241, 0, none⟩ = some (.slice A0_0 l0_0.length c0_0) := (blk_cell BK241.out 0).trans rfl; have hfz28_0 := blk_frozen BK241.out 0) | ((with_reducible refine gate_callee (f := 39) rfl ?_); refine goesL_ (some 7) rfl rfl Try.func39 (by kernel_rfl) rfl #[.agg #[.slice A0_0 l0_0.length c0_0]] rfl (by (try simp only [List.map_toArray, List.map_cons, List.map_nil]); first | done | rfl | (simp only [List.length_drop, List.length_take]; rfl)) ?_; (with_reducible refine (spec_GoodGraph.calls k _ _ l0_0 false _ ?side1 ?side2 A3.out).mono ?_); (case side1 => repeat (first | exact (Kd.C_below HR0_0.out HB.out) | (with_reducible refine Kd.C_alloc ?_ _) | (with_reducible refine Kd.C_drewN ?_ _) | (with_reducible refine Kd.C_drew ?_))); (case side2 => exact HC0_0.out); rintro e w29 ⟨rfl, hb⟩; refine ⟨_, rfl, ?_⟩; have n0_ := Aside0.mk (blk_below (g := gb241) (o := .cells #[.slice A0_0 l0_0.length c0_0] 28 (0, 0)) (by (with_reducible repeat (first | refine blk_drewN ?_ _ | refine blk_drew ?_ | refine blk_alloc ?_ _)); exact BK241.out) hb); have n1_ := Aside0.mk (below_step (by repeat (first | (with_reducible first | exact HB.out | apply below_alloc | apply pw_below_drewN | apply below_drew1 | refine below_set ?_ GE241.out) | exact HB.out)) hb); clear BK241; clear HB; have BK241 := n0_; have HB := n1_; clear n0_ n1_; (try clear hb); (try clear hb2); (try clear hk); (try clear hi)))
    go_ret2
    exact ⟨_, by first | rfl | (simp [errW_none, errW_some] <;> rfl) | (simp [*, errW_none, errW_some] <;> rfl), by first | exact Kd.R_nil _ _ _ _ _ | exact Kd.N_nil _ _ _ _ _ | exact Kd.V_nil _ _ _ _ _ | exact Kd.Q_nil _ _ _ _ _ | exact Kd.S_nil _ _ _ _ _, by repeat (first | (with_reducible first | exact HB.out | apply below_alloc | apply pw_below_drewN | apply below_drew1 | refine below_set ?_ GE241.out) | exact HB.out)⟩
end Go.Proofs.Ytndkblahnihhjaa.P

namespace Go.Proofs.Ytndkblahnihhjaa.Q
open Go.RowKit Go.Proofs.Ytndkblahnihhjaa.P Go.Proofs.Ytndkblahnihhjaa.H Go.Proofs.YtndkblahnihhjaaW.PrintWords
theorem srt_first {l : List Int} (h : Srt l) (h0 : ∀ y ∈ l, 0 ≤ y) : (decide ((0 : Int) ∈ l)) = (decide (0 < l.length) && decide (l.getD 0 0 = 0)) := by
  cases l with
  | nil => simp
  | cons y l =>
    rw [Bool.eq_iff_iff]
    simp only [Bool.and_eq_true, decide_eq_true_eq, List.length_cons, List.getD_cons_zero, List.mem_cons]
    constructor
    · rintro (h1 | h1)
      · exact ⟨by omega, h1.symm⟩
      · have h2 := (List.pairwise_cons.1 h).1 0 h1
        have h3 := h0 y (by simp)
        omega
    · intro h1
      exact .inl h1.2.symm
theorem specJoins_ev {g : List (List Int)} {l : List Int} (hG : goodG g = true) (hr : ∀ y ∈ l, 0 ≤ y ∧ y < (g.length : Int)) (hn : l.length ≤ 12) : spec_l11Joins.f g l = some (listTo (joinsF (froL g) l) 12) := by
  unfold spec_l11Joins.f
  rw [hG, inRow_yes hr hn]
  rfl
theorem joinsOf_core (g : List (List Int)) (l : List Int) (hg : Small g) (hl : l.length ≤ 1048576) : ∃ (s1 : List Int) (s2 : Bool), Ev (fun k => spec_JoinsOf.f k g l) (s1, s2) ∧ impl_JoinsOf.f g l = some (s1, s2) ∧ s1.length ≤ 1048576 ∧ s2 = setsB g l := by
  unfold impl_JoinsOf.f spec_JoinsOf.f
  cases hG : goodG g with
  | false =>
    have hs : setsB g l = false := by unfold setsB; rw [hG, Bool.false_and]
    refine ⟨[], false, (specGoodGraph_ev g hg).bind ?_, by rw [hs, if_neg (by simp)], by simp, hs.symm⟩
    rw [hG]
    exact ev_is fun k => by rw [if_neg (by simp)]
  | true =>
    have hr := goodG_rows hG
    cases hb : rlF g l with
    | false =>
      have hs : setsB g l = false := by unfold setsB; rw [hG, hb]; rfl
      refine ⟨[], false, (specGoodGraph_ev g hg).bind ?_, by rw [hs, if_neg (by simp)], by simp, hs.symm⟩
      rw [hG]
      refine Ev.congr (fun k => by rw [if_pos rfl]) ((B.blocks_ev hG l hl).bind ?_)
      rw [hb]
      exact ev_is fun k => by rw [if_neg (by simp)]
    | true =>
      have hrn := B.rl_rng hb
      have hf := srt_first (B.rl_srt hb) (fun y hy => (hrn y hy).1)
      have hln := B.rl_len12 hr.1.2 hb
      cases h0 : decide ((0 : Int) ∈ l) with
      | false =>
        have hs : setsB g l = false := by unfold setsB; rw [hG, hb, ← hf, h0]; rfl
        refine ⟨[], false, (specGoodGraph_ev g hg).bind ?_, by rw [hs, if_neg (by simp)], by simp, hs.symm⟩
        rw [hG]
        refine Ev.congr (fun k => by rw [if_pos rfl]) ((B.blocks_ev hG l hl).bind ?_)
        rw [hb]
        refine Ev.congr (fun k => by rw [if_pos rfl]) ((has_ev l 0 hl).bind ?_)
        rw [h0]
        exact ev_is fun k => by rw [if_neg (by simp)]
      | true =>
        have hs : setsB g l = true := by unfold setsB; rw [hG, hb, ← hf, h0]; rfl
        refine ⟨_, true, (specGoodGraph_ev g hg).bind ?_, by rw [hs, if_pos rfl], listTo_small _, hs.symm⟩
        rw [hG]
        refine Ev.congr (fun k => by rw [if_pos rfl]) ((B.blocks_ev hG l hl).bind ?_)
        rw [hb]
        refine Ev.congr (fun k => by rw [if_pos rfl]) ((has_ev l 0 hl).bind ?_)
        rw [h0]
        exact ev_is fun k => by rw [if_pos rfl, specJoins_ev hG hrn hln]; rfl
end Go.Proofs.Ytndkblahnihhjaa.Q

namespace Go.Proofs.Ytndkblahnihhjaa.P
open Go.RowKit Go.Proofs.YtndkblahnihhjaaW.PrintWords Go.Proofs.YtndkblahnihhjaaW.PrintLast Go.Proofs.YtndkblahnihhjaaW.PrintMore
attribute [local go_sem] max2_int min2_int max_two min_two max_three min_three max_four min_four
def andF (bs : List Bool) (l : List Int) : List Bool := l.foldl (fun bs y => bs.set y.toNat true) bs
theorem andF_len : ∀ (l : List Int) (bs : List Bool), (andF bs l).length = bs.length
  | [], _ => rfl
  | y :: l, bs => by
    show (andF (bs.set y.toNat true) l).length = _
    rw [andF_len l, List.length_set]
theorem andF_get : ∀ (l : List Int) (bs : List Bool) (j : Nat), j < bs.length → (∀ y ∈ l, 0 ≤ y) → ((andF bs l).getD j false = true ↔ (bs.getD j false = true ∨ (j : Int) ∈ l))
  | [], bs, j, _, _ => by simp [andF]
  | y :: l, bs, j, hj, h0 => by
    show (andF (bs.set y.toNat true) l).getD j false = true ↔ _
    have hy := h0 y (by simp)
    rw [andF_get l _ j (by rw [List.length_set]; exact hj) (fun z hz => h0 z (by simp [hz])), List.mem_cons]
    by_cases e : y.toNat = j
    · have h1 : (bs.set y.toNat true).getD j false = true := by
        rw [List.getD_eq_getElem?_getD, List.getElem?_set, if_pos e, if_pos (by omega)]
        rfl
      have h2 : (j : Int) = y := by omega
      exact ⟨fun _ => .inr (.inl h2), fun _ => .inl h1⟩
    · have h1 : (bs.set y.toNat true).getD j false = bs.getD j false := by rw [List.getD_eq_getElem?_getD, List.getElem?_set_ne e, ← List.getD_eq_getElem?_getD]
      have h2 : ¬ (j : Int) = y := by omega
      rw [h1]
      constructor
      · rintro (h | h)
        · exact .inl h
        · exact .inr (.inr h)
      · rintro (h | h | h)
        · exact .inl h
        · exact absurd h h2
        · exact .inr h
set_option maxHeartbeats 8000000 in
set_option maxRecDepth 100000 in
theorem impl_and.calls (bs : List Bool) (AL : Option Addr) (cL : Nat) (l : List Int) (w : World) (hbs : bs.length = 12) (hrl : Kd.C (Kd.int .i64) w AL l.length l) (hcl : l.length ≤ cL) (hrng : ∀ y ∈ l, 0 ≤ y ∧ y < 12) :
    Calls Try.prog 48 #[.agg (H.bcells bs), .slice AL l.length cL] w fun e w' => e = .returned (.agg (H.bcells (andF bs l))) ∧ Below w.heap.size w w' := by
  have HRL := Aside0.mk hrl
  have HBL := Aside0.mk hbs
  have HRN := Aside0.mk hrng
  have HI := Aside0.mk (show (Try.prog.info? 63).map (·.size) = some 12 by kernel_rfl)
  have HO := Aside0.mk (H.Own.nil w)
  have hlr := hrl.2.1
  have HE := Aside0.mk (show andF bs l = andF bs (l.take l.length) by rw [List.take_length])
  have HST := Aside0.mk (fun i (hi : i < l.length) => show andF bs (l.take (i + 1)) = (andF bs (l.take i)).set (l.getD i 0).toNat true by
    have : l.take (i + 1) = l.take i ++ [l.getD i 0] := by rw [List.take_add_one, List.getElem?_eq_getElem hi, List.getD_eq_getElem?_getD, List.getElem?_eq_getElem hi]; rfl
    rw [this]
    unfold andF
    rw [List.foldl_append]
    rfl)
  have HAL := Aside0.mk (fun i => (andF_len (l.take i) bs).trans hbs)
  obtain ⟨fin, hfin⟩ : ∃ fin, andF bs l = fin := ⟨_, rfl⟩
  rw [hfin] at HE ⊢
  clear hrl hbs hrng hfin
  go_enter Try.func48, Try.ntmps48
  go_wp2_with (first | ((with_reducible refine gate_dst (N := 2) rfl ?_); refine H.own_box HO.out ?bxg (N := 2) ?bxd (cs := H.bcells bs) (t := 63) ?bxr ?_; (case bxd => rfl); (case bxg => rfl); (case bxr => first | (go_simp; done) | (go_simp; rfl)); intro gb w_ ho_ hb_; replace HO := Aside0.mk ho_; clear ho_ hb_) | ((with_reducible refine gate_dst (N := 4) rfl ?_); refine H.own_box HO.out ?bxg (N := 4) ?bxd (cs := H.bcells H.none12) (t := 63) ?bxr ?_; (case bxd => rfl); (case bxg => rfl); (case bxr => first | (go_simp; done) | (go_simp; rfl)); intro ga w_ ho_ hb_; replace HO := Aside0.mk ho_; clear ho_ hb_))
  go_loopw [9] (fun v9 wr => ∃ i : Nat, v9 = .int .i64 i ∧ i ≤ l.length ∧ Aside0 (H.Own w wr [(gb, H.bcells (andF bs (l.take i)), 63), (ga, H.bcells H.none12, 63)])) (fun v9 _ => l.length - (intOf v9).toNat)
  case atStart => exact ⟨0, rfl, Nat.zero_le _, HO⟩
  case round =>
    clear HO
    obtain ⟨i, rfl, hi, HO⟩ := hrel
    by_cases hlt : i < l.length
    · obtain ⟨ad, e1, hc⟩ := Kd.at_int HRL.out (i : Int) (by omega) (by omega)
      subst e1
      rw [Int.toNat_natCast] at hc
      have hd : rd l (i : Int) = l.getD i 0 := rfl
      rw [hd] at hc
      have hst := HST.out i hlt
      have hin := HRN.out _ (show l.getD i 0 ∈ l by rw [List.getD_eq_getElem?_getD, List.getElem?_eq_getElem hlt]; exact List.getElem_mem hlt)
      obtain ⟨x, hx⟩ : ∃ x : Nat, l.getD i 0 = (x : Int) := ⟨(l.getD i 0).toNat, by omega⟩
      rw [hx] at hc hst hin
      rw [Int.toNat_natCast] at hst
      have hcx := HO.out.old hc
      have HAT := Aside0.mk hst
      have HLI := Aside0.mk (HAL.out i)
      have hil : (i : Int) < (l.length : Int) := by omega
      have hx12 : (x : Int) < 12 := hin.2
      clear hd hc hst hx hin
      generalize andF bs (l.take i) = cur at HO HAT HLI
      go_wp2_with ((with_reducible refine gate_store (t := 4) (p := 14) rfl ?_); refine H.own_bput HO.out 0 rfl rfl rfl rfl rfl rfl (by kernel_rfl) (by rw [HLI.out]; omega) ?_; intro w_ ho_ hg_; replace HO := Aside0.mk ho_; clear ho_ hg_)
      go_roundw
      case rel => exact ⟨i + 1, by go_num, by omega, ⟨by rw [HAT.out]; exact HO.out⟩⟩
      case measure => simp [intOf]; omega
    · have hE : i = l.length := by omega
      subst hE
      rw [← HE.out] at HO
      have HLI := Aside0.mk ((congrArg List.length HE.out).trans (HAL.out l.length))
      go_wp2_with (first | ((with_reducible refine gate_dst (N := 16) rfl ?_); refine wpList_load_row rfl 63 (.tmp 2) rfl _ rfl 63 _ (0, 0) _ (HO.out.get 0 rfl) Try.underlying63 rfl (by rw [H.bcells_size, HLI.out]; exact HI.out) ?_) | ((with_reducible refine gate_store (t := 63) (p := 4) rfl ?_); refine H.own_ball HO.out 1 (bs' := fin) rfl rfl rfl rfl rfl rfl HI.out HLI.out ?_; intro w_ ho_ hg_; replace HO := Aside0.mk ho_; clear ho_ hg_))
      (try simp only [Exit.inBlock, Exit.then])
      refine bodyPost_ret (results_cell_row rfl _ _ ga _ (H.bcells fin) (0, 0) _ rfl (HO.out.get 1 rfl) Try.underlying63 rfl (by rw [H.bcells_size, HLI.out]; exact HI.out)) rfl ?_
      exact ⟨rfl, HO.out.below⟩
end Go.Proofs.Ytndkblahnihhjaa.P

namespace Go.Proofs.Ytndkblahnihhjaa.P
open Go.RowKit Go.Proofs.YtndkblahnihhjaaW.PrintWords Go.Proofs.YtndkblahnihhjaaW.PrintLast Go.Proofs.YtndkblahnihhjaaW.PrintMore
attribute [local go_sem] max2_int min2_int max_two min_two max_three min_three max_four min_four
def meetB (X Y : List Bool) : Bool := (List.range 12).any (fun k => X.getD k false && Y.getD k false)
def jnB (g : List (List Int)) (a : Int) : List Bool := andF (Q.joinsF (Q.froL g) [a]) [a]
def impl_MeetingOf.f (l0_0 : List (List Int)) (a1 a2 : Int) : Option (Bool × Bool) := some (if H.goodG l0_0 && (!decide (a1 = a2) && (rlF l0_0 [a1] && rlF l0_0 [a2])) then (meetB (jnB l0_0 a1) (jnB l0_0 a2), true) else (false, false))
set_option maxHeartbeats 8000000 in
set_option maxRecDepth 100000 in
theorem impl_MeetingOf.calls (A0_0 : Option Addr) (c0_0 : Nat) (l0_0 : List (List Int)) (a1 a2 : Int) (r1 r2 : Bool) (w : World) (hr0_0 : Kd.C (Kd.slice 3 (Kd.int .i64)) w A0_0 l0_0.length l0_0) (hc0_0 : l0_0.length ≤ c0_0) (h : impl_MeetingOf.f l0_0 a1 a2 = some (r1, r2)) :
    Calls Try.prog 11 #[.agg #[.slice A0_0 l0_0.length c0_0], .int .i64 a1, .int .i64 a2] w fun e w' => e = .returned (.tuple #[.bool r1, .bool r2]) ∧ Below w.heap.size w w' := by
  replace h := Option.some.inj h
  have HR0 := Aside0.mk hr0_0
  have HC0 := Aside0.mk hc0_0
  clear hr0_0 hc0_0
  have HO := Aside0.mk (H.Own.nil w)
  have HK := Aside0.mk (fun (W : World) (hb : Below w.heap.size w W) => impl_GoodGraph.calls A0_0 c0_0 l0_0 _ W (Kd.C_below HR0.out hb) HC0.out rfl)
  cases hgg : H.goodG l0_0 with
  | false =>
    rw [hgg, Bool.false_and, if_neg (by simp), Prod.mk.injEq] at h
    obtain ⟨rfl, rfl⟩ := h
    rw [hgg] at HK
    clear hgg
    go_enter Try.func11, Try.ntmps11
    go_wp2_with (first | ((with_reducible refine gate_dst (N := 3) rfl ?_); refine H.own_box HO.out ?bxg (N := 3) ?bxd (cs := #[Value.slice A0_0 l0_0.length c0_0]) (t := 28) ?bxr ?_; (case bxd => rfl); (case bxg => rfl); (case bxr => first | (go_simp; done) | (go_simp; rfl)); intro gp w_ ho_ hb_; replace HO := Aside0.mk ho_; clear ho_ hb_) | ((with_reducible refine gate_dst (N := 11) rfl ?_); refine wpList_load_row rfl 28 (.tmp 3) rfl _ rfl 28 _ (0, 0) _ (HO.out.get 0 rfl) Try.underlying28 rfl (by kernel_rfl) ?_) | (go_at_call 45; refine (HK.out _ HO.out.below).mono ?_; rintro e w' ⟨rfl, hb⟩; replace HO := Aside0.mk (HO.out.step hb); clear hb))
    go_ret2
    exact ⟨rfl, HO.out.below⟩
  | true =>
    rw [hgg, Bool.true_and] at h
    rw [hgg] at HK
    have hr := H.goodG_rows hgg
    have hn1 : 1 ≤ l0_0.length := hr.1.1
    have hn2 : l0_0.length ≤ 12 := hr.1.2
    have HG := Aside0.mk hgg
    have HRX := Aside0.mk (fun (a : Int) (p : Addr) (A : Option Addr) (c : Nat) (W : World) (hb : Below w.heap.size w W) (hp : W.cell? p = some (.slice A0_0 l0_0.length c0_0)) (hr1 : Kd.C (Kd.int .i64) W A [a].length [a]) (hc1 : [a].length ≤ c) => impl_reachedList.calls p A0_0 c0_0 l0_0 A c [a] W hp (Kd.C_below HR0.out hb) HG.out hr1 hc1)
    have HRA := Aside0.mk (HRX.out a1)
    have HRB := Aside0.mk (HRX.out a2)
    clear hgg hr
    by_cases he : a1 = a2
    · rw [decide_eq_true he, Bool.not_true, Bool.false_and, if_neg (by simp), Prod.mk.injEq] at h
      obtain ⟨rfl, rfl⟩ := h
      subst he
      go_enter Try.func11, Try.ntmps11
      go_wp2_with (first | ((with_reducible refine gate_dst (N := 3) rfl ?_); refine H.own_box HO.out ?bxg (N := 3) ?bxd (cs := #[Value.slice A0_0 l0_0.length c0_0]) (t := 28) ?bxr ?_; (case bxd => rfl); (case bxg => rfl); (case bxr => first | (go_simp; done) | (go_simp; rfl)); intro gp w_ ho_ hb_; replace HO := Aside0.mk ho_; clear ho_ hb_) | ((with_reducible refine gate_dst (N := 11) rfl ?_); refine wpList_load_row rfl 28 (.tmp 3) rfl _ rfl 28 _ (0, 0) _ (HO.out.get 0 rfl) Try.underlying28 rfl (by kernel_rfl) ?_) | (go_at_call 45; refine (HK.out _ HO.out.below).mono ?_; rintro e w' ⟨rfl, hb⟩; replace HO := Aside0.mk (HO.out.step hb); clear hb))
      go_ret2
      exact ⟨rfl, HO.out.below⟩
    · rw [decide_eq_false he, Bool.not_false, Bool.true_and] at h
      have hee : (a1 == a2) = false := beq_eq_false_iff_ne.2 he
      clear he
      cases ha : rlF l0_0 [a1] with
      | false =>
        rw [ha, Bool.false_and, if_neg (by simp), Prod.mk.injEq] at h
        obtain ⟨rfl, rfl⟩ := h
        rw [ha] at HRA
        clear ha
        go_enter Try.func11, Try.ntmps11
        go_wp2_with (first | ((with_reducible refine gate_dst (N := 3) rfl ?_); refine H.own_box HO.out ?bxg (N := 3) ?bxd (cs := #[Value.slice A0_0 l0_0.length c0_0]) (t := 28) ?bxr ?_; (case bxd => rfl); (case bxg => rfl); (case bxr => first | (go_simp; done) | (go_simp; rfl)); intro gp w_ ho_ hb_; replace HO := Aside0.mk ho_; clear ho_ hb_) | ((with_reducible refine gate_dst (N := 11) rfl ?_); refine wpList_load_row rfl 28 (.tmp 3) rfl _ rfl 28 _ (0, 0) _ (HO.out.get 0 rfl) Try.underlying28 rfl (by kernel_rfl) ?_) | (go_at_call 45; refine (HK.out _ HO.out.below).mono ?_; rintro e w' ⟨rfl, hb⟩; replace HO := Aside0.mk (HO.out.step hb); clear hb) | ((with_reducible refine gate_dst (N := 21) rfl ?_); (try (refine gate_guard (by rfl) ?_; dsimp only)); refine Kd.R_lit (Kd.int .i64) (w0 := w) w.heap.size 3 ?lg21 (N := 21) ?ld21 (xs := [a1]) (inner := [.int .i64 a1]) (ok := fun _ => True) (okp := fun _ => True) ?lr21 ?lp21 (fun _ hk => hk) trivial HO.out.below HO.out.size (by simp) ?_; (case ld21 => rfl); (case lg21 => rfl); (case lr21 => first | (go_simp; done) | (go_simp; rfl)); (case lp21 => exact Reps.snoc (Reps.none _ _) rfl rfl); intro v21 w_ ho_ hb_ hg_ hnew_; obtain ⟨A21, c21, e21⟩ := Kd.R_slice ho_; subst e21; replace HO := Aside0.mk (HO.out.grown hg_ (fun k hk => by cases hk)); have H21 := Aside0.mk ho_; clear ho_ hb_ hg_ hnew_) | (go_at_call 46; (refine (HRA.out _ _ _ _ HO.out.below (HO.out.cell 0 rfl 0) (Kd.R_reads' H21.out).2.2 (Kd.R_reads' H21.out).2.1).mono ?_; rintro e w' ⟨rfl, hb⟩; replace HO := Aside0.mk (HO.out.step hb); clear hb )))
        go_ret2
        exact ⟨rfl, HO.out.below⟩
      | true =>
        rw [ha, Bool.true_and] at h
        rw [ha] at HRA
        have har := Q.B.rl_rng ha
        cases hb : rlF l0_0 [a2] with
        | false =>
          rw [hb, if_neg (by simp), Prod.mk.injEq] at h
          obtain ⟨rfl, rfl⟩ := h
          rw [hb] at HRB
          clear ha hb har
          go_enter Try.func11, Try.ntmps11
          go_wp2_with (first | ((with_reducible refine gate_dst (N := 3) rfl ?_); refine H.own_box HO.out ?bxg (N := 3) ?bxd (cs := #[Value.slice A0_0 l0_0.length c0_0]) (t := 28) ?bxr ?_; (case bxd => rfl); (case bxg => rfl); (case bxr => first | (go_simp; done) | (go_simp; rfl)); intro gp w_ ho_ hb_; replace HO := Aside0.mk ho_; clear ho_ hb_) | ((with_reducible refine gate_dst (N := 11) rfl ?_); refine wpList_load_row rfl 28 (.tmp 3) rfl _ rfl 28 _ (0, 0) _ (HO.out.get 0 rfl) Try.underlying28 rfl (by kernel_rfl) ?_) | (go_at_call 45; refine (HK.out _ HO.out.below).mono ?_; rintro e w' ⟨rfl, hb⟩; replace HO := Aside0.mk (HO.out.step hb); clear hb) | ((with_reducible refine gate_dst (N := 21) rfl ?_); (try (refine gate_guard (by rfl) ?_; dsimp only)); refine Kd.R_lit (Kd.int .i64) (w0 := w) w.heap.size 3 ?lg21 (N := 21) ?ld21 (xs := [a1]) (inner := [.int .i64 a1]) (ok := fun _ => True) (okp := fun _ => True) ?lr21 ?lp21 (fun _ hk => hk) trivial HO.out.below HO.out.size (by simp) ?_; (case ld21 => rfl); (case lg21 => rfl); (case lr21 => first | (go_simp; done) | (go_simp; rfl)); (case lp21 => exact Reps.snoc (Reps.none _ _) rfl rfl); intro v21 w_ ho_ hb_ hg_ hnew_; obtain ⟨A21, c21, e21⟩ := Kd.R_slice ho_; subst e21; replace HO := Aside0.mk (HO.out.grown hg_ (fun k hk => by cases hk)); have H21 := Aside0.mk ho_; clear ho_ hb_ hg_ hnew_) | ((with_reducible refine gate_dst (N := 27) rfl ?_); (try (refine gate_guard (by rfl) ?_; dsimp only)); refine Kd.R_lit (Kd.int .i64) (w0 := w) w.heap.size 3 ?lg27 (N := 27) ?ld27 (xs := [a2]) (inner := [.int .i64 a2]) (ok := fun _ => True) (okp := fun _ => True) ?lr27 ?lp27 (fun _ hk => hk) trivial HO.out.below HO.out.size (by simp) ?_; (case ld27 => rfl); (case lg27 => rfl); (case lr27 => first | (go_simp; done) | (go_simp; rfl)); (case lp27 => exact Reps.snoc (Reps.none _ _) rfl rfl); intro v27 w_ ho_ hb_ hg_ hnew_; obtain ⟨A27, c27, e27⟩ := Kd.R_slice ho_; subst e27; replace HO := Aside0.mk (HO.out.grown hg_ (fun k hk => by cases hk)); have H27 := Aside0.mk ho_; clear ho_ hb_ hg_ hnew_) | (go_at_call 46; first | (refine (HRA.out _ _ _ _ HO.out.below (HO.out.cell 0 rfl 0) (Kd.R_reads' H21.out).2.2 (Kd.R_reads' H21.out).2.1).mono ?_; rintro e w' ⟨rfl, hb⟩; replace HO := Aside0.mk (HO.out.step hb); clear hb HRA H21) | (refine (HRB.out _ _ _ _ HO.out.below (HO.out.cell 0 rfl 0) (Kd.R_reads' H27.out).2.2 (Kd.R_reads' H27.out).2.1).mono ?_; rintro e w' ⟨rfl, hb⟩; replace HO := Aside0.mk (HO.out.step hb); clear hb )))
          go_ret2
          exact ⟨rfl, HO.out.below⟩
        | true =>
          rw [hb, if_pos rfl, Prod.mk.injEq] at h
          obtain ⟨rfl, rfl⟩ := h
          rw [hb] at HRB
          have hbr := Q.B.rl_rng hb
          have HI := Aside0.mk (show (Try.prog.info? 63).map (·.size) = some 12 by kernel_rfl)
          have HJX := Aside0.mk (fun (a : Int) (hrn : ∀ y ∈ [a], 0 ≤ y ∧ y < (l0_0.length : Int)) (p : Addr) (A : Option Addr) (c : Nat) (W : World) (hb : Below w.heap.size w W) (hp : W.cell? p = some (.slice A0_0 l0_0.length c0_0)) (hr1 : Kd.C (Kd.int .i64) W A [a].length [a]) (hc1 : [a].length ≤ c) => impl_joins.calls p A0_0 c0_0 l0_0 A c [a] W hp (Kd.C_below HR0.out hb) HG.out hr1 hc1 hrn (by simp))
          have HLX := Aside0.mk (fun (a : Int) (hrn : ∀ y ∈ [a], 0 ≤ y ∧ y < (l0_0.length : Int)) => (Q.joins_some (fl := Q.froL l0_0) (l := [a]) (Q.froL_row12 hn2) (fun y hy => ⟨(hrn y hy).1, by have := (hrn y hy).2; omega⟩) (by simp)).2.len)
          have HAX := Aside0.mk (fun (bs : List Bool) (a : Int) (hbs : bs.length = 12) (hrn : ∀ y ∈ [a], 0 ≤ y ∧ y < (l0_0.length : Int)) (A : Option Addr) (c : Nat) (W : World) (hr1 : Kd.C (Kd.int .i64) W A [a].length [a]) (hc1 : [a].length ≤ c) => impl_and.calls bs A c [a] W hbs hr1 hc1 (fun y hy => ⟨(hrn y hy).1, by have := (hrn y hy).2; omega⟩))
          have HJA := Aside0.mk (HJX.out a1 har)
          have HJB := Aside0.mk (HJX.out a2 hbr)
          have hla := HLX.out a1 har
          have hlb := HLX.out a2 hbr
          have hxl := (andF_len [a1] (Q.joinsF (Q.froL l0_0) [a1])).trans hla
          have hyl := (andF_len [a2] (Q.joinsF (Q.froL l0_0) [a2])).trans hlb
          have HNA := Aside0.mk (HAX.out (Q.joinsF (Q.froL l0_0) [a1]) a1 hla har)
          have HNB := Aside0.mk (HAX.out (Q.joinsF (Q.froL l0_0) [a2]) a2 hlb hbr)
          unfold jnB
          generalize Q.joinsF (Q.froL l0_0) [a1] = J1 at HJA HNA hxl ⊢
          generalize Q.joinsF (Q.froL l0_0) [a2] = J2 at HJB HNB hyl ⊢
          generalize andF J1 [a1] = X at HNA hxl ⊢
          generalize andF J2 [a2] = Y at HNB hyl ⊢
          have HXL := Aside0.mk hxl
          have HYL := Aside0.mk hyl
          have HME := Aside0.mk (show meetB X Y = (List.range 12).any (fun k => X.getD k false && Y.getD k false) from rfl)
          obtain ⟨mt, hmt⟩ : ∃ mt, meetB X Y = mt := ⟨_, rfl⟩
          rw [hmt] at HME ⊢
          clear ha hb har hbr hla hlb hxl hyl hmt HJX HLX HAX HRX
          go_enter Try.func11, Try.ntmps11
          go_wp2_with (first | ((with_reducible refine gate_dst (N := 3) rfl ?_); refine H.own_box HO.out ?bxg (N := 3) ?bxd (cs := #[Value.slice A0_0 l0_0.length c0_0]) (t := 28) ?bxr ?_; (case bxd => rfl); (case bxg => rfl); (case bxr => first | (go_simp; done) | (go_simp; rfl)); intro gp w_ ho_ hb_; replace HO := Aside0.mk ho_; clear ho_ hb_) | ((with_reducible refine gate_dst (N := 11) rfl ?_); refine wpList_load_row rfl 28 (.tmp 3) rfl _ rfl 28 _ (0, 0) _ (HO.out.get 0 rfl) Try.underlying28 rfl (by kernel_rfl) ?_) | (go_at_call 45; refine (HK.out _ HO.out.below).mono ?_; rintro e w' ⟨rfl, hb⟩; replace HO := Aside0.mk (HO.out.step hb); clear hb) | ((with_reducible refine gate_dst (N := 21) rfl ?_); (try (refine gate_guard (by rfl) ?_; dsimp only)); refine Kd.R_lit (Kd.int .i64) (w0 := w) w.heap.size 3 ?lg21 (N := 21) ?ld21 (xs := [a1]) (inner := [.int .i64 a1]) (ok := fun _ => True) (okp := fun _ => True) ?lr21 ?lp21 (fun _ hk => hk) trivial HO.out.below HO.out.size (by simp) ?_; (case ld21 => rfl); (case lg21 => rfl); (case lr21 => first | (go_simp; done) | (go_simp; rfl)); (case lp21 => exact Reps.snoc (Reps.none _ _) rfl rfl); intro v21 w_ ho_ hb_ hg_ hnew_; obtain ⟨A21, c21, e21⟩ := Kd.R_slice ho_; subst e21; replace HO := Aside0.mk (HO.out.grown hg_ (fun k hk => by cases hk)); have H21 := Aside0.mk ho_; clear ho_ hb_ hg_ hnew_) | ((with_reducible refine gate_dst (N := 27) rfl ?_); (try (refine gate_guard (by rfl) ?_; dsimp only)); refine Kd.R_lit (Kd.int .i64) (w0 := w) w.heap.size 3 ?lg27 (N := 27) ?ld27 (xs := [a2]) (inner := [.int .i64 a2]) (ok := fun _ => True) (okp := fun _ => True) ?lr27 ?lp27 (fun _ hk => hk) trivial HO.out.below HO.out.size (by simp) ?_; (case ld27 => rfl); (case lg27 => rfl); (case lr27 => first | (go_simp; done) | (go_simp; rfl)); (case lp27 => exact Reps.snoc (Reps.none _ _) rfl rfl); intro v27 w_ ho_ hb_ hg_ hnew_; obtain ⟨A27, c27, e27⟩ := Kd.R_slice ho_; subst e27; replace HO := Aside0.mk (HO.out.grown hg_ (fun k hk => by cases hk)); have H27 := Aside0.mk ho_; clear ho_ hb_ hg_ hnew_) | (go_at_call 46; first | (refine (HRA.out _ _ _ _ HO.out.below (HO.out.cell 0 rfl 0) (Kd.R_reads' H21.out).2.2 (Kd.R_reads' H21.out).2.1).mono ?_; rintro e w' ⟨rfl, hb⟩; replace HO := Aside0.mk (HO.out.step hb); clear hb HRA H21) | (refine (HRB.out _ _ _ _ HO.out.below (HO.out.cell 0 rfl 0) (Kd.R_reads' H27.out).2.2 (Kd.R_reads' H27.out).2.1).mono ?_; rintro e w' ⟨rfl, hb⟩; replace HO := Aside0.mk (HO.out.step hb); clear hb )) | ((with_reducible refine gate_dst (N := 32) rfl ?_); refine Kd.R_lit (Kd.int .i64) (w0 := w) w.heap.size 3 ?lg32 (N := 32) ?ld32 (xs := [a1]) (inner := [.int .i64 a1]) (ok := fun _ => True) (okp := fun _ => True) ?lr32 ?lp32 (fun _ hk => hk) trivial HO.out.below HO.out.size (by simp) ?_; (case ld32 => rfl); (case lg32 => rfl); (case lr32 => first | (go_simp; done) | (go_simp; rfl)); (case lp32 => exact Reps.snoc (Reps.none _ _) rfl rfl); intro v32 w_ ho_ hb_ hg_ hnew_; obtain ⟨A32, c32, e32⟩ := Kd.R_slice ho_; subst e32; replace HO := Aside0.mk (HO.out.grown hg_ (fun k hk => by cases hk)); have H32 := Aside0.mk ho_; clear ho_ hb_ hg_ hnew_) | ((with_reducible refine gate_dst (N := 35) rfl ?_); refine Kd.R_lit (Kd.int .i64) (w0 := w) w.heap.size 3 ?lg35 (N := 35) ?ld35 (xs := [a1]) (inner := [.int .i64 a1]) (ok := fun _ => True) (okp := fun _ => True) ?lr35 ?lp35 (fun _ hk => hk) trivial HO.out.below HO.out.size (by simp) ?_; (case ld35 => rfl); (case lg35 => rfl); (case lr35 => first | (go_simp; done) | (go_simp; rfl)); (case lp35 => exact Reps.snoc (Reps.none _ _) rfl rfl); intro v35 w_ ho_ hb_ hg_ hnew_; obtain ⟨A35, c35, e35⟩ := Kd.R_slice ho_; subst e35; replace HO := Aside0.mk (HO.out.grown hg_ (fun k hk => by cases hk)); have H35 := Aside0.mk ho_; clear ho_ hb_ hg_ hnew_) | ((with_reducible refine gate_dst (N := 38) rfl ?_); refine Kd.R_lit (Kd.int .i64) (w0 := w) w.heap.size 3 ?lg38 (N := 38) ?ld38 (xs := [a2]) (inner := [.int .i64 a2]) (ok := fun _ => True) (okp := fun _ => True) ?lr38 ?lp38 (fun _ hk => hk) trivial HO.out.below HO.out.size (by simp) ?_; (case ld38 => rfl); (case lg38 => rfl); (case lr38 => first | (go_simp; done) | (go_simp; rfl)); (case lp38 => exact Reps.snoc (Reps.none _ _) rfl rfl); intro v38 w_ ho_ hb_ hg_ hnew_; obtain ⟨A38, c38, e38⟩ := Kd.R_slice ho_; subst e38; replace HO := Aside0.mk (HO.out.grown hg_ (fun k hk => by cases hk)); have H38 := Aside0.mk ho_; clear ho_ hb_ hg_ hnew_) | ((with_reducible refine gate_dst (N := 41) rfl ?_); refine Kd.R_lit (Kd.int .i64) (w0 := w) w.heap.size 3 ?lg41 (N := 41) ?ld41 (xs := [a2]) (inner := [.int .i64 a2]) (ok := fun _ => True) (okp := fun _ => True) ?lr41 ?lp41 (fun _ hk => hk) trivial HO.out.below HO.out.size (by simp) ?_; (case ld41 => rfl); (case lg41 => rfl); (case lr41 => first | (go_simp; done) | (go_simp; rfl)); (case lp41 => exact Reps.snoc (Reps.none _ _) rfl rfl); intro v41 w_ ho_ hb_ hg_ hnew_; obtain ⟨A41, c41, e41⟩ := Kd.R_slice ho_; subst e41; replace HO := Aside0.mk (HO.out.grown hg_ (fun k hk => by cases hk)); have H41 := Aside0.mk ho_; clear ho_ hb_ hg_ hnew_) | (go_at_call 47; first | (refine (HJA.out _ _ _ _ HO.out.below (HO.out.cell 0 rfl 0) (Kd.R_reads' H32.out).2.2 (Kd.R_reads' H32.out).2.1).mono ?_; rintro e w' ⟨rfl, hb⟩; replace HO := Aside0.mk (HO.out.step hb); clear hb HJA H32) | (refine (HJB.out _ _ _ _ HO.out.below (HO.out.cell 0 rfl 0) (Kd.R_reads' H38.out).2.2 (Kd.R_reads' H38.out).2.1).mono ?_; rintro e w' ⟨rfl, hb⟩; replace HO := Aside0.mk (HO.out.step hb); clear hb H38)) | (go_at_call 48; first | (refine (HNA.out _ _ _ (Kd.R_reads' H35.out).2.2 (Kd.R_reads' H35.out).2.1).mono ?_; rintro e w' ⟨rfl, hb⟩; replace HO := Aside0.mk (HO.out.step hb); clear hb HNA H35) | (refine (HNB.out _ _ _ (Kd.R_reads' H41.out).2.2 (Kd.R_reads' H41.out).2.1).mono ?_; rintro e w' ⟨rfl, hb⟩; replace HO := Aside0.mk (HO.out.step hb); clear hb H41)) | ((with_reducible refine gate_dst (N := 8) rfl ?_); refine H.own_box HO.out ?bxg (N := 8) ?bxd (cs := H.bcells H.none12) (t := 63) ?bxr ?_; (case bxd => rfl); (case bxg => rfl); (case bxr => first | (go_simp; done) | (go_simp; rfl)); intro gx w_ ho_ hb_; replace HO := Aside0.mk ho_; clear ho_ hb_) | ((with_reducible refine gate_dst (N := 9) rfl ?_); refine H.own_box HO.out ?bxg (N := 9) ?bxd (cs := H.bcells H.none12) (t := 63) ?bxr ?_; (case bxd => rfl); (case bxg => rfl); (case bxr => first | (go_simp; done) | (go_simp; rfl)); intro gy w_ ho_ hb_; replace HO := Aside0.mk ho_; clear ho_ hb_) | ((with_reducible refine gate_store (t := 63) (p := 8) rfl ?_); refine H.own_ball HO.out 1 (bs' := X) rfl rfl rfl rfl rfl rfl HI.out HXL.out ?_; intro w_ ho_ hg_; replace HO := Aside0.mk ho_; clear ho_ hg_) | ((with_reducible refine gate_store (t := 63) (p := 9) rfl ?_); refine H.own_ball HO.out 2 (bs' := Y) rfl rfl rfl rfl rfl rfl HI.out HYL.out ?_; intro w_ ho_ hg_; replace HO := Aside0.mk ho_; clear ho_ hg_))
          go_loopw [43] (fun v43 wr => ∃ k : Nat, v43 = .int .i64 k ∧ k ≤ 12 ∧ Aside0 ((List.range k).any (fun k => X.getD k false && Y.getD k false) = false) ∧ Aside0 (H.Own w wr [(gp, #[Value.slice A0_0 l0_0.length c0_0], 28), (gx, H.bcells X, 63), (gy, H.bcells Y, 63)])) (fun v43 _ => 12 - (intOf v43).toNat)
          case atStart => exact ⟨0, rfl, Nat.zero_le _, ⟨rfl⟩, HO⟩
          case round =>
            clear HO
            obtain ⟨k, rfl, hk, HA, HO⟩ := hrel
            by_cases hlt : k < 12
            · have hk12 : (k : Int) < 12 := by omega
              have hcx := HO.out.bat 1 rfl (j := k) (by rw [HXL.out]; exact hlt)
              have hcy := HO.out.bat 2 rfl (j := k) (by rw [HYL.out]; exact hlt)
              have hst : (List.range (k + 1)).any (fun k => X.getD k false && Y.getD k false) = (X.getD k false && Y.getD k false) := by rw [List.range_succ, List.any_append, HA.out]; simp
              have hin : (X.getD k false && Y.getD k false) = true → mt = true := fun h => by
                rw [HME.out]
                exact List.any_eq_true.2 ⟨k, List.mem_range.2 hlt, h⟩
              obtain ⟨b1, hb1⟩ : ∃ b, X.getD k false = b := ⟨_, rfl⟩
              obtain ⟨b2, hb2⟩ : ∃ b, Y.getD k false = b := ⟨_, rfl⟩
              rw [hb1] at hcx hst hin
              rw [hb2] at hcy hst hin
              clear hb1 hb2
              cases b1 with
              | false =>
                have HST := Aside0.mk hst
                clear hst hin
                go_wp2
                go_roundw
                case rel => exact ⟨k + 1, by go_num, by omega, ⟨by rw [HST.out]; rfl⟩, HO⟩
                case measure => simp [intOf]; omega
              | true =>
                cases b2 with
                | false =>
                  have HST := Aside0.mk hst
                  clear hst hin
                  go_wp2
                  go_roundw
                  case rel => exact ⟨k + 1, by go_num, by omega, ⟨by rw [HST.out]; rfl⟩, HO⟩
                  case measure => simp [intOf]; omega
                | true =>
                  have HMT := Aside0.mk (hin rfl)
                  clear hst hin
                  go_wp2
                  go_ret2
                  exact ⟨by rw [HMT.out]; rfl, HO.out.below⟩
            · have hE : k = 12 := by omega
              subst hE
              have HMT := Aside0.mk (show mt = false by rw [HME.out]; exact HA.out)
              go_wp2
              go_ret2
              exact ⟨by rw [HMT.out]; rfl, HO.out.below⟩
end Go.Proofs.Ytndkblahnihhjaa.P

namespace Go.Proofs.Ytndkblahnihhjaa.P
open Go.RowKit Go.Proofs.YtndkblahnihhjaaW.PrintWords Go.Proofs.YtndkblahnihhjaaW.PrintLast Go.Proofs.YtndkblahnihhjaaW.PrintMore
attribute [local go_sem] max2_int min2_int max_two min_two max_three min_three max_four min_four
mutual
def spec_MeetingOf.j0 : Nat → Int → Int → Bool → List (List Int) → Option (Bool × Bool)
  | 0, _, _, _, _ => none
  | k + 1, x1, x2, x32, x165000 => if x32 = true then (some (false, false)) else ((spec_l11Joins.f x165000 (([x1] : List Int))).bind fun t177 => ((spec_l1Put.f k t177 x1).bind fun t180 => ((spec_l11Joins.f x165000 (([x2] : List Int))).bind fun t186 => ((spec_l1Put.f k t186 x2).bind fun t189 => (spec_MeetingOf.l0 k t180 t189 (t189.length : Int) 0)))))
def spec_MeetingOf.l0 : Nat → List Int → List Int → Int → Int → Option (Bool × Bool)
  | 0, _, _, _, _ => none
  | k + 1, x8, x44, x45, x46 => if x46 < x45 then (if 0 ≤ x46 then (if x46 < (x44.length : Int) then ((spec_l1Has.f k x8 (rd x44 x46)).bind fun t193 => (if t193 = true then (some (true, true)) else (spec_MeetingOf.l0 k x8 x44 x45 (wrap64 (x46 + 1))))) else (none)) else (none)) else (some (false, true))
end
def spec_MeetingOf.f (k : Nat) (l0_0 : List (List Int)) (a1 : Int) (a2 : Int) : Option (Bool × Bool) := (spec_GoodGraph.f k l0_0).bind fun t165 => (if t165 = true then (if a1 = a2 then (spec_MeetingOf.j0 k a1 a2 true l0_0) else ((spec_l11Blocks.f k l0_0 (([a1] : List Int))).bind fun t169 => (if t169 = true then ((spec_l11Blocks.f k l0_0 (([a2] : List Int))).bind fun t173 => (spec_MeetingOf.j0 k a1 a2 (!t173) l0_0)) else (spec_MeetingOf.j0 k a1 a2 true l0_0)))) else (spec_MeetingOf.j0 k a1 a2 true l0_0))
theorem spec_MeetingOf.mono_l : ∀ k, (∀ y0 y1 y2 y3, LeO (spec_MeetingOf.j0 k y0 y1 y2 y3) (spec_MeetingOf.j0 (k + 1) y0 y1 y2 y3)) ∧ (∀ y0 y1 y2 y3, LeO (spec_MeetingOf.l0 k y0 y1 y2 y3) (spec_MeetingOf.l0 (k + 1) y0 y1 y2 y3))
  | 0 => ⟨fun _ _ _ _ r h => by simp [spec_MeetingOf.j0] at h, fun _ _ _ _ r h => by simp [spec_MeetingOf.l0] at h⟩
  | k + 1 => by
    obtain ⟨ih0, ih1⟩ := spec_MeetingOf.mono_l k
    refine ⟨?_, ?_⟩
    · intro y0 y1 y2 y3
      unfold spec_MeetingOf.j0
      repeat' first
      | (with_reducible exact ih0 _ _ _ _)
      | (with_reducible exact ih1 _ _ _ _)
      | (with_reducible exact spec_GoodGraph.mono _ _)
      | (with_reducible exact spec_l11Blocks.mono _ _ _)
      | (with_reducible exact spec_l1Has.mono _ _ _)
      | (with_reducible exact spec_l1Put.mono _ _ _)
      | (with_reducible exact LeO.refl _)
      | (with_reducible exact LeO.none _)
      | (with_reducible refine LeO.ite ?_ ?_)
      | (with_reducible refine LeO.bind ?_ (fun _ => ?_))
      | exact ih0 _ _ _ _
      | exact ih1 _ _ _ _
      | exact spec_GoodGraph.mono _ _
      | exact spec_l11Blocks.mono _ _ _
      | exact spec_l1Has.mono _ _ _
      | exact spec_l1Put.mono _ _ _
      | exact LeO.none _
      | refine LeO.ite ?_ ?_
      | refine LeO.bind ?_ (fun _ => ?_)
    · intro y0 y1 y2 y3
      unfold spec_MeetingOf.l0
      repeat' first
      | (with_reducible exact ih0 _ _ _ _)
      | (with_reducible exact ih1 _ _ _ _)
      | (with_reducible exact spec_GoodGraph.mono _ _)
      | (with_reducible exact spec_l11Blocks.mono _ _ _)
      | (with_reducible exact spec_l1Has.mono _ _ _)
      | (with_reducible exact spec_l1Put.mono _ _ _)
      | (with_reducible exact LeO.refl _)
      | (with_reducible exact LeO.none _)
      | (with_reducible refine LeO.ite ?_ ?_)
      | (with_reducible refine LeO.bind ?_ (fun _ => ?_))
      | exact ih0 _ _ _ _
      | exact ih1 _ _ _ _
      | exact spec_GoodGraph.mono _ _
      | exact spec_l11Blocks.mono _ _ _
      | exact spec_l1Has.mono _ _ _
      | exact spec_l1Put.mono _ _ _
      | exact LeO.none _
      | refine LeO.ite ?_ ?_
      | refine LeO.bind ?_ (fun _ => ?_)
theorem spec_MeetingOf.mono : ∀ a0 a1 a2 k, LeO (spec_MeetingOf.f k a0 a1 a2) (spec_MeetingOf.f (k + 1) a0 a1 a2) := by
  intro a0 a1 a2 k
  obtain ⟨ih0, ih1⟩ := spec_MeetingOf.mono_l k
  unfold spec_MeetingOf.f
  repeat' first
      | (with_reducible exact ih0 _ _ _ _)
      | (with_reducible exact ih1 _ _ _ _)
      | (with_reducible exact spec_GoodGraph.mono _ _)
      | (with_reducible exact spec_l11Blocks.mono _ _ _)
      | (with_reducible exact spec_l1Has.mono _ _ _)
      | (with_reducible exact spec_l1Put.mono _ _ _)
      | (with_reducible exact LeO.refl _)
      | (with_reducible exact LeO.none _)
      | (with_reducible refine LeO.ite ?_ ?_)
      | (with_reducible refine LeO.bind ?_ (fun _ => ?_))
      | exact ih0 _ _ _ _
      | exact ih1 _ _ _ _
      | exact spec_GoodGraph.mono _ _
      | exact spec_l11Blocks.mono _ _ _
      | exact spec_l1Has.mono _ _ _
      | exact spec_l1Put.mono _ _ _
      | exact LeO.none _
      | refine LeO.ite ?_ ?_
      | refine LeO.bind ?_ (fun _ => ?_)
set_option maxHeartbeats 8000000 in
set_option maxRecDepth 100000 in
theorem spec_MeetingOf.calls (k : Nat) (A0_0 : Option Addr) (c0_0 : Nat) (l0_0 : List (List Int)) (a1 : Int) (a2 : Int) (r1 : Bool) (r2 : Bool) (w : World) (hr0_0 : Kd.C (Kd.slice 3 (Kd.int .i64)) w A0_0 l0_0.length l0_0) (hc0_0 : l0_0.length ≤ c0_0) (h : spec_MeetingOf.f k l0_0 a1 a2 = some (r1, r2)) :
    Calls Try.prog 9 #[.agg #[.slice A0_0 l0_0.length c0_0], .int .i64 a1, .int .i64 a2] w fun e w' => e = .returned (.tuple #[.bool r1, .bool r2]) ∧ Below w.heap.size w w' := by
  have hu28 := Try.underlying28
  have HR0_0 := Aside0.mk hr0_0
  have HC0_0 := Aside0.mk hc0_0
  clear hr0_0 hc0_0
  have HB := Aside0.mk (Below.refl w.heap.size w)
  have H : ((spec_GoodGraph.f k l0_0).bind fun t165 => (if t165 = true then (if a1 = a2 then (spec_MeetingOf.j0 k a1 a2 true l0_0) else ((spec_l11Blocks.f k l0_0 (([a1] : List Int))).bind fun t169 => (if t169 = true then ((spec_l11Blocks.f k l0_0 (([a2] : List Int))).bind fun t173 => (spec_MeetingOf.j0 k a1 a2 (!t173) l0_0)) else (spec_MeetingOf.j0 k a1 a2 true l0_0)))) else (spec_MeetingOf.j0 k a1 a2 true l0_0))) = some (r1, r2) := h
  clear h
  have HC4 := Aside0.mk H
  clear H
  go_enter Try.func9, Try.ntmps9
  go_upto_region 1 with (first | ((with_reducible refine gate_dst (N := 3) rfl ?_); (try (refine gate_guard (by rfl) ?_; dsimp only)); refine box_event ?hg (N := 3) ?hd (cs := #[.slice A0_0 l0_0.length c0_0]) (t := 28) ?hr ?_; (case hd => rfl); (case hg => rfl); (case hr => first | (go_simp; done) | (go_simp; rfl)); intro gb164 hg w5 hbox hb; have n0_ := Aside0.mk (below_step (by repeat (first | (with_reducible first | exact HB.out | apply below_alloc | apply pw_below_drewN | apply below_drew1) | exact HB.out)) hb); have n1_ := Aside0.mk (hbox); have n2_ := Aside0.mk ((by rw [hg]; exact (below_size (by repeat (first | (with_reducible first | exact HB.out | apply below_alloc | apply pw_below_drewN | apply below_drew1) | exact HB.out))) : w.heap.size ≤ gb164)); have n3_ := Aside0.mk ((by rw [hg]; exact (below_size (by repeat (first | (with_reducible first | exact HB.out | apply below_alloc | apply pw_below_drewN | apply below_drew1) | exact HB.out))) : w.heap.size ≤ gb164)); clear HB; have HB := n0_; have BK164 := n1_; have GW164 := n2_; have GE164 := n3_; clear n0_ n1_ n2_ n3_; clear hb hbox hg))
  (try simp only [Act.put, List.setIfInBounds_toArray, List.set_cons_zero, List.set_cons_succ])
  go_cut [32] (fun v32 wc => ∃ (kq : Nat) (x32_3 : Bool), v32 = .bool x32_3 ∧ Aside0 (spec_MeetingOf.j0 kq a1 a2 x32_3 l0_0 = some (r1, r2)) ∧ Aside0 (kq ≤ k) ∧ Aside0 (wc.heap[gb164]? = some (.cells #[(.slice A0_0 l0_0.length c0_0)] 28 (0, 0))) ∧ Aside0 (Below w.heap.size w wc))
  case first =>
    have H := HC4.out
    clear HC4
    replace H := Option.bind_eq_some_iff.mp H
    obtain ⟨t165, A60, H⟩ := H
    replace H : (if t165 = true then (if a1 = a2 then (spec_MeetingOf.j0 k a1 a2 true l0_0) else ((spec_l11Blocks.f k l0_0 (([a1] : List Int))).bind fun t169 => (if t169 = true then ((spec_l11Blocks.f k l0_0 (([a2] : List Int))).bind fun t173 => (spec_MeetingOf.j0 k a1 a2 (!t173) l0_0)) else (spec_MeetingOf.j0 k a1 a2 true l0_0)))) else (spec_MeetingOf.j0 k a1 a2 true l0_0)) = some (r1, r2) := H
    have A6 := Aside0.mk A60
    clear A60
    by_cases c7 : t165 = true
    · subst c7
      have H1 : (if a1 = a2 then (spec_MeetingOf.j0 k a1 a2 true l0_0) else ((spec_l11Blocks.f k l0_0 (([a1] : List Int))).bind fun t169 => (if t169 = true then ((spec_l11Blocks.f k l0_0 (([a2] : List Int))).bind fun t173 => (spec_MeetingOf.j0 k a1 a2 (!t173) l0_0)) else (spec_MeetingOf.j0 k a1 a2 true l0_0)))) = some (r1, r2) := by rw [if_pos rfl] at H; exact H
      clear H
      have H := H1
      clear H1
      by_cases c8 : a1 = a2
      · rw [if_pos c8] at H
        have c8b0 : (a1 == a2) = true := beq_iff_eq.mpr c8
        have c8b1 : (a1 != a2) = false := bne_eq_false_iff_eq.mpr c8
        clear c8
        (first | rw [c8b0] | (simp only [i64_w, i32_w]; rw [c8b0]) | skip)
        have H' := Aside0.mk H
        clear H
        have hcz9_0 : w5.cell? ⟨gb164, 0, none⟩ = some (.slice A0_0 l0_0.length c0_0) := (blk_cell BK164.out 0).trans rfl
        have hfz9_0 := blk_frozen BK164.out 0
        go_wp2_with (first | ((with_reducible refine gate_callee (f := 39) rfl ?_); refine goesL_ (some 12) rfl rfl Try.func39 (by kernel_rfl) rfl #[.agg #[.slice A0_0 l0_0.length c0_0]] rfl (by (try simp only [List.map_toArray, List.map_cons, List.map_nil]); first | done | rfl | (simp only [List.length_drop, List.length_take]; rfl)) ?_; (with_reducible refine (spec_GoodGraph.calls k _ _ l0_0 true _ ?side1 ?side2 A6.out).mono ?_); (case side1 => repeat (first | exact (Kd.C_below HR0_0.out HB.out) | (with_reducible refine Kd.C_alloc ?_ _) | (with_reducible refine Kd.C_drewN ?_ _) | (with_reducible refine Kd.C_drew ?_))); (case side2 => exact HC0_0.out); rintro e w10 ⟨rfl, hb⟩; refine ⟨_, rfl, ?_⟩; have n0_ := Aside0.mk (blk_below (g := gb164) (o := .cells #[.slice A0_0 l0_0.length c0_0] 28 (0, 0)) (by (with_reducible repeat (first | refine blk_drewN ?_ _ | refine blk_drew ?_ | refine blk_alloc ?_ _)); exact BK164.out) hb); have n1_ := Aside0.mk (below_step (by repeat (first | (with_reducible first | exact HB.out | apply below_alloc | apply pw_below_drewN | apply below_drew1 | refine below_set ?_ GE164.out) | exact HB.out)) hb); clear BK164; clear HB; have BK164 := n0_; have HB := n1_; clear n0_ n1_; (try clear hb); (try clear hb2); (try clear hk); (try clear hi)))
        go_meet
        case rel => exact ⟨_, (true), (by first | rfl | (simp; done) | (simp [*]; done)), H', ⟨by first | omega | exact Nat.le_refl _⟩, ⟨by (with_reducible repeat (first | refine blk_drewN ?_ _ | refine blk_drew ?_ | refine blk_alloc ?_ _)); exact BK164.out⟩, ⟨by repeat (first | (with_reducible first | exact HB.out | apply below_alloc | apply pw_below_drewN | apply below_drew1 | refine below_set ?_ GE164.out) | exact HB.out)⟩⟩
      · rw [if_neg c8] at H
        have c8b0 : (a1 == a2) = false := beq_eq_false_iff_ne.mpr c8
        have c8b1 : (a1 != a2) = true := bne_iff_ne.mpr c8
        (first | rw [c8b0] | (simp only [i64_w, i32_w]; rw [c8b0]) | skip)
        obtain ⟨y166, hy166⟩ : ∃ y_ : List Int, y_ = (([a1] : List Int)) := ⟨_, rfl⟩
        replace H : ((spec_l11Blocks.f k l0_0 y166).bind fun t169 => (if t169 = true then ((spec_l11Blocks.f k l0_0 (([a2] : List Int))).bind fun t173 => (spec_MeetingOf.j0 k a1 a2 (!t173) l0_0)) else (spec_MeetingOf.j0 k a1 a2 true l0_0))) = some (r1, r2) := by first | (rw [hy166]; with_reducible exact H) | (have H2_ := (Option.bind_some _ _).symm.trans H; rw [hy166]; with_reducible exact H2_) | (have H2_ := (Option.bind_some _ _).symm.trans H; with_reducible exact H2_) | with_reducible exact H | (rw [hy166]; exact H) | exact H
        have Ny166 := Aside0.mk hy166
        clear hy166
        replace H := Option.bind_eq_some_iff.mp H
        obtain ⟨t169, A110, H⟩ := H
        replace H : (if t169 = true then ((spec_l11Blocks.f k l0_0 (([a2] : List Int))).bind fun t173 => (spec_MeetingOf.j0 k a1 a2 (!t173) l0_0)) else (spec_MeetingOf.j0 k a1 a2 true l0_0)) = some (r1, r2) := H
        have A11 := Aside0.mk A110
        clear A110
        by_cases c12 : t169 = true
        · subst c12
          have H1 : ((spec_l11Blocks.f k l0_0 (([a2] : List Int))).bind fun t173 => (spec_MeetingOf.j0 k a1 a2 (!t173) l0_0)) = some (r1, r2) := by rw [if_pos rfl] at H; exact H
          clear H
          have H := H1
          clear H1
          obtain ⟨y170, hy170⟩ : ∃ y_ : List Int, y_ = (([a2] : List Int)) := ⟨_, rfl⟩
          replace H : ((spec_l11Blocks.f k l0_0 y170).bind fun t173 => (spec_MeetingOf.j0 k a1 a2 (!t173) l0_0)) = some (r1, r2) := by first | (rw [hy170]; with_reducible exact H) | (have H2_ := (Option.bind_some _ _).symm.trans H; rw [hy170]; with_reducible exact H2_) | (have H2_ := (Option.bind_some _ _).symm.trans H; with_reducible exact H2_) | with_reducible exact H | (rw [hy170]; exact H) | exact H
          have Ny170 := Aside0.mk hy170
          clear hy170
          replace H := Option.bind_eq_some_iff.mp H
          obtain ⟨t173, A130, H⟩ := H
          replace H : (spec_MeetingOf.j0 k a1 a2 (!t173) l0_0) = some (r1, r2) := H
          have A13 := Aside0.mk A130
          clear A130
          have H' := Aside0.mk H
          clear H
          have hcz14_0 : w5.cell? ⟨gb164, 0, none⟩ = some (.slice A0_0 l0_0.length c0_0) := (blk_cell BK164.out 0).trans rfl
          have hfz14_0 := blk_frozen BK164.out 0
          go_wp2_with (first | ((with_reducible refine gate_callee (f := 39) rfl ?_); refine goesL_ (some 12) rfl rfl Try.func39 (by kernel_rfl) rfl #[.agg #[.slice A0_0 l0_0.length c0_0]] rfl (by (try simp only [List.map_toArray, List.map_cons, List.map_nil]); first | done | rfl | (simp only [List.length_drop, List.length_take]; rfl)) ?_; (with_reducible refine (spec_GoodGraph.calls k _ _ l0_0 true _ ?side1 ?side2 A6.out).mono ?_); (case side1 => repeat (first | exact (Kd.C_below HR0_0.out HB.out) | (with_reducible refine Kd.C_alloc ?_ _) | (with_reducible refine Kd.C_drewN ?_ _) | (with_reducible refine Kd.C_drew ?_))); (case side2 => exact HC0_0.out); rintro e w15 ⟨rfl, hb⟩; refine ⟨_, rfl, ?_⟩; have n0_ := Aside0.mk (blk_below (g := gb164) (o := .cells #[.slice A0_0 l0_0.length c0_0] 28 (0, 0)) (by (with_reducible repeat (first | refine blk_drewN ?_ _ | refine blk_drew ?_ | refine blk_alloc ?_ _)); exact BK164.out) hb); have n1_ := Aside0.mk (below_step (by repeat (first | (with_reducible first | exact HB.out | apply below_alloc | apply pw_below_drewN | apply below_drew1 | refine below_set ?_ GE164.out) | exact HB.out)) hb); clear BK164; clear HB; have BK164 := n0_; have HB := n1_; clear n0_ n1_; (try clear hb); (try clear hb2); (try clear hk); (try clear hi); have hcz16_0 : w15.cell? ⟨gb164, 0, none⟩ = some (.slice A0_0 l0_0.length c0_0) := (blk_cell BK164.out 0).trans rfl; have hfz16_0 := blk_frozen BK164.out 0) | ((with_reducible refine gate_dst (N := 22) rfl ?_); (try (refine gate_guard (by rfl) ?_; dsimp only)); refine Kd.R_lit (Kd.int .i64) _ 3 ?hg (N := 22) ?hd (xs := ([a1] : List Int)) (inner := [.int .i64 a1]) (ok := fun _ => True) (okp := fun _ => True) ?hr ?hp (fun _ hk => hk) trivial (Below.refl _ _) (Nat.le_refl _) (by simp) ?_; (case hd => rfl); (case hg => rfl); (case hr => first | (go_simp; done) | (go_simp; rfl)); (case hp => exact (Reps.one (show Kd.M (Kd.int .i64) _ _ _ a1 [.int .i64 a1] from rfl) (Reps.none _ _))); intro v167 w17 ho18 hb hg_ hnew_; clear hg_ hnew_; (first | rw [← Ny166.out] at ho18 | (simp only [Int.reduceToNat] at ho18; rw [← Ny166.out] at ho18)); have n0_ := Aside0.mk (Kd.R_lower ho18 (below_size (by repeat (first | (with_reducible first | exact HB.out | apply below_alloc | apply pw_below_drewN | apply below_drew1 | refine below_set ?_ GE164.out) | exact HB.out)))); have n1_ := Aside0.mk (blk_below (g := gb164) (o := .cells #[.slice A0_0 l0_0.length c0_0] 28 (0, 0)) (by (with_reducible repeat (first | refine blk_drewN ?_ _ | refine blk_drew ?_ | refine blk_alloc ?_ _)); exact BK164.out) hb); have n2_ := Aside0.mk (below_step (by repeat (first | (with_reducible first | exact HB.out | apply below_alloc | apply pw_below_drewN | apply below_drew1 | refine below_set ?_ GE164.out) | exact HB.out)) hb); clear BK164; clear HB; have HO168 := n0_; have BK164 := n1_; have HB := n2_; clear n0_ n1_ n2_; clear hb ho18; obtain ⟨Ao19, co19, eo19⟩ := Kd.R_slice HO168.out; subst eo19) | (go_at_call 40; (with_reducible refine (spec_l11Blocks.calls k _ _ l0_0 _ _ y166 true _ ?side1 ?side2 ?side3 ?side4 A11.out).mono ?_); (case side1 => repeat (first | exact (Kd.C_below HR0_0.out HB.out) | (with_reducible refine Kd.C_alloc ?_ _) | (with_reducible refine Kd.C_drewN ?_ _) | (with_reducible refine Kd.C_drew ?_))); (case side2 => exact HC0_0.out); (case side3 => repeat (first | exact (Kd.R_reads' HO168.out).2.2 | (with_reducible refine Kd.C_alloc ?_ _) | (with_reducible refine Kd.C_drewN ?_ _) | (with_reducible refine Kd.C_drew ?_))); (case side4 => exact (Kd.R_reads' HO168.out).2.1); rintro e w20 ⟨rfl, hb⟩; have n0_ := Aside0.mk (Kd.R_below (by (with_reducible repeat (first | apply Kd.R_alloc | apply Kd.R_drewN | apply Kd.R_drew)); exact HO168.out) hb); have n1_ := Aside0.mk (blk_below (g := gb164) (o := .cells #[.slice A0_0 l0_0.length c0_0] 28 (0, 0)) (by (with_reducible repeat (first | refine blk_drewN ?_ _ | refine blk_drew ?_ | refine blk_alloc ?_ _)); exact BK164.out) hb); have n2_ := Aside0.mk (below_step (by repeat (first | (with_reducible first | exact HB.out | apply below_alloc | apply pw_below_drewN | apply below_drew1 | refine below_set ?_ GE164.out) | exact HB.out)) hb); clear HO168; clear BK164; clear HB; have HO168 := n0_; have BK164 := n1_; have HB := n2_; clear n0_ n1_ n2_; (try clear hb); (try clear hb2); (try clear hk); (try clear hi); have hcz21_0 : w20.cell? ⟨gb164, 0, none⟩ = some (.slice A0_0 l0_0.length c0_0) := (blk_cell BK164.out 0).trans rfl; have hfz21_0 := blk_frozen BK164.out 0) | ((with_reducible refine gate_dst (N := 29) rfl ?_); (try (refine gate_guard (by rfl) ?_; dsimp only)); refine Kd.R_lit (Kd.int .i64) _ 3 ?hg (N := 29) ?hd (xs := ([a2] : List Int)) (inner := [.int .i64 a2]) (ok := fun _ => True) (okp := fun _ => True) ?hr ?hp (fun _ hk => hk) trivial (Below.refl _ _) (Nat.le_refl _) (by simp) ?_; (case hd => rfl); (case hg => rfl); (case hr => first | (go_simp; done) | (go_simp; rfl)); (case hp => exact (Reps.one (show Kd.M (Kd.int .i64) _ _ _ a2 [.int .i64 a2] from rfl) (Reps.none _ _))); intro v171 w22 ho23 hb hg_ hnew_; clear hg_ hnew_; (first | rw [← Ny170.out] at ho23 | (simp only [Int.reduceToNat] at ho23; rw [← Ny170.out] at ho23)); have n0_ := Aside0.mk (Kd.R_elder' (by (with_reducible repeat (first | apply Kd.R_alloc | apply Kd.R_drewN | apply Kd.R_drew)); exact HO168.out) (Kd.R_base ho23) hb); have n1_ := Aside0.mk (Kd.R_lower (Kd.R_new' ho23 (Kd.R_lt (by (with_reducible repeat (first | apply Kd.R_alloc | apply Kd.R_drewN | apply Kd.R_drew)); exact HO168.out))) (below_size (by repeat (first | (with_reducible first | exact HB.out | apply below_alloc | apply pw_below_drewN | apply below_drew1 | refine below_set ?_ GE164.out) | exact HB.out)))); have n2_ := Aside0.mk (blk_below (g := gb164) (o := .cells #[.slice A0_0 l0_0.length c0_0] 28 (0, 0)) (by (with_reducible repeat (first | refine blk_drewN ?_ _ | refine blk_drew ?_ | refine blk_alloc ?_ _)); exact BK164.out) hb); have n3_ := Aside0.mk (below_step (by repeat (first | (with_reducible first | exact HB.out | apply below_alloc | apply pw_below_drewN | apply below_drew1 | refine below_set ?_ GE164.out) | exact HB.out)) hb); clear HO168; clear BK164; clear HB; have HO168 := n0_; have HO172 := n1_; have BK164 := n2_; have HB := n3_; clear n0_ n1_ n2_ n3_; clear hb ho23; obtain ⟨Ao24, co24, eo24⟩ := Kd.R_slice HO172.out; subst eo24) | (go_at_call 40; (with_reducible refine (spec_l11Blocks.calls k _ _ l0_0 _ _ y170 t173 _ ?side1 ?side2 ?side3 ?side4 A13.out).mono ?_); (case side1 => repeat (first | exact (Kd.C_below HR0_0.out HB.out) | (with_reducible refine Kd.C_alloc ?_ _) | (with_reducible refine Kd.C_drewN ?_ _) | (with_reducible refine Kd.C_drew ?_))); (case side2 => exact HC0_0.out); (case side3 => repeat (first | exact (Kd.R_reads' HO172.out).2.2 | (with_reducible refine Kd.C_alloc ?_ _) | (with_reducible refine Kd.C_drewN ?_ _) | (with_reducible refine Kd.C_drew ?_))); (case side4 => exact (Kd.R_reads' HO172.out).2.1); rintro e w25 ⟨rfl, hb⟩; have n0_ := Aside0.mk (Kd.R_below (by (with_reducible repeat (first | apply Kd.R_alloc | apply Kd.R_drewN | apply Kd.R_drew)); exact HO168.out) hb); have n1_ := Aside0.mk (Kd.R_below (by (with_reducible repeat (first | apply Kd.R_alloc | apply Kd.R_drewN | apply Kd.R_drew)); exact HO172.out) hb); have n2_ := Aside0.mk (blk_below (g := gb164) (o := .cells #[.slice A0_0 l0_0.length c0_0] 28 (0, 0)) (by (with_reducible repeat (first | refine blk_drewN ?_ _ | refine blk_drew ?_ | refine blk_alloc ?_ _)); exact BK164.out) hb); have n3_ := Aside0.mk (below_step (by repeat (first | (with_reducible first | exact HB.out | apply below_alloc | apply pw_below_drewN | apply below_drew1 | refine below_set ?_ GE164.out) | exact HB.out)) hb); clear HO168; clear HO172; clear BK164; clear HB; have HO168 := n0_; have HO172 := n1_; have BK164 := n2_; have HB := n3_; clear n0_ n1_ n2_ n3_; (try clear hb); (try clear hb2); (try clear hk); (try clear hi)))
          go_meet
          case rel => exact ⟨_, (!t173), (by first | rfl | (simp; done) | (simp [*]; done)), H', ⟨by first | omega | exact Nat.le_refl _⟩, ⟨by (with_reducible repeat (first | refine blk_drewN ?_ _ | refine blk_drew ?_ | refine blk_alloc ?_ _)); exact BK164.out⟩, ⟨by repeat (first | (with_reducible first | exact HB.out | apply below_alloc | apply pw_below_drewN | apply below_drew1 | refine below_set ?_ GE164.out) | exact HB.out)⟩⟩
        · replace c12 := Bool.eq_false_iff.mpr c12
          subst c12
          have H1 : (spec_MeetingOf.j0 k a1 a2 true l0_0) = some (r1, r2) := by rw [if_neg (show ¬ (false = true) by decide)] at H; exact H
          clear H
          have H := H1
          clear H1
          have H' := Aside0.mk H
          clear H
          have hcz26_0 : w5.cell? ⟨gb164, 0, none⟩ = some (.slice A0_0 l0_0.length c0_0) := (blk_cell BK164.out 0).trans rfl
          have hfz26_0 := blk_frozen BK164.out 0
          go_wp2_with (first | ((with_reducible refine gate_callee (f := 39) rfl ?_); refine goesL_ (some 12) rfl rfl Try.func39 (by kernel_rfl) rfl #[.agg #[.slice A0_0 l0_0.length c0_0]] rfl (by (try simp only [List.map_toArray, List.map_cons, List.map_nil]); first | done | rfl | (simp only [List.length_drop, List.length_take]; rfl)) ?_; (with_reducible refine (spec_GoodGraph.calls k _ _ l0_0 true _ ?side1 ?side2 A6.out).mono ?_); (case side1 => repeat (first | exact (Kd.C_below HR0_0.out HB.out) | (with_reducible refine Kd.C_alloc ?_ _) | (with_reducible refine Kd.C_drewN ?_ _) | (with_reducible refine Kd.C_drew ?_))); (case side2 => exact HC0_0.out); rintro e w27 ⟨rfl, hb⟩; refine ⟨_, rfl, ?_⟩; have n0_ := Aside0.mk (blk_below (g := gb164) (o := .cells #[.slice A0_0 l0_0.length c0_0] 28 (0, 0)) (by (with_reducible repeat (first | refine blk_drewN ?_ _ | refine blk_drew ?_ | refine blk_alloc ?_ _)); exact BK164.out) hb); have n1_ := Aside0.mk (below_step (by repeat (first | (with_reducible first | exact HB.out | apply below_alloc | apply pw_below_drewN | apply below_drew1 | refine below_set ?_ GE164.out) | exact HB.out)) hb); clear BK164; clear HB; have BK164 := n0_; have HB := n1_; clear n0_ n1_; (try clear hb); (try clear hb2); (try clear hk); (try clear hi); have hcz28_0 : w27.cell? ⟨gb164, 0, none⟩ = some (.slice A0_0 l0_0.length c0_0) := (blk_cell BK164.out 0).trans rfl; have hfz28_0 := blk_frozen BK164.out 0) | ((with_reducible refine gate_dst (N := 22) rfl ?_); (try (refine gate_guard (by rfl) ?_; dsimp only)); refine Kd.R_lit (Kd.int .i64) _ 3 ?hg (N := 22) ?hd (xs := ([a1] : List Int)) (inner := [.int .i64 a1]) (ok := fun _ => True) (okp := fun _ => True) ?hr ?hp (fun _ hk => hk) trivial (Below.refl _ _) (Nat.le_refl _) (by simp) ?_; (case hd => rfl); (case hg => rfl); (case hr => first | (go_simp; done) | (go_simp; rfl)); (case hp => exact (Reps.one (show Kd.M (Kd.int .i64) _ _ _ a1 [.int .i64 a1] from rfl) (Reps.none _ _))); intro v167 w29 ho30 hb hg_ hnew_; clear hg_ hnew_; (first | rw [← Ny166.out] at ho30 | (simp only [Int.reduceToNat] at ho30; rw [← Ny166.out] at ho30)); have n0_ := Aside0.mk (Kd.R_lower ho30 (below_size (by repeat (first | (with_reducible first | exact HB.out | apply below_alloc | apply pw_below_drewN | apply below_drew1 | refine below_set ?_ GE164.out) | exact HB.out)))); have n1_ := Aside0.mk (blk_below (g := gb164) (o := .cells #[.slice A0_0 l0_0.length c0_0] 28 (0, 0)) (by (with_reducible repeat (first | refine blk_drewN ?_ _ | refine blk_drew ?_ | refine blk_alloc ?_ _)); exact BK164.out) hb); have n2_ := Aside0.mk (below_step (by repeat (first | (with_reducible first | exact HB.out | apply below_alloc | apply pw_below_drewN | apply below_drew1 | refine below_set ?_ GE164.out) | exact HB.out)) hb); clear BK164; clear HB; have HO168 := n0_; have BK164 := n1_; have HB := n2_; clear n0_ n1_ n2_; clear hb ho30; obtain ⟨Ao31, co31, eo31⟩ := Kd.R_slice HO168.out; subst eo31) | (go_at_call 40; (with_reducible refine (spec_l11Blocks.calls k _ _ l0_0 _ _ y166 false _ ?side1 ?side2 ?side3 ?side4 A11.out).mono ?_); (case side1 => repeat (first | exact (Kd.C_below HR0_0.out HB.out) | (with_reducible refine Kd.C_alloc ?_ _) | (with_reducible refine Kd.C_drewN ?_ _) | (with_reducible refine Kd.C_drew ?_))); (case side2 => exact HC0_0.out); (case side3 => repeat (first | exact (Kd.R_reads' HO168.out).2.2 | (with_reducible refine Kd.C_alloc ?_ _) | (with_reducible refine Kd.C_drewN ?_ _) | (with_reducible refine Kd.C_drew ?_))); (case side4 => exact (Kd.R_reads' HO168.out).2.1); rintro e w32 ⟨rfl, hb⟩; have n0_ := Aside0.mk (Kd.R_below (by (with_reducible repeat (first | apply Kd.R_alloc | apply Kd.R_drewN | apply Kd.R_drew)); exact HO168.out) hb); have n1_ := Aside0.mk (blk_below (g := gb164) (o := .cells #[.slice A0_0 l0_0.length c0_0] 28 (0, 0)) (by (with_reducible repeat (first | refine blk_drewN ?_ _ | refine blk_drew ?_ | refine blk_alloc ?_ _)); exact BK164.out) hb); have n2_ := Aside0.mk (below_step (by repeat (first | (with_reducible first | exact HB.out | apply below_alloc | apply pw_below_drewN | apply below_drew1 | refine below_set ?_ GE164.out) | exact HB.out)) hb); clear HO168; clear BK164; clear HB; have HO168 := n0_; have BK164 := n1_; have HB := n2_; clear n0_ n1_ n2_; (try clear hb); (try clear hb2); (try clear hk); (try clear hi)))
          go_meet
          case rel => exact ⟨_, (true), (by first | rfl | (simp; done) | (simp [*]; done)), H', ⟨by first | omega | exact Nat.le_refl _⟩, ⟨by (with_reducible repeat (first | refine blk_drewN ?_ _ | refine blk_drew ?_ | refine blk_alloc ?_ _)); exact BK164.out⟩, ⟨by repeat (first | (with_reducible first | exact HB.out | apply below_alloc | apply pw_below_drewN | apply below_drew1 | refine below_set ?_ GE164.out) | exact HB.out)⟩⟩
    · replace c7 := Bool.eq_false_iff.mpr c7
      subst c7
      have H1 : (spec_MeetingOf.j0 k a1 a2 true l0_0) = some (r1, r2) := by rw [if_neg (show ¬ (false = true) by decide)] at H; exact H
      clear H
      have H := H1
      clear H1
      have H' := Aside0.mk H
      clear H
      have hcz33_0 : w5.cell? ⟨gb164, 0, none⟩ = some (.slice A0_0 l0_0.length c0_0) := (blk_cell BK164.out 0).trans rfl
      have hfz33_0 := blk_frozen BK164.out 0
      go_wp2_with (first | ((with_reducible refine gate_callee (f := 39) rfl ?_); refine goesL_ (some 12) rfl rfl Try.func39 (by kernel_rfl) rfl #[.agg #[.slice A0_0 l0_0.length c0_0]] rfl (by (try simp only [List.map_toArray, List.map_cons, List.map_nil]); first | done | rfl | (simp only [List.length_drop, List.length_take]; rfl)) ?_; (with_reducible refine (spec_GoodGraph.calls k _ _ l0_0 false _ ?side1 ?side2 A6.out).mono ?_); (case side1 => repeat (first | exact (Kd.C_below HR0_0.out HB.out) | (with_reducible refine Kd.C_alloc ?_ _) | (with_reducible refine Kd.C_drewN ?_ _) | (with_reducible refine Kd.C_drew ?_))); (case side2 => exact HC0_0.out); rintro e w34 ⟨rfl, hb⟩; refine ⟨_, rfl, ?_⟩; have n0_ := Aside0.mk (blk_below (g := gb164) (o := .cells #[.slice A0_0 l0_0.length c0_0] 28 (0, 0)) (by (with_reducible repeat (first | refine blk_drewN ?_ _ | refine blk_drew ?_ | refine blk_alloc ?_ _)); exact BK164.out) hb); have n1_ := Aside0.mk (below_step (by repeat (first | (with_reducible first | exact HB.out | apply below_alloc | apply pw_below_drewN | apply below_drew1 | refine below_set ?_ GE164.out) | exact HB.out)) hb); clear BK164; clear HB; have BK164 := n0_; have HB := n1_; clear n0_ n1_; (try clear hb); (try clear hb2); (try clear hk); (try clear hi)))
      go_meet
      case rel => exact ⟨_, (true), (by first | rfl | (simp; done) | (simp [*]; done)), H', ⟨by first | omega | exact Nat.le_refl _⟩, ⟨by (with_reducible repeat (first | refine blk_drewN ?_ _ | refine blk_drew ?_ | refine blk_alloc ?_ _)); exact BK164.out⟩, ⟨by repeat (first | (with_reducible first | exact HB.out | apply below_alloc | apply pw_below_drewN | apply below_drew1 | refine below_set ?_ GE164.out) | exact HB.out)⟩⟩
  case rest =>
    clear HC4
    try clear c1
    try clear p2
    try clear c3
    try clear c7
    try clear c8
    try clear c8b0
    try clear c8b1
    try clear c9
    try clear c12
    try clear hcz14_0
    try clear hcz16_0
    try clear hcz21_0
    try clear hcz26_0
    try clear hcz28_0
    try clear hcz33_0
    try clear hcz9_0
    try clear hfz14_0
    try clear hfz16_0
    try clear hfz21_0
    try clear hfz26_0
    try clear hfz28_0
    try clear hfz33_0
    try clear hfz9_0
    obtain ⟨kq, x32_3, rfl, HA, HJ3, BK164, HB⟩ := hcut
    cases kq with
    | zero => exact absurd HA.out (by simp [spec_MeetingOf.j0])
    | succ kj3 =>
      have H := HA.out
      clear HA
      simp only [spec_MeetingOf.j0] at H
      by_cases c35 : x32_3 = true
      · subst c35
        have H1 : (some (false, false)) = some (r1, r2) := by rw [if_pos rfl] at H; exact H
        clear H
        have H := H1
        clear H1
        simp only [Option.some.injEq, Prod.mk.injEq] at H
        obtain ⟨rfl, rfl⟩ := H
        go_wp2
        go_ret2
        exact ⟨by first | rfl | (simp [errW_none, errW_some] <;> rfl) | (simp [*, errW_none, errW_some] <;> rfl), by repeat (first | (with_reducible first | exact HB.out | apply below_alloc | apply pw_below_drewN | apply below_drew1 | refine below_set ?_ GE164.out) | exact HB.out)⟩
      · replace c35 := Bool.eq_false_iff.mpr c35
        subst c35
        have H1 : ((spec_l11Joins.f l0_0 (([a1] : List Int))).bind fun t177 => ((spec_l1Put.f kj3 t177 a1).bind fun t180 => ((spec_l11Joins.f l0_0 (([a2] : List Int))).bind fun t186 => ((spec_l1Put.f kj3 t186 a2).bind fun t189 => (spec_MeetingOf.l0 kj3 t180 t189 (t189.length : Int) 0))))) = some (r1, r2) := by rw [if_neg (show ¬ (false = true) by decide)] at H; exact H
        clear H
        have H := H1
        clear H1
        obtain ⟨y174, hy174⟩ : ∃ y_ : List Int, y_ = (([a1] : List Int)) := ⟨_, rfl⟩
        replace H : ((spec_l11Joins.f l0_0 y174).bind fun t177 => ((spec_l1Put.f kj3 t177 a1).bind fun t180 => ((spec_l11Joins.f l0_0 (([a2] : List Int))).bind fun t186 => ((spec_l1Put.f kj3 t186 a2).bind fun t189 => (spec_MeetingOf.l0 kj3 t180 t189 (t189.length : Int) 0))))) = some (r1, r2) := by first | (rw [hy174]; with_reducible exact H) | (have H2_ := (Option.bind_some _ _).symm.trans H; rw [hy174]; with_reducible exact H2_) | (have H2_ := (Option.bind_some _ _).symm.trans H; with_reducible exact H2_) | with_reducible exact H | (rw [hy174]; exact H) | exact H
        have Ny174 := Aside0.mk hy174
        clear hy174
        replace H := Option.bind_eq_some_iff.mp H
        obtain ⟨t177, A360, H⟩ := H
        replace H : ((spec_l1Put.f kj3 t177 a1).bind fun t180 => ((spec_l11Joins.f l0_0 (([a2] : List Int))).bind fun t186 => ((spec_l1Put.f kj3 t186 a2).bind fun t189 => (spec_MeetingOf.l0 kj3 t180 t189 (t189.length : Int) 0)))) = some (r1, r2) := H
        have A36 := Aside0.mk A360
        clear A360
        replace H := Option.bind_eq_some_iff.mp H
        obtain ⟨t180, A370, H⟩ := H
        replace H : ((spec_l11Joins.f l0_0 (([a2] : List Int))).bind fun t186 => ((spec_l1Put.f kj3 t186 a2).bind fun t189 => (spec_MeetingOf.l0 kj3 t180 t189 (t189.length : Int) 0))) = some (r1, r2) := H
        have A37 := Aside0.mk A370
        clear A370
        obtain ⟨y183, hy183⟩ : ∃ y_ : List Int, y_ = (([a2] : List Int)) := ⟨_, rfl⟩
        replace H : ((spec_l11Joins.f l0_0 y183).bind fun t186 => ((spec_l1Put.f kj3 t186 a2).bind fun t189 => (spec_MeetingOf.l0 kj3 t180 t189 (t189.length : Int) 0))) = some (r1, r2) := by first | (rw [hy183]; with_reducible exact H) | (have H2_ := (Option.bind_some _ _).symm.trans H; rw [hy183]; with_reducible exact H2_) | (have H2_ := (Option.bind_some _ _).symm.trans H; with_reducible exact H2_) | with_reducible exact H | (rw [hy183]; exact H) | exact H
        have Ny183 := Aside0.mk hy183
        clear hy183
        replace H := Option.bind_eq_some_iff.mp H
        obtain ⟨t186, A380, H⟩ := H
        replace H : ((spec_l1Put.f kj3 t186 a2).bind fun t189 => (spec_MeetingOf.l0 kj3 t180 t189 (t189.length : Int) 0)) = some (r1, r2) := H
        have A38 := Aside0.mk A380
        clear A380
        replace H := Option.bind_eq_some_iff.mp H
        obtain ⟨t189, A390, H⟩ := H
        replace H : (spec_MeetingOf.l0 kj3 t180 t189 (t189.length : Int) 0) = some (r1, r2) := H
        have A39 := Aside0.mk A390
        clear A390
        have H' := Aside0.mk H
        clear H
        have hcz40_0 : wc.cell? ⟨gb164, 0, none⟩ = some (.slice A0_0 l0_0.length c0_0) := (blk_cell BK164.out 0).trans rfl
        have hfz40_0 := blk_frozen BK164.out 0
        go_wp2_with (first | ((with_reducible refine gate_dst (N := 35) rfl ?_); (try (refine gate_guard (by rfl) ?_; dsimp only)); refine Kd.R_lit (Kd.int .i64) _ 3 ?hg (N := 35) ?hd (xs := ([a1] : List Int)) (inner := [.int .i64 a1]) (ok := fun _ => True) (okp := fun _ => True) ?hr ?hp (fun _ hk => hk) trivial (Below.refl _ _) (Nat.le_refl _) (by simp) ?_; (case hd => rfl); (case hg => rfl); (case hr => first | (go_simp; done) | (go_simp; rfl)); (case hp => exact (Reps.one (show Kd.M (Kd.int .i64) _ _ _ a1 [.int .i64 a1] from rfl) (Reps.none _ _))); intro v175 w41 ho42 hb hg_ hnew_; clear hg_ hnew_; (first | rw [← Ny174.out] at ho42 | (simp only [Int.reduceToNat] at ho42; rw [← Ny174.out] at ho42)); have n0_ := Aside0.mk (Kd.R_lower ho42 (below_size (by repeat (first | (with_reducible first | exact HB.out | apply below_alloc | apply pw_below_drewN | apply below_drew1 | refine below_set ?_ GE164.out) | exact HB.out)))); have n1_ := Aside0.mk (blk_below (g := gb164) (o := .cells #[.slice A0_0 l0_0.length c0_0] 28 (0, 0)) (by (with_reducible repeat (first | refine blk_drewN ?_ _ | refine blk_drew ?_ | refine blk_alloc ?_ _)); exact BK164.out) hb); have n2_ := Aside0.mk (below_step (by repeat (first | (with_reducible first | exact HB.out | apply below_alloc | apply pw_below_drewN | apply below_drew1 | refine below_set ?_ GE164.out) | exact HB.out)) hb); clear BK164; clear HB; have HO176 := n0_; have BK164 := n1_; have HB := n2_; clear n0_ n1_ n2_; clear hb ho42; obtain ⟨Ao43, co43, eo43⟩ := Kd.R_slice HO176.out; subst eo43) | ((with_reducible refine gate_callee (f := 42) rfl ?_); refine goesL_ (some 36) rfl rfl Try.func42 (by kernel_rfl) rfl #[.agg #[.slice A0_0 l0_0.length c0_0], .slice Ao43 y174.length co43] rfl (by (try simp only [List.map_toArray, List.map_cons, List.map_nil]); first | done | rfl | (simp only [List.length_drop, List.length_take]; rfl)) ?_; (with_reducible refine (spec_l11Joins.calls _ _ l0_0 _ _ y174 t177 _ ?side1 ?side2 ?side3 ?side4 A36.out).mono ?_); (case side1 => repeat (first | exact (Kd.C_below HR0_0.out HB.out) | (with_reducible refine Kd.C_alloc ?_ _) | (with_reducible refine Kd.C_drewN ?_ _) | (with_reducible refine Kd.C_drew ?_))); (case side2 => exact HC0_0.out); (case side3 => repeat (first | exact (Kd.R_reads' HO176.out).2.2 | (with_reducible refine Kd.C_alloc ?_ _) | (with_reducible refine Kd.C_drewN ?_ _) | (with_reducible refine Kd.C_drew ?_))); (case side4 => exact (Kd.R_reads' HO176.out).2.1); rintro e w44 ⟨v178, rfl, ho0, hb⟩; refine ⟨_, rfl, ?_⟩; have n0_ := Aside0.mk (Kd.R_elder' (by (with_reducible repeat (first | apply Kd.R_alloc | apply Kd.R_drewN | apply Kd.R_drew)); exact HO176.out) (Kd.R_base ho0) hb); have n1_ := Aside0.mk (Kd.R_lower (Kd.R_new' ho0 (Kd.R_lt (by (with_reducible repeat (first | apply Kd.R_alloc | apply Kd.R_drewN | apply Kd.R_drew)); exact HO176.out))) (below_size (by repeat (first | (with_reducible first | exact HB.out | apply below_alloc | apply pw_below_drewN | apply below_drew1 | refine below_set ?_ GE164.out) | exact HB.out)))); have n2_ := Aside0.mk (blk_below (g := gb164) (o := .cells #[.slice A0_0 l0_0.length c0_0] 28 (0, 0)) (by (with_reducible repeat (first | refine blk_drewN ?_ _ | refine blk_drew ?_ | refine blk_alloc ?_ _)); exact BK164.out) hb); have n3_ := Aside0.mk (below_step (by repeat (first | (with_reducible first | exact HB.out | apply below_alloc | apply pw_below_drewN | apply below_drew1 | refine below_set ?_ GE164.out) | exact HB.out)) hb); clear HO176; clear BK164; clear HB; have HO176 := n0_; have HO179 := n1_; have BK164 := n2_; have HB := n3_; clear n0_ n1_ n2_ n3_; (try clear hb); (try clear hb2); (try clear hk); (try clear hi); (try clear ho0); obtain ⟨Ao45, co45, eo45⟩ := Kd.R_slice HO179.out; subst eo45) | ((with_reducible refine gate_callee (f := 41) rfl ?_); refine goesL_ (some 38) rfl rfl Try.func41 (by kernel_rfl) rfl #[.slice Ao45 t177.length co45, .int .i64 a1] rfl (by (try simp only [List.map_toArray, List.map_cons, List.map_nil]); first | done | rfl | (simp only [List.length_drop, List.length_take]; rfl)) ?_; (with_reducible refine (spec_l1Put.calls kj3 (fun k_ => some k_ = (.slice Ao45 t177.length co45 : Value).ownBlock) (.slice Ao45 t177.length co45) t177 a1 t180 w _ ?side1 ?side2 A37.out).mono ?_); (case side1 => repeat (first | (with_reducible first | exact HB.out | apply below_alloc | apply pw_below_drewN | apply below_drew1 | refine below_set ?_ GE164.out) | exact HB.out)); (case side2 => exact Kd.R_tight rfl HO179.out); rintro e w46 ⟨v181, rfl, ho0, hb, hkp⟩; refine ⟨_, rfl, ?_⟩; have n0_ := Aside0.mk (blk_kept (by (with_reducible repeat (first | refine blk_drewN ?_ _ | refine blk_drew ?_ | refine blk_alloc ?_ _)); exact BK164.out) hkp (fun hs_ => (fun e_ => (Kd.R_ne HO179.out BK164.out (by decide)) e_) hs_)); have n1_ := Aside0.mk (Kd.R_mono (ok' := fun k_ => some k_ ≠ (v181 : Value).ownBlock) (Kd.R_keptB (HO176.out) hkp (fun k_ hk_ hs_ => (hk_.2) hs_)) (fun k_ hk_ => fun e_ => Or.elim (ho0.1 k_ e_.symm) (fun hs_ => hk_.2.1 hs_) (fun hn_ => Nat.not_le.2 hk_.2.2 hn_))); have n2_ := Aside0.mk (Kd.R_mono (ok' := fun k_ => some k_ ≠ (.slice Ao43 y174.length co43 : Value).ownBlock) ho0 (fun k_ hk_ => Or.elim hk_ (fun hs_ => fun e_ => (((HO176.out).1 k_ e_.symm).2) hs_) (fun hn_ => (Kd.fresh' (Kd.R_lt (by (with_reducible repeat (first | apply Kd.R_alloc | apply Kd.R_drewN | apply Kd.R_drew)); exact HO176.out)) k_ hn_)))); have n3_ := Aside0.mk (hb); clear BK164; clear HO176; clear HB; clear HO179; have BK164 := n0_; have HO176 := n1_; have HO182 := n2_; have HB := n3_; clear n0_ n1_ n2_ n3_; (try clear hb); (try clear hkp); (try clear ho0); have hcz47_0 : w46.cell? ⟨gb164, 0, none⟩ = some (.slice A0_0 l0_0.length c0_0) := (blk_cell BK164.out 0).trans rfl; have hfz47_0 := blk_frozen BK164.out 0) | ((with_reducible refine gate_dst (N := 41) rfl ?_); (try (refine gate_guard (by rfl) ?_; dsimp only)); refine Kd.R_lit (Kd.int .i64) _ 3 ?hg (N := 41) ?hd (xs := ([a2] : List Int)) (inner := [.int .i64 a2]) (ok := fun _ => True) (okp := fun _ => True) ?hr ?hp (fun _ hk => hk) trivial (Below.refl _ _) (Nat.le_refl _) (by simp) ?_; (case hd => rfl); (case hg => rfl); (case hr => first | (go_simp; done) | (go_simp; rfl)); (case hp => exact (Reps.one (show Kd.M (Kd.int .i64) _ _ _ a2 [.int .i64 a2] from rfl) (Reps.none _ _))); intro v184 w48 ho49 hb hg_ hnew_; clear hg_ hnew_; (first | rw [← Ny183.out] at ho49 | (simp only [Int.reduceToNat] at ho49; rw [← Ny183.out] at ho49)); have n0_ := Aside0.mk (Kd.R_elder' (by (with_reducible repeat (first | apply Kd.R_alloc | apply Kd.R_drewN | apply Kd.R_drew)); exact HO176.out) (Kd.R_base ho49) hb); have n1_ := Aside0.mk (Kd.R_elder' (by (with_reducible repeat (first | apply Kd.R_alloc | apply Kd.R_drewN | apply Kd.R_drew)); exact HO182.out) (Kd.R_base ho49) hb); have n2_ := Aside0.mk (Kd.R_lower (Kd.R_new' (Kd.R_new' ho49 (Kd.R_lt (by (with_reducible repeat (first | apply Kd.R_alloc | apply Kd.R_drewN | apply Kd.R_drew)); exact HO176.out))) (Kd.R_lt (by (with_reducible repeat (first | apply Kd.R_alloc | apply Kd.R_drewN | apply Kd.R_drew)); exact HO182.out))) (below_size (by repeat (first | (with_reducible first | exact HB.out | apply below_alloc | apply pw_below_drewN | apply below_drew1 | refine below_set ?_ GE164.out) | exact HB.out)))); have n3_ := Aside0.mk (blk_below (g := gb164) (o := .cells #[.slice A0_0 l0_0.length c0_0] 28 (0, 0)) (by (with_reducible repeat (first | refine blk_drewN ?_ _ | refine blk_drew ?_ | refine blk_alloc ?_ _)); exact BK164.out) hb); have n4_ := Aside0.mk (below_step (by repeat (first | (with_reducible first | exact HB.out | apply below_alloc | apply pw_below_drewN | apply below_drew1 | refine below_set ?_ GE164.out) | exact HB.out)) hb); clear HO176; clear HO182; clear BK164; clear HB; have HO176 := n0_; have HO182 := n1_; have HO185 := n2_; have BK164 := n3_; have HB := n4_; clear n0_ n1_ n2_ n3_ n4_; clear hb ho49; obtain ⟨Ao50, co50, eo50⟩ := Kd.R_slice HO185.out; subst eo50) | ((with_reducible refine gate_callee (f := 42) rfl ?_); refine goesL_ (some 42) rfl rfl Try.func42 (by kernel_rfl) rfl #[.agg #[.slice A0_0 l0_0.length c0_0], .slice Ao50 y183.length co50] rfl (by (try simp only [List.map_toArray, List.map_cons, List.map_nil]); first | done | rfl | (simp only [List.length_drop, List.length_take]; rfl)) ?_; (with_reducible refine (spec_l11Joins.calls _ _ l0_0 _ _ y183 t186 _ ?side1 ?side2 ?side3 ?side4 A38.out).mono ?_); (case side1 => repeat (first | exact (Kd.C_below HR0_0.out HB.out) | (with_reducible refine Kd.C_alloc ?_ _) | (with_reducible refine Kd.C_drewN ?_ _) | (with_reducible refine Kd.C_drew ?_))); (case side2 => exact HC0_0.out); (case side3 => repeat (first | exact (Kd.R_reads' HO185.out).2.2 | (with_reducible refine Kd.C_alloc ?_ _) | (with_reducible refine Kd.C_drewN ?_ _) | (with_reducible refine Kd.C_drew ?_))); (case side4 => exact (Kd.R_reads' HO185.out).2.1); rintro e w51 ⟨v187, rfl, ho0, hb⟩; refine ⟨_, rfl, ?_⟩; have n0_ := Aside0.mk (Kd.R_elder' (by (with_reducible repeat (first | apply Kd.R_alloc | apply Kd.R_drewN | apply Kd.R_drew)); exact HO176.out) (Kd.R_base ho0) hb); have n1_ := Aside0.mk (Kd.R_elder' (by (with_reducible repeat (first | apply Kd.R_alloc | apply Kd.R_drewN | apply Kd.R_drew)); exact HO182.out) (Kd.R_base ho0) hb); have n2_ := Aside0.mk (Kd.R_elder' (by (with_reducible repeat (first | apply Kd.R_alloc | apply Kd.R_drewN | apply Kd.R_drew)); exact HO185.out) (Kd.R_base ho0) hb); have n3_ := Aside0.mk (Kd.R_lower (Kd.R_new' (Kd.R_new' (Kd.R_new' ho0 (Kd.R_lt (by (with_reducible repeat (first | apply Kd.R_alloc | apply Kd.R_drewN | apply Kd.R_drew)); exact HO176.out))) (Kd.R_lt (by (with_reducible repeat (first | apply Kd.R_alloc | apply Kd.R_drewN | apply Kd.R_drew)); exact HO182.out))) (Kd.R_lt (by (with_reducible repeat (first | apply Kd.R_alloc | apply Kd.R_drewN | apply Kd.R_drew)); exact HO185.out))) (below_size (by repeat (first | (with_reducible first | exact HB.out | apply below_alloc | apply pw_below_drewN | apply below_drew1 | refine below_set ?_ GE164.out) | exact HB.out)))); have n4_ := Aside0.mk (blk_below (g := gb164) (o := .cells #[.slice A0_0 l0_0.length c0_0] 28 (0, 0)) (by (with_reducible repeat (first | refine blk_drewN ?_ _ | refine blk_drew ?_ | refine blk_alloc ?_ _)); exact BK164.out) hb); have n5_ := Aside0.mk (below_step (by repeat (first | (with_reducible first | exact HB.out | apply below_alloc | apply pw_below_drewN | apply below_drew1 | refine below_set ?_ GE164.out) | exact HB.out)) hb); clear HO176; clear HO182; clear HO185; clear BK164; clear HB; have HO176 := n0_; have HO182 := n1_; have HO185 := n2_; have HO188 := n3_; have BK164 := n4_; have HB := n5_; clear n0_ n1_ n2_ n3_ n4_ n5_; (try clear hb); (try clear hb2); (try clear hk); (try clear hi); (try clear ho0); obtain ⟨Ao52, co52, eo52⟩ := Kd.R_slice HO188.out; subst eo52) | ((with_reducible refine gate_callee (f := 41) rfl ?_); refine goesL_ (some 44) rfl rfl Try.func41 (by kernel_rfl) rfl #[.slice Ao52 t186.length co52, .int .i64 a2] rfl (by (try simp only [List.map_toArray, List.map_cons, List.map_nil]); first | done | rfl | (simp only [List.length_drop, List.length_take]; rfl)) ?_; (with_reducible refine (spec_l1Put.calls kj3 (fun k_ => some k_ = (.slice Ao52 t186.length co52 : Value).ownBlock) (.slice Ao52 t186.length co52) t186 a2 t189 w _ ?side1 ?side2 A39.out).mono ?_); (case side1 => repeat (first | (with_reducible first | exact HB.out | apply below_alloc | apply pw_below_drewN | apply below_drew1 | refine below_set ?_ GE164.out) | exact HB.out)); (case side2 => exact Kd.R_tight rfl HO188.out); rintro e w53 ⟨v190, rfl, ho0, hb, hkp⟩; refine ⟨_, rfl, ?_⟩; have n0_ := Aside0.mk (blk_kept (by (with_reducible repeat (first | refine blk_drewN ?_ _ | refine blk_drew ?_ | refine blk_alloc ?_ _)); exact BK164.out) hkp (fun hs_ => (fun e_ => (Kd.R_ne HO188.out BK164.out (by decide)) e_) hs_)); have n1_ := Aside0.mk (Kd.R_mono (ok' := fun k_ => some k_ ≠ (v181 : Value).ownBlock ∧ some k_ ≠ (.slice Ao50 y183.length co50 : Value).ownBlock ∧ some k_ ≠ (v190 : Value).ownBlock) (Kd.R_keptB (HO176.out) hkp (fun k_ hk_ hs_ => (hk_.2) hs_)) (fun k_ hk_ => ⟨hk_.1.1.1, hk_.1.1.2, fun e_ => Or.elim (ho0.1 k_ e_.symm) (fun hs_ => hk_.2.1 hs_) (fun hn_ => Nat.not_le.2 hk_.2.2 hn_)⟩)); have n2_ := Aside0.mk (Kd.R_mono (ok' := fun k_ => some k_ ≠ (.slice Ao43 y174.length co43 : Value).ownBlock ∧ some k_ ≠ (.slice Ao50 y183.length co50 : Value).ownBlock ∧ some k_ ≠ (v190 : Value).ownBlock) (Kd.R_keptB (HO182.out) hkp (fun k_ hk_ hs_ => (hk_.2) hs_)) (fun k_ hk_ => ⟨hk_.1.1.1, hk_.1.1.2, fun e_ => Or.elim (ho0.1 k_ e_.symm) (fun hs_ => hk_.2.1 hs_) (fun hn_ => Nat.not_le.2 hk_.2.2 hn_)⟩)); have n3_ := Aside0.mk (Kd.R_mono (ok' := fun k_ => some k_ ≠ (.slice Ao43 y174.length co43 : Value).ownBlock ∧ some k_ ≠ (v181 : Value).ownBlock ∧ some k_ ≠ (v190 : Value).ownBlock) (Kd.R_keptB (HO185.out) hkp (fun k_ hk_ hs_ => (hk_.2) hs_)) (fun k_ hk_ => ⟨hk_.1.1.1.2, hk_.1.1.2, fun e_ => Or.elim (ho0.1 k_ e_.symm) (fun hs_ => hk_.2.1 hs_) (fun hn_ => Nat.not_le.2 hk_.2.2 hn_)⟩)); have n4_ := Aside0.mk (Kd.R_mono (ok' := fun k_ => some k_ ≠ (.slice Ao43 y174.length co43 : Value).ownBlock ∧ some k_ ≠ (v181 : Value).ownBlock ∧ some k_ ≠ (.slice Ao50 y183.length co50 : Value).ownBlock) ho0 (fun k_ hk_ => ⟨Or.elim hk_ (fun hs_ => fun e_ => (((HO176.out).1 k_ e_.symm).2) hs_) (fun hn_ => (Kd.fresh' (Kd.R_lt (by (with_reducible repeat (first | apply Kd.R_alloc | apply Kd.R_drewN | apply Kd.R_drew)); exact HO176.out)) k_ hn_)), Or.elim hk_ (fun hs_ => fun e_ => (((HO182.out).1 k_ e_.symm).2) hs_) (fun hn_ => (Kd.fresh' (Kd.R_lt (by (with_reducible repeat (first | apply Kd.R_alloc | apply Kd.R_drewN | apply Kd.R_drew)); exact HO182.out)) k_ hn_)), Or.elim hk_ (fun hs_ => fun e_ => (((HO185.out).1 k_ e_.symm).2) hs_) (fun hn_ => (Kd.fresh' (Kd.R_lt (by (with_reducible repeat (first | apply Kd.R_alloc | apply Kd.R_drewN | apply Kd.R_drew)); exact HO185.out)) k_ hn_))⟩)); have n5_ := Aside0.mk (hb); clear BK164; clear HO176; clear HO182; clear HO185; clear HB; clear HO188; have BK164 := n0_; have HO176 := n1_; have HO182 := n2_; have HO185 := n3_; have HO191 := n4_; have HB := n5_; clear n0_ n1_ n2_ n3_ n4_ n5_; (try clear hb); (try clear hkp); (try clear ho0); obtain ⟨Ao54, co54, eo54⟩ := Kd.R_slice HO191.out; subst eo54))
        go_loopg [46] kj3 (fun kq v46 w' => ∃ (x46_2 : Int), v46 = .int .i64 x46_2 ∧ Aside0 (spec_MeetingOf.l0 kq t180 t189 (t189.length : Int) x46_2 = some (r1, r2)) ∧ Aside0 (kq ≤ kj3) ∧ Aside0 (Kd.R (Kd.int .i64) 3 w' w.heap.size (fun k_ => some k_ ≠ ((.slice Ao54 t189.length co54) : Value).ownBlock) v181 t180) ∧ Aside0 (Kd.R (Kd.int .i64) 3 w' w.heap.size (fun k_ => some k_ ≠ (v181 : Value).ownBlock) (.slice Ao54 t189.length co54) t189) ∧ Aside0 (w'.heap[gb164]? = some (.cells #[(.slice A0_0 l0_0.length c0_0)] 28 (0, 0))) ∧ Aside0 (Below w.heap.size w w'))
        case atStart => exact ⟨(0), (by first | rfl | (simp; done) | (simp [*]; done)), H', ⟨Nat.le_refl _⟩, ⟨by (with_reducible repeat (first | apply Kd.R_alloc | apply Kd.R_drewN | apply Kd.R_drew)); exact Kd.R_mono HO182.out (fun _ hk => hk.2.2)⟩, ⟨by (with_reducible repeat (first | apply Kd.R_alloc | apply Kd.R_drewN | apply Kd.R_drew)); exact Kd.R_mono HO191.out (fun _ hk => hk.2.1)⟩, ⟨by (with_reducible repeat (first | refine blk_drewN ?_ _ | refine blk_drew ?_ | refine blk_alloc ?_ _)); exact BK164.out⟩, ⟨by repeat (first | (with_reducible first | exact HB.out | apply below_alloc | apply pw_below_drewN | apply below_drew1 | refine below_set ?_ GE164.out) | exact HB.out)⟩⟩
        case round =>
          clear H'
          try clear c1
          try clear p2
          try clear c3
          try clear c4
          try clear c7
          try clear c8
          try clear c8b0
          try clear c8b1
          try clear c9
          try clear c12
          try clear c35
          try clear c39
          try clear c41
          try clear c42
          try clear hcz14_0
          try clear hcz16_0
          try clear hcz21_0
          try clear hcz26_0
          try clear hcz28_0
          try clear hcz33_0
          try clear hcz40_0
          try clear hcz47_0
          try clear hcz9_0
          try clear hfz14_0
          try clear hfz16_0
          try clear hfz21_0
          try clear hfz26_0
          try clear hfz28_0
          try clear hfz33_0
          try clear hfz40_0
          try clear hfz47_0
          try clear hfz9_0
          try clear p2
          obtain ⟨x46_2, rfl, HA, HK2, HO_8, HO_44, BK164, HB⟩ := hrel
          cases gk with
          | zero => exact absurd HA.out (by simp [spec_MeetingOf.l0])
          | succ k2 =>
            have H := HA.out
            clear HA
            simp only [spec_MeetingOf.l0] at H
            by_cases c55 : x46_2 < (t189.length : Int)
            · rw [if_pos c55] at H
              have c55b0 : decide (x46_2 < (t189.length : Int)) = true := decide_eq_true c55
              clear c55
              by_cases c56 : 0 ≤ x46_2
              · rw [if_pos c56] at H
                have c56b0 : decide (0 ≤ x46_2) = true := decide_eq_true c56
                clear c56
                by_cases c57 : x46_2 < (t189.length : Int)
                · rw [if_pos c57] at H
                  have c57b0 : decide (x46_2 < (t189.length : Int)) = true := decide_eq_true c57
                  clear c57
                  replace H := Option.bind_eq_some_iff.mp H
                  obtain ⟨t193, A580, H⟩ := H
                  replace H : (if t193 = true then (some (true, true)) else (spec_MeetingOf.l0 k2 t180 t189 (t189.length : Int) (wrap64 (x46_2 + 1)))) = some (r1, r2) := H
                  have A58 := Aside0.mk A580
                  clear A580
                  by_cases c59 : t193 = true
                  · subst c59
                    have H1 : (some (true, true)) = some (r1, r2) := by rw [if_pos rfl] at H; exact H
                    clear H
                    have H := H1
                    clear H1
                    simp only [Option.some.injEq, Prod.mk.injEq] at H
                    obtain ⟨rfl, rfl⟩ := H
                    have p192 : 0 ≤ (x46_2 : Int) := of_decide_eq_true (by first | (with_reducible assumption) | assumption)
                    have q192 : x46_2 < (t189.length : Int) := of_decide_eq_true (by first | (with_reducible assumption) | assumption)
                    obtain ⟨ad192, e192, hx192_0⟩ := Kd.at_int (Kd.R_reads' HO_44.out).2.2 x46_2 p192 q192
                    cases e192
                    replace p192 := eq_true p192
                    replace q192 := eq_true q192
                    obtain ⟨Ao60, co60, eo60⟩ := Kd.R_slice HO_8.out
                    subst eo60
                    go_wp2_with (first | ((with_reducible refine gate_callee (f := 43) rfl ?_); refine goesL_ (some 52) rfl rfl Try.func43 (by kernel_rfl) rfl #[.slice Ao60 t180.length co60, .int .i64 (rd t189 x46_2)] rfl (by (try simp only [List.map_toArray, List.map_cons, List.map_nil]); first | done | rfl | (simp only [List.length_drop, List.length_take]; rfl)) ?_; (with_reducible refine (spec_l1Has.calls k2 _ _ t180 (rd t189 x46_2) true _ ?side1 ?side2 A58.out).mono ?_); (case side1 => repeat (first | exact (Kd.R_reads' HO_8.out).2.2 | (with_reducible refine Kd.C_alloc ?_ _) | (with_reducible refine Kd.C_drewN ?_ _) | (with_reducible refine Kd.C_drew ?_))); (case side2 => exact (Kd.R_reads' HO_8.out).2.1); rintro e w' ⟨rfl, ⟨nd, rfl⟩⟩; refine ⟨_, rfl, ?_⟩))
                    go_ret2
                    exact ⟨by first | rfl | (simp [errW_none, errW_some] <;> rfl) | (simp [*, errW_none, errW_some] <;> rfl), by repeat (first | (with_reducible first | exact HB.out | apply below_alloc | apply pw_below_drewN | apply below_drew1 | refine below_set ?_ GE164.out) | exact HB.out)⟩
                  · replace c59 := Bool.eq_false_iff.mpr c59
                    subst c59
                    have H1 : (spec_MeetingOf.l0 k2 t180 t189 (t189.length : Int) (wrap64 (x46_2 + 1))) = some (r1, r2) := by rw [if_neg (show ¬ (false = true) by decide)] at H; exact H
                    clear H
                    have H := H1
                    clear H1
                    have H' := Aside0.mk H
                    clear H
                    have p192 : 0 ≤ (x46_2 : Int) := of_decide_eq_true (by first | (with_reducible assumption) | assumption)
                    have q192 : x46_2 < (t189.length : Int) := of_decide_eq_true (by first | (with_reducible assumption) | assumption)
                    obtain ⟨ad192, e192, hx192_0⟩ := Kd.at_int (Kd.R_reads' HO_44.out).2.2 x46_2 p192 q192
                    cases e192
                    replace p192 := eq_true p192
                    replace q192 := eq_true q192
                    obtain ⟨Ao61, co61, eo61⟩ := Kd.R_slice HO_8.out
                    subst eo61
                    go_wp2_with (first | ((with_reducible refine gate_callee (f := 43) rfl ?_); refine goesL_ (some 52) rfl rfl Try.func43 (by kernel_rfl) rfl #[.slice Ao61 t180.length co61, .int .i64 (rd t189 x46_2)] rfl (by (try simp only [List.map_toArray, List.map_cons, List.map_nil]); first | done | rfl | (simp only [List.length_drop, List.length_take]; rfl)) ?_; (with_reducible refine (spec_l1Has.calls k2 _ _ t180 (rd t189 x46_2) false _ ?side1 ?side2 A58.out).mono ?_); (case side1 => repeat (first | exact (Kd.R_reads' HO_8.out).2.2 | (with_reducible refine Kd.C_alloc ?_ _) | (with_reducible refine Kd.C_drewN ?_ _) | (with_reducible refine Kd.C_drew ?_))); (case side2 => exact (Kd.R_reads' HO_8.out).2.1); rintro e w' ⟨rfl, ⟨nd, rfl⟩⟩; refine ⟨_, rfl, ?_⟩))
                    go_roundg k2
                    case measure => have := HJ3.out; have := HK2.out; omega
                    case rel => exact ⟨(wrap64 (x46_2 + 1)), (by first | rfl | (simp; done) | (simp [*]; done)), H', ⟨by have := HJ3.out; have := HK2.out; omega⟩, ⟨by (with_reducible repeat (first | apply Kd.R_alloc | apply Kd.R_drewN | apply Kd.R_drew)); exact HO_8.out⟩, ⟨by (with_reducible repeat (first | apply Kd.R_alloc | apply Kd.R_drewN | apply Kd.R_drew)); exact HO_44.out⟩, ⟨by (with_reducible repeat (first | refine blk_drewN ?_ _ | refine blk_drew ?_ | refine blk_alloc ?_ _)); exact BK164.out⟩, ⟨by repeat (first | (with_reducible first | exact HB.out | apply below_alloc | apply pw_below_drewN | apply below_drew1 | refine below_set ?_ GE164.out) | exact HB.out)⟩⟩
                · rw [if_neg c57] at H
                  exact absurd H (by simp)
              · rw [if_neg c56] at H
                exact absurd H (by simp)
            · rw [if_neg c55] at H
              have c55b0 : decide (x46_2 < (t189.length : Int)) = false := decide_eq_false c55
              clear c55
              simp only [Option.some.injEq, Prod.mk.injEq] at H
              obtain ⟨rfl, rfl⟩ := H
              go_wp2
              go_ret2
              exact ⟨by first | rfl | (simp [errW_none, errW_some] <;> rfl) | (simp [*, errW_none, errW_some] <;> rfl), by repeat (first | (with_reducible first | exact HB.out | apply below_alloc | apply pw_below_drewN | apply below_drew1 | refine below_set ?_ GE164.out) | exact HB.out)⟩
end Go.Proofs.Ytndkblahnihhjaa.P
