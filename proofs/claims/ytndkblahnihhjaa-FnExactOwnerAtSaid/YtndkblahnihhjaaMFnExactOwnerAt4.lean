import Derived.Test.YtndkblahnihhjaaMFnExactOwnerAt1
import Derived.Test.YtndkblahnihhjaaMFnExactOwnerAt2
import Derived.Test.YtndkblahnihhjaaMFnExactOwnerAt3
set_option linter.unusedVariables false
set_option linter.unusedSimpArgs false
namespace Go.Proofs.Ytndkblahnihhjaa.P
open Go.RowKit Go.Proofs.YtndkblahnihhjaaW.PrintWords Go.Proofs.YtndkblahnihhjaaW.PrintLast Go.Proofs.YtndkblahnihhjaaW.PrintMore
attribute [local go_sem] max2_int min2_int max_two min_two max_three min_three max_four min_four
def spec_l10Dominators.f (l0_0 : List (List Int)) : Option (List (List Int)) := if H.goodG l0_0 then some (Q.domL l0_0) else none
theorem has_any (l : List Int) (hl : l.length ≤ 1048576) (A : Option Addr) (c : Nat) (x : Int) (W : World) (h : Kd.C (Kd.int .i64) W A l.length l) (hc : l.length ≤ c) : Calls Try.prog 43 #[.slice A l.length c, .int .i64 x] W fun e w' => e = .returned (.bool (decide (x ∈ l))) ∧ Drawn0 W w' := by
  obtain ⟨k, hk⟩ := Ev.rounds (Q.has_ev l x hl)
  exact spec_l1Has.calls k A c l x _ W h hc hk
theorem put_any (l : List Int) (hl : l.length ≤ 1048576) (x : Int) (u : Value) (ok : Nat → Prop) (w0 W : World) (hB : Below w0.heap.size w0 W) (h : Kd.R (Kd.int .i64) 3 W w0.heap.size ok u l) :
    Calls Try.prog 41 #[u, .int .i64 x] W fun e w' => ∃ v0_ : Value, e = .returned (v0_) ∧ Kd.R (Kd.int .i64) 3 w' w0.heap.size (fun k_ => (some k_ = u.ownBlock) ∨ W.heap.size ≤ k_) v0_ (Q.putL l x) ∧ Below w0.heap.size w0 w' ∧ Kept W w' (fun k_ => some k_ = u.ownBlock) := by
  obtain ⟨k, hk⟩ := Ev.rounds (Q.put_ev l x hl)
  exact spec_l1Put.calls k (fun k_ => some k_ = u.ownBlock) u l x _ w0 W hB (Kd.R_tight rfl h) hk
theorem reach_any {g : List (List Int)} (hG : H.goodG g = true) (A : Option Addr) (c : Nat) (wo : Int) (W : World) (h : Kd.C (Kd.slice 3 (Kd.int .i64)) W A g.length g) (hc : g.length ≤ c) :
    Calls Try.prog 68 #[.agg #[.slice A g.length c], .int .i64 wo] W fun e w' => ∃ v0_ : Value, e = .returned (v0_) ∧ Kd.R (Kd.int .i64) 3 w' W.heap.size (fun _ => True) v0_ (listTo (H.reachF g 0 wo) 12) ∧ Below W.heap.size W w' := by
  obtain ⟨k, hk⟩ := Ev.rounds (Q.specReach_ev hG wo)
  exact spec_l10Reach.calls k A c g wo _ W h hc hk
set_option maxHeartbeats 8000000 in
set_option maxRecDepth 100000 in
theorem spec_l10Dominators.calls (A0_0 : Option Addr) (c0_0 : Nat) (l0_0 : List (List Int)) (r : List (List Int)) (w : World) (hr0_0 : Kd.C (Kd.slice 3 (Kd.int .i64)) w A0_0 l0_0.length l0_0) (hc0_0 : l0_0.length ≤ c0_0) (h : spec_l10Dominators.f l0_0 = some r) :
    Calls Try.prog 53 #[.agg #[.slice A0_0 l0_0.length c0_0]] w fun e w' => ∃ v0_ : Value, e = .returned (v0_) ∧ Kd.S (Kd.slice 3 (Kd.int .i64)) 32 w' w.heap.size (fun _ => True) v0_ r ∧ Below w.heap.size w w' := by
  unfold spec_l10Dominators.f at h
  cases hG : H.goodG l0_0 with
  | false => rw [hG] at h; exact absurd h (by simp)
  | true =>
    rw [hG, if_pos rfl] at h
    obtain rfl := Option.some.inj h
    have hr := H.goodG_rows hG
    have hn1 : 1 ≤ l0_0.length := hr.1.1
    have hn2 : l0_0.length ≤ 12 := hr.1.2
    have HR0 := Aside0.mk hr0_0
    have HC0 := Aside0.mk hc0_0
    have HG := Aside0.mk hG
    have HO := Aside0.mk (H.Own.nil w)
    have HRE := Aside0.mk (fun (W : World) (hb : Below w.heap.size w W) (wo : Int) => reach_any hG A0_0 c0_0 wo W (Kd.C_below HR0.out hb) HC0.out)
    have HRL := Aside0.mk (fun wo => Q.listTo_small (H.reachF l0_0 0 wo))
    have HRIN := Aside0.mk (fun y (hy : y ∈ listTo (H.reachF l0_0 0 (-1)) 12) => ((Q.listTo_reach hG y).1 hy).rng hG (by decide) (by omega))
    clear hr0_0 hc0_0 hG h hr
    have hI : (Try.prog.info? 32).map (·.size) = some 1 := by kernel_rfl
    have HI := Aside0.mk hI
    clear hI
    obtain ⟨R, hR⟩ : ∃ R, listTo (H.reachF l0_0 0 (-1)) 12 = R := ⟨_, rfl⟩
    have HRS := Aside0.mk (HRL.out (-1))
    rw [hR] at HRIN HRS
    have HRD := Aside0.mk hR
    clear hR
    have hrs := HRS.out
    go_enter Try.func53, Try.ntmps53
    go_wp2_with (first | ((with_reducible refine gate_dst (N := 1) rfl ?_); refine H.own_box HO.out ?bxg (N := 1) ?bxd (cs := #[Value.slice A0_0 l0_0.length c0_0]) (t := 28) ?bxr ?_; (case bxd => rfl); (case bxg => rfl); (case bxr => first | (go_simp; done) | (go_simp; rfl)); intro gp w_ ho_ hb_; replace HO := Aside0.mk ho_; clear ho_ hb_) | ((with_reducible refine gate_dst (N := 10) rfl ?_); refine wpList_load_row rfl 28 (.tmp 1) rfl _ rfl 28 _ (0, 0) _ (HO.out.get 0 rfl) Try.underlying28 rfl (by kernel_rfl) ?_) | (go_at_call 68; refine (HRE.out _ HO.out.below (-1)).mono ?_; rw [HRD.out]; rintro e w' ⟨vr, rfl, hv, hb⟩; obtain ⟨AR, cR, rfl⟩ := Kd.R_slice hv; obtain ⟨N1, hN1⟩ : ∃ N1, w'.heap.size = N1 := ⟨_, rfl⟩; have HV := Aside0.mk (Kd.R_mono (ok' := fun k => k < N1) (H.R_upto (Kd.R_lower hv HO.out.size)) (fun k hk => hN1 ▸ hk.2)); have HN1 := Aside0.mk hN1; replace HO := Aside0.mk (HO.out.step hb); have hx1 := HO.out.cell 0 rfl 0; clear hv hb hN1) | ((with_reducible refine gate_dst (N := 15) rfl ?_); refine Kd.S_make (Kd.slice 3 (Kd.int .i64)) (w0 := _) _ 32 rfl (N := 15) rfl 22 _ _ rfl (l0_0.length : Int) rfl rfl Try.underlying22 (.slice none 0 0) 24 info32 rfl (by decide) (by omega) [] (ok := fun _ => True) (okp := fun _ => True) ⟨_, rfl, Kd.R_nil _ _ _ _ _⟩ (fun _ hk => hk) trivial (by omega) (by simp only [Int.toNat_natCast]; omega) (Below.refl _ _) (Nat.le_refl _) ?_; intro vs w_ ho_ hb_ hg_ hnew_; replace HV := Aside0.mk (Kd.R_below HV.out hb_); have HS := Aside0.mk (Kd.S_lower (Kd.S_mono (ok' := fun k => N1 ≤ k) (H.S_upto ho_) (fun k hk => by rw [← HN1.out]; exact hk.1)) HO.out.size); have HNW := Aside0.mk (show N1 ≤ w_.heap.size by rw [← HN1.out]; exact hb_.size); replace HO := Aside0.mk (HO.out.step hb_); clear ho_ hb_ hg_ hnew_ hx1 HN1))
    rw [Int.toNat_natCast] at HS
    obtain ⟨gs, cs, rfl, hgs0, _, _⟩ := Kd.S_form HS.out (by simp; omega)
    rw [List.length_replicate] at HS ⊢
    have HGS0 := Aside0.mk hgs0
    clear hgs0
    go_loopw [18] (fun v18 wr => ∃ (i : Nat) (xs : List (List Int)), v18 = .int .i64 i ∧ i ≤ R.length ∧ Aside0 (Kd.S (Kd.slice 3 (Kd.int .i64)) 32 wr w.heap.size (fun k => N1 ≤ k) (.slice (some ⟨gs, 0, none⟩) l0_0.length cs) xs) ∧ Aside0 (Q.Rel l0_0.length (fun b y => y ∈ R.take i ∧ (b : Int) ∈ R ∧ ¬ (b : Int) ∈ listTo (H.reachF l0_0 0 y) 12) xs) ∧ Aside0 ((Kd.int .i64).R 3 wr w.heap.size (fun k => k < N1) (.slice AR R.length cR) R) ∧ Aside0 (N1 ≤ wr.heap.size) ∧ Aside0 (H.Own w wr [(gp, #[Value.slice A0_0 l0_0.length c0_0], 28)])) (fun v18 _ => R.length - (intOf v18).toNat)
    case atStart => exact ⟨0, _, rfl, Nat.zero_le _, HS, ⟨Q.Rel.nil _ (fun b _ y h => by simp at h)⟩, HV, HNW, HO⟩
    case round =>
      clear HO HS HV HNW
      obtain ⟨i, xs, rfl, hi, HS, HREL, HV, HNW, HO⟩ := hrel
      by_cases hlt : i < R.length
      · obtain ⟨ad1, e1, hc1⟩ := Kd.at_int (Kd.R_reads' HV.out).2.2 (i : Int) (by omega) (by omega)
        subst e1
        rw [Int.toNat_natCast] at hc1
        have hd : rd R (i : Int) = R.getD i 0 := rfl
        rw [hd] at hc1
        have htk : R.take (i + 1) = R.take i ++ [R.getD i 0] := by rw [List.take_add_one, List.getElem?_eq_getElem hlt, List.getD_eq_getElem?_getD, List.getElem?_eq_getElem hlt]; rfl
        obtain ⟨d, hdd⟩ : ∃ d, R.getD i 0 = d := ⟨_, rfl⟩
        rw [hdd] at hc1 htk
        have HTK := Aside0.mk htk
        have hil : (i : Int) < (R.length : Int) := by omega
        obtain ⟨Wd, hWd⟩ : ∃ Wd, listTo (H.reachF l0_0 0 d) 12 = Wd := ⟨_, rfl⟩
        have HWL := HRL.out d
        rw [hWd] at HWL
        have HWD := Aside0.mk hWd
        have HWS := Aside0.mk HWL
        clear hd htk hdd HWL hWd
        go_wp2_with (first | ((with_reducible refine gate_dst (N := 22) rfl ?_); refine wpList_load_row rfl 28 (.tmp 1) rfl _ rfl 28 _ (0, 0) _ (HO.out.get 0 rfl) Try.underlying28 rfl (by kernel_rfl) ?_) | (go_at_call 68; refine (HRE.out _ HO.out.below d).mono ?_; rw [HWD.out]; rintro e w' ⟨vw, rfl, hv, hb⟩; obtain ⟨AW, cW, rfl⟩ := Kd.R_slice hv; have HW := Aside0.mk (Kd.R_lower hv HO.out.size); replace HS := Aside0.mk (Kd.S_elder' HS.out (Kd.R_base hv) hb); replace HV := Aside0.mk (Kd.R_below HV.out hb); replace HNW := Aside0.mk (Nat.le_trans HNW.out hb.size); replace HO := Aside0.mk (HO.out.step hb); clear hv hb hc1))
        go_loopw [27] (fun v27 wr => ∃ (j : Nat) (xs : List (List Int)), v27 = .int .i64 j ∧ j ≤ R.length ∧ Aside0 (Kd.S (Kd.slice 3 (Kd.int .i64)) 32 wr w.heap.size (fun k => N1 ≤ k ∧ some k ≠ (Value.slice AW Wd.length cW).ownBlock) (.slice (some ⟨gs, 0, none⟩) l0_0.length cs) xs) ∧ Aside0 (Q.Rel l0_0.length (fun b y => (y ∈ R.take i ∧ (b : Int) ∈ R ∧ ¬ (b : Int) ∈ listTo (H.reachF l0_0 0 y) 12) ∨ (y = d ∧ (b : Int) ∈ R.take j ∧ ¬ (b : Int) ∈ Wd)) xs) ∧ Aside0 ((Kd.int .i64).R 3 wr w.heap.size (fun k => k < N1) (.slice (some ad1) R.length cR) R) ∧ Aside0 ((Kd.int .i64).R 3 wr w.heap.size (fun _ => True) (.slice AW Wd.length cW) Wd) ∧ Aside0 (N1 ≤ wr.heap.size) ∧ Aside0 (H.Own w wr [(gp, #[Value.slice A0_0 l0_0.length c0_0], 28)])) (fun v27 _ => R.length - (intOf v27).toNat)
        case atStart => exact ⟨0, xs, rfl, Nat.zero_le _, HS, ⟨HREL.out.congr (fun b _ y => by simp)⟩, HV, HW, HNW, HO⟩
        case round =>
          clear HO HS HV HNW HREL HW
          obtain ⟨j, xs, rfl, hj, HS, HREL, HV, HW, HNW, HO⟩ := hrel
          by_cases hlt2 : j < R.length
          · obtain ⟨ad2, e2, hc2⟩ := Kd.at_int (Kd.R_reads' HV.out).2.2 (j : Int) (by omega) (by omega)
            injection e2 with e2
            subst e2
            rw [Int.toNat_natCast] at hc2
            have hd : rd R (j : Int) = R.getD j 0 := rfl
            rw [hd] at hc2
            have htk : R.take (j + 1) = R.take j ++ [R.getD j 0] := by rw [List.take_add_one, List.getElem?_eq_getElem hlt2, List.getD_eq_getElem?_getD, List.getElem?_eq_getElem hlt2]; rfl
            have hin := HRIN.out (R.getD j 0) (by rw [List.getD_eq_getElem?_getD, List.getElem?_eq_getElem hlt2]; exact List.getElem_mem hlt2)
            obtain ⟨k, hkk⟩ : ∃ k : Nat, R.getD j 0 = (k : Int) := ⟨(R.getD j 0).toNat, by omega⟩
            rw [hkk] at hc2 htk hin
            have HTK2 := Aside0.mk htk
            have hjl : (j : Int) < (R.length : Int) := by omega
            have hkn : (k : Int) < (l0_0.length : Int) := hin.2
            have HKN := Aside0.mk (show k < l0_0.length by omega)
            clear hd htk hkk hin
            obtain ⟨dd, hdd⟩ : ∃ dd, decide ((k : Int) ∈ Wd) = dd := ⟨_, rfl⟩
            have HDD := Aside0.mk hdd
            clear hdd
            cases dd with
            | true =>
              go_wp2_with (go_at_call 43; refine (has_any Wd HWS.out _ _ (k : Int) _ (Kd.R_reads' HW.out).2.2 (Kd.R_reads' HW.out).2.1).mono ?_; rw [HDD.out]; rintro e w2 ⟨rfl, hd⟩; replace HV := Aside0.mk (Kd.R_below HV.out hd.below); replace HW := Aside0.mk (Kd.R_below HW.out hd.below); replace HS := Aside0.mk (Kd.S_below HS.out hd.below); replace HNW := Aside0.mk (Nat.le_trans HNW.out hd.below.size); replace HO := Aside0.mk (HO.out.step hd.below); clear hd hc2)
              refine ⟨⟨j + 1, xs, by go_num, by omega, HS, ⟨HREL.out.congr (fun b _ y => by
                have hw := of_decide_eq_true HDD.out
                rw [HTK2.out, List.mem_append, List.mem_singleton]
                constructor
                · rintro (h | ⟨h1, h2, h3⟩)
                  · exact .inl h
                  · exact .inr ⟨h1, .inl h2, h3⟩
                · rintro (h | ⟨h1, h2 | h2, h3⟩)
                  · exact .inl h
                  · exact .inr ⟨h1, h2, h3⟩
                  · rw [h2] at h3
                    exact absurd hw h3)⟩, HV, HW, HNW, HO⟩, ?_⟩
              simp [intOf]
              omega
            | false =>
              obtain ⟨oki, u, hu, hRu, hoki, hH⟩ := H.S_holeG HS.out HKN.out
              have hgt := Kd.S_typed HS.out gs (by simp [Value.ownBlock])
              have HRU := Aside0.mk hRu
              have HOK := Aside0.mk hoki
              have HH := Aside0.mk hH
              have HGT := Aside0.mk hgt
              have HU := Aside0.mk hu
              have HXL := Aside0.mk (show (xs.getD k []).length ≤ 1048576 by
                have := HREL.out.len12 (fun b hb y h => by
                  have hy : y ∈ R := by
                    rcases h with h | h
                    · exact List.mem_of_mem_take h.1
                    · have := HTK.out
                      rw [h.1]
                      exact List.mem_of_mem_take (i := i + 1) (by rw [this]; simp)
                  have := HRIN.out y hy
                  omega) HKN.out
                omega)
              clear hRu hoki hH hgt hu HS
              go_wp2_with (first | (go_at_call 43; refine (has_any Wd HWS.out _ _ (k : Int) _ (Kd.R_reads' HW.out).2.2 (Kd.R_reads' HW.out).2.1).mono ?_; rw [HDD.out]; rintro e w2 ⟨rfl, hd⟩; replace HV := Aside0.mk (Kd.R_below HV.out hd.below); replace HW := Aside0.mk (Kd.R_below HW.out hd.below); replace HRU := Aside0.mk (Kd.R_below HRU.out hd.below); replace HH := Aside0.mk (Kd.H_below HH.out hd.below); replace HNW := Aside0.mk (Nat.le_trans HNW.out hd.below.size); replace HO := Aside0.mk (HO.out.step hd.below); have hu := pw_cell_below hd.below HU.out; replace HGT := Aside0.mk (HGT.out.imp (fun cells hc => blk_below hc hd.below)); clear hd hc2 HU) | (go_at_call 41; refine (put_any (xs.getD k []) HXL.out d u _ w _ HO.out.below HRU.out).mono ?_; rintro e w3 ⟨v0, rfl, hv0, hb, hk⟩; obtain ⟨A0, c0, rfl⟩ := Kd.R_slice hv0; have HIN : Aside0 (∀ k, (Value.slice A0 (Q.putL (xs.getD k []) d).length c0).ownBlock = some k → True) := ⟨fun _ _ => trivial⟩; clear HIN; have HV0 := Aside0.mk hv0; have HPU := Aside0.mk (fun k (hk : some k = u.ownBlock) => HOK.out k (HRU.out.1 k hk.symm)); have HWlt := Aside0.mk (Kd.R_lt HW.out); replace HH := Aside0.mk (H.hole_keptG HH.out hk (fun k hk => HRU.out.1 k hk.symm)); replace HV := Aside0.mk (H.R_keptB HV.out hk (fun k h1 h2 => by have a1 := HV.out.1 k h1; have a2 := (HPU.out k h2).1; omega)); replace HW := Aside0.mk (H.R_keptB HW.out hk (fun k h1 h2 => (HPU.out k h2).2 h1.symm)); replace HGT := Aside0.mk (HGT.out.imp (fun cells hc => (hk.2 gs (blk_lt hc) (Kd.R_ne HRU.out hc (by decide))).trans hc)); have HNW' := HNW; replace HNW := Aside0.mk (Nat.le_trans HNW.out hk.1); have HIN := Aside0.mk (fun k (h : (Value.slice A0 (Q.putL (xs.getD k []) d).length c0).ownBlock = some k) => trivial); clear HIN; replace HO := Aside0.mk (HO.out.keptU HRU.out hk hb (by simp)); clear hv0 hb hk hu) | ((with_reducible refine gate_store (t := 32) (p := 43) rfl ?_); refine H.own_eputG HO.out HH.out HV0.out (Nat.le_refl _) (fun q hq => by rcases HV0.out.1 q hq with h | h; exact .inl (HRU.out.1 q h.symm); exact .inr ⟨⟨Nat.le_trans HNW'.out h, fun e => by have := HWlt.out q e.symm; omega⟩, h⟩) rfl rfl rfl rfl rfl HI.out HKN.out HGS0.out HGT.out (by simp) ?_; intro w_ ho_ hs_ hg_; replace HV := Aside0.mk (Kd.R_over' (e' := 32) (v := .slice (some ⟨gs, 0, none⟩) 0 0) HV.out (fun q hq => by have : gs = q := (by simpa [Value.ownBlock] using hq); rw [← this]; exact HGT.out) (by decide) hg_); replace HW := Aside0.mk (Kd.R_over' (e' := 32) (v := .slice (some ⟨gs, 0, none⟩) 0 0) HW.out (fun q hq => by have : gs = q := (by simpa [Value.ownBlock] using hq); rw [← this]; exact HGT.out) (by decide) hg_); replace HNW := Aside0.mk (Nat.le_trans HNW.out hg_.size); have HS := Aside0.mk hs_; replace HO := Aside0.mk ho_; clear ho_ hs_ hg_))
              go_roundw
              case rel => exact ⟨j + 1, _, by go_num, by omega, HS, ⟨(HREL.out.put HKN.out d).congr (fun b _ y => by
                have hw := of_decide_eq_false HDD.out
                rw [HTK2.out, List.mem_append, List.mem_singleton]
                constructor
                · rintro ((h | ⟨h1, h2, h3⟩) | ⟨h1, h2⟩)
                  · exact .inl h
                  · exact .inr ⟨h1, .inl h2, h3⟩
                  · subst h1
                    exact .inr ⟨h2, .inr rfl, hw⟩
                · rintro (h | ⟨h1, h2 | h2, h3⟩)
                  · exact .inl (.inl h)
                  · exact .inl (.inr ⟨h1, h2, h3⟩)
                  · exact .inr ⟨by omega, h1⟩)⟩, HV, HW, HNW, HO⟩
              case measure => simp [intOf]; omega
          · have hE : j = R.length := by omega
            subst hE
            go_wp2
            go_roundw
            case rel => exact ⟨i + 1, xs, by go_num, by omega, ⟨Kd.S_mono HS.out (fun k hk => hk.1)⟩, ⟨HREL.out.congr (fun b _ y => by
              rw [HTK.out, List.mem_append, List.mem_singleton, List.take_length]
              constructor
              · rintro (h | ⟨h1, h2, h3⟩)
                · exact ⟨.inl h.1, h.2⟩
                · subst h1
                  exact ⟨.inr rfl, h2, by rw [HWD.out]; exact h3⟩
              · rintro ⟨h | h, h2, h3⟩
                · exact .inl ⟨h, h2, h3⟩
                · subst h
                  exact .inr ⟨rfl, h2, by rw [HWD.out] at h3; exact h3⟩)⟩, HV, HNW, HO⟩
            case measure => simp [intOf]; omega
      · have hE : i = R.length := by omega
        subst hE
        have hfin : xs = Q.domL l0_0 := by
          refine (HREL.out.congr (fun b _ y => ?_)).uniq (Q.domL_rel HG.out)
          unfold Q.domM
          rw [HRD.out, List.take_length]
        subst hfin
        go_wp2
        go_ret
        exact ⟨_, rfl, Kd.S_mono HS.out (fun _ _ => trivial), HO.out.below⟩
end Go.Proofs.Ytndkblahnihhjaa.P

namespace Go.Proofs.Ytndkblahnihhjaa.P
open Go.RowKit Go.Proofs.YtndkblahnihhjaaW.PrintWords Go.Proofs.YtndkblahnihhjaaW.PrintLast Go.Proofs.YtndkblahnihhjaaW.PrintMore
attribute [local go_sem] max2_int min2_int max_two min_two max_three min_three max_four min_four
def spec_l11Preds.f (l0_0 : List (List Int)) : Option (List (List Int)) := if H.goodG l0_0 then some (Q.prdL l0_0) else none
set_option maxHeartbeats 8000000 in
set_option maxRecDepth 100000 in
theorem spec_l11Preds.calls (A0_0 : Option Addr) (c0_0 : Nat) (l0_0 : List (List Int)) (r : List (List Int)) (w : World) (hr0_0 : Kd.C (Kd.slice 3 (Kd.int .i64)) w A0_0 l0_0.length l0_0) (hc0_0 : l0_0.length ≤ c0_0) (h : spec_l11Preds.f l0_0 = some r) :
    Calls Try.prog 65 #[.agg #[.slice A0_0 l0_0.length c0_0]] w fun e w' => ∃ v0_ : Value, e = .returned (v0_) ∧ Kd.S (Kd.slice 3 (Kd.int .i64)) 32 w' w.heap.size (fun _ => True) v0_ r ∧ Below w.heap.size w w' := by
  unfold spec_l11Preds.f at h
  cases hG : H.goodG l0_0 with
  | false => rw [hG] at h; exact absurd h (by simp)
  | true =>
    rw [hG, if_pos rfl] at h
    obtain rfl := Option.some.inj h
    have hr := H.goodG_rows hG
    have hn1 : 1 ≤ l0_0.length := hr.1.1
    have hn2 : l0_0.length ≤ 12 := hr.1.2
    have HR0 := Aside0.mk hr0_0
    have HC0 := Aside0.mk hc0_0
    have HG := Aside0.mk hG
    have HO := Aside0.mk (H.Own.nil w)
    have HRE := Aside0.mk (fun (W : World) (hb : Below w.heap.size w W) (wo : Int) => reach_any hG A0_0 c0_0 wo W (Kd.C_below HR0.out hb) HC0.out)
    have HRL := Aside0.mk (fun wo => Q.listTo_small (H.reachF l0_0 0 wo))
    have HRIN := Aside0.mk (fun y (hy : y ∈ listTo (H.reachF l0_0 0 (-1)) 12) => ((Q.listTo_reach hG y).1 hy).rng hG (by decide) (by omega))
    have HROW := Aside0.mk (H.goodG_row hG)
    clear hr0_0 hc0_0 hG h hr
    have hI : (Try.prog.info? 32).map (·.size) = some 1 := by kernel_rfl
    have HI := Aside0.mk hI
    clear hI
    obtain ⟨R, hR⟩ : ∃ R, listTo (H.reachF l0_0 0 (-1)) 12 = R := ⟨_, rfl⟩
    have HRS := Aside0.mk (HRL.out (-1))
    rw [hR] at HRIN HRS
    have HRD := Aside0.mk hR
    clear hR
    have hrs := HRS.out
    go_enter Try.func65, Try.ntmps65
    go_wp2_with (first | ((with_reducible refine gate_dst (N := 1) rfl ?_); refine H.own_box HO.out ?bxg (N := 1) ?bxd (cs := #[Value.slice A0_0 l0_0.length c0_0]) (t := 28) ?bxr ?_; (case bxd => rfl); (case bxg => rfl); (case bxr => first | (go_simp; done) | (go_simp; rfl)); intro gp w_ ho_ hb_; replace HO := Aside0.mk ho_; clear ho_ hb_) | ((with_reducible refine gate_dst (N := 9) rfl ?_); refine wpList_load_row rfl 28 (.tmp 1) rfl _ rfl 28 _ (0, 0) _ (HO.out.get 0 rfl) Try.underlying28 rfl (by kernel_rfl) ?_) | (go_at_call 68; refine (HRE.out _ HO.out.below (-1)).mono ?_; rw [HRD.out]; rintro e w' ⟨vr, rfl, hv, hb⟩; obtain ⟨AR, cR, rfl⟩ := Kd.R_slice hv; obtain ⟨N1, hN1⟩ : ∃ N1, w'.heap.size = N1 := ⟨_, rfl⟩; have HV := Aside0.mk (Kd.R_mono (ok' := fun k => k < N1) (H.R_upto (Kd.R_lower hv HO.out.size)) (fun k hk => hN1 ▸ hk.2)); have HN1 := Aside0.mk hN1; replace HO := Aside0.mk (HO.out.step hb); have hx1 := HO.out.cell 0 rfl 0; clear hv hb hN1) | ((with_reducible refine gate_dst (N := 14) rfl ?_); refine Kd.S_make (Kd.slice 3 (Kd.int .i64)) (w0 := _) _ 32 rfl (N := 14) rfl 22 _ _ rfl (l0_0.length : Int) rfl rfl Try.underlying22 (.slice none 0 0) 24 info32 rfl (by decide) (by omega) [] (ok := fun _ => True) (okp := fun _ => True) ⟨_, rfl, Kd.R_nil _ _ _ _ _⟩ (fun _ hk => hk) trivial (by omega) (by simp only [Int.toNat_natCast]; omega) (Below.refl _ _) (Nat.le_refl _) ?_; intro vs w_ ho_ hb_ hg_ hnew_; replace HV := Aside0.mk (Kd.R_below HV.out hb_); have HS := Aside0.mk (Kd.S_lower (Kd.S_mono (ok' := fun k => N1 ≤ k) (H.S_upto ho_) (fun k hk => by rw [← HN1.out]; exact hk.1)) HO.out.size); have HNW := Aside0.mk (show N1 ≤ w_.heap.size by rw [← HN1.out]; exact hb_.size); replace HO := Aside0.mk (HO.out.step hb_); clear ho_ hb_ hg_ hnew_ hx1 HN1))
    rw [Int.toNat_natCast] at HS
    obtain ⟨gs, cs, rfl, hgs0, _, _⟩ := Kd.S_form HS.out (by simp; omega)
    rw [List.length_replicate] at HS ⊢
    have HGS0 := Aside0.mk hgs0
    clear hgs0
    go_loopw [17] (fun v17 wr => ∃ (i : Nat) (xs : List (List Int)), v17 = .int .i64 i ∧ i ≤ R.length ∧ Aside0 (Kd.S (Kd.slice 3 (Kd.int .i64)) 32 wr w.heap.size (fun k => N1 ≤ k) (.slice (some ⟨gs, 0, none⟩) l0_0.length cs) xs) ∧ Aside0 (Q.Rel l0_0.length (fun b y => y ∈ R.take i ∧ (b : Int) ∈ l0_0.getD y.toNat []) xs) ∧ Aside0 ((Kd.int .i64).R 3 wr w.heap.size (fun k => k < N1) (.slice AR R.length cR) R) ∧ Aside0 (N1 ≤ wr.heap.size) ∧ Aside0 (H.Own w wr [(gp, #[Value.slice A0_0 l0_0.length c0_0], 28)])) (fun v17 _ => R.length - (intOf v17).toNat)
    case atStart => exact ⟨0, _, rfl, Nat.zero_le _, HS, ⟨Q.Rel.nil _ (fun b _ y h => by simp at h)⟩, HV, HNW, HO⟩
    case round =>
      clear HO HS HV HNW
      obtain ⟨i, xs, rfl, hi, HS, HREL, HV, HNW, HO⟩ := hrel
      by_cases hlt : i < R.length
      · obtain ⟨ad1, e1, hc1⟩ := Kd.at_int (Kd.R_reads' HV.out).2.2 (i : Int) (by omega) (by omega)
        subst e1
        rw [Int.toNat_natCast] at hc1
        have hd : rd R (i : Int) = R.getD i 0 := rfl
        rw [hd] at hc1
        have htk : R.take (i + 1) = R.take i ++ [R.getD i 0] := by rw [List.take_add_one, List.getElem?_eq_getElem hlt, List.getD_eq_getElem?_getD, List.getElem?_eq_getElem hlt]; rfl
        have hdin := HRIN.out (R.getD i 0) (by rw [List.getD_eq_getElem?_getD, List.getElem?_eq_getElem hlt]; exact List.getElem_mem hlt)
        obtain ⟨d, hdd⟩ : ∃ d : Nat, R.getD i 0 = (d : Int) := ⟨(R.getD i 0).toNat, by omega⟩
        rw [hdd] at hc1 htk hdin
        have HTK := Aside0.mk htk
        have hil : (i : Int) < (R.length : Int) := by omega
        have hdg : (d : Int) < (l0_0.length : Int) := hdin.2
        obtain ⟨ad, A1, c1, ea, hc0, hcx, hc2⟩ := at_L1 HR0.out (d : Int) (by omega) (by omega)
        subst ea
        rw [Int.toNat_natCast] at hc0
        have hrd : rd_L1 l0_0 (d : Int) = l0_0.getD d [] := rfl
        rw [hrd] at hc0 hcx hc2
        have hrow := HROW.out d
        obtain ⟨row, hrw⟩ : ∃ row, l0_0.getD d [] = row := ⟨_, rfl⟩
        rw [hrw] at hc0 hcx hc2 hrow
        have hxr := HO.out.old hc0
        have hx1 := HO.out.cell 0 rfl 0
        have HC2 := Aside0.mk hc2
        have HRR := Aside0.mk hrow
        have HRW := Aside0.mk hrw
        have hrl := hc2.2.1
        clear hd htk hdd hdin hc0 hcx hc2 hrow hrd hrw
        go_wp2
        go_loopw [27] (fun v27 wr => ∃ (j : Nat) (xs : List (List Int)), v27 = .int .i64 j ∧ j ≤ row.length ∧ Aside0 (Kd.S (Kd.slice 3 (Kd.int .i64)) 32 wr w.heap.size (fun k => N1 ≤ k) (.slice (some ⟨gs, 0, none⟩) l0_0.length cs) xs) ∧ Aside0 (Q.Rel l0_0.length (fun b y => (y ∈ R.take i ∧ (b : Int) ∈ l0_0.getD y.toNat []) ∨ (y = (d : Int) ∧ (b : Int) ∈ row.take j)) xs) ∧ Aside0 ((Kd.int .i64).R 3 wr w.heap.size (fun k => k < N1) (.slice (some ad1) R.length cR) R) ∧ Aside0 (N1 ≤ wr.heap.size) ∧ Aside0 (H.Own w wr [(gp, #[Value.slice (some ad) l0_0.length c0_0], 28)])) (fun v27 _ => row.length - (intOf v27).toNat)
        case atStart => exact ⟨0, xs, rfl, Nat.zero_le _, HS, ⟨HREL.out.congr (fun b _ y => by simp)⟩, HV, HNW, HO⟩
        case round =>
          clear HO HS HV HNW HREL hx1 hxr hc1
          obtain ⟨j, xs, rfl, hj, HS, HREL, HV, HNW, HO⟩ := hrel
          by_cases hlt2 : j < row.length
          · obtain ⟨ad2, e2, hc2⟩ := Kd.at_int HC2.out (j : Int) (by omega) (by omega)
            subst e2
            rw [Int.toNat_natCast] at hc2
            have hd : rd row (j : Int) = row.getD j 0 := rfl
            rw [hd] at hc2
            have htk : row.take (j + 1) = row.take j ++ [row.getD j 0] := by rw [List.take_add_one, List.getElem?_eq_getElem hlt2, List.getD_eq_getElem?_getD, List.getElem?_eq_getElem hlt2]; rfl
            have hin := HRR.out (row.getD j 0) (by rw [List.getD_eq_getElem?_getD, List.getElem?_eq_getElem hlt2]; exact List.getElem_mem hlt2)
            obtain ⟨k, hkk⟩ : ∃ k : Nat, row.getD j 0 = (k : Int) := ⟨(row.getD j 0).toNat, by omega⟩
            rw [hkk] at hc2 htk hin
            have hcy := HO.out.old hc2
            have HTK2 := Aside0.mk htk
            have hjl : (j : Int) < (row.length : Int) := by omega
            have hkn : (k : Int) < (l0_0.length : Int) := hin.2
            have HKN := Aside0.mk (show k < l0_0.length by omega)
            clear hd htk hkk hin hc2
            obtain ⟨oki, u, hu, hRu, hoki, hH⟩ := H.S_holeG HS.out HKN.out
            have hgt := Kd.S_typed HS.out gs (by simp [Value.ownBlock])
            have HRU := Aside0.mk hRu
            have HOK := Aside0.mk hoki
            have HH := Aside0.mk hH
            have HGT := Aside0.mk hgt
            have HXL := Aside0.mk (show (xs.getD k []).length ≤ 1048576 by
              have := HREL.out.len12 (fun b hb y h => by
                have hy : y ∈ R := by
                  rcases h with h | h
                  · exact List.mem_of_mem_take h.1
                  · have := HTK.out
                    rw [h.1]
                    exact List.mem_of_mem_take (i := i + 1) (by rw [this]; simp)
                have := HRIN.out y hy
                omega) HKN.out
              omega)
            clear hRu hoki hH hgt HS
            go_wp2_with (first | (go_at_call 41; refine (put_any (xs.getD k []) HXL.out (d : Int) u _ w _ HO.out.below HRU.out).mono ?_; rintro e w3 ⟨v0, rfl, hv0, hb, hk⟩; obtain ⟨A0, c0, rfl⟩ := Kd.R_slice hv0; have HV0 := Aside0.mk hv0; have HPU := Aside0.mk (fun k (hk : some k = u.ownBlock) => HOK.out k (HRU.out.1 k hk.symm)); replace HH := Aside0.mk (H.hole_keptG HH.out hk (fun k hk => HRU.out.1 k hk.symm)); replace HV := Aside0.mk (H.R_keptB HV.out hk (fun k h1 h2 => by have a1 := HV.out.1 k h1; have a2 := (HPU.out k h2); omega)); replace HGT := Aside0.mk (HGT.out.imp (fun cells hc => (hk.2 gs (blk_lt hc) (Kd.R_ne HRU.out hc (by decide))).trans hc)); have HNW' := HNW; replace HNW := Aside0.mk (Nat.le_trans HNW.out hk.1); replace HO := Aside0.mk (HO.out.keptU HRU.out hk hb (by simp)); clear hv0 hb hk hu hcy) | ((with_reducible refine gate_store (t := 32) (p := 39) rfl ?_); refine H.own_eputG HO.out HH.out HV0.out (Nat.le_refl _) (fun q hq => by rcases HV0.out.1 q hq with h | h; exact .inl (HRU.out.1 q h.symm); exact .inr ⟨Nat.le_trans HNW'.out h, h⟩) rfl rfl rfl rfl rfl HI.out HKN.out HGS0.out HGT.out (by simp) ?_; intro w_ ho_ hs_ hg_; replace HV := Aside0.mk (Kd.R_over' (e' := 32) (v := .slice (some ⟨gs, 0, none⟩) 0 0) HV.out (fun q hq => by have : gs = q := (by simpa [Value.ownBlock] using hq); rw [← this]; exact HGT.out) (by decide) hg_); replace HNW := Aside0.mk (Nat.le_trans HNW.out hg_.size); have HS := Aside0.mk hs_; replace HO := Aside0.mk ho_; clear ho_ hs_ hg_))
            go_roundw
            case rel => exact ⟨j + 1, _, by go_num, by omega, HS, ⟨(HREL.out.put HKN.out (d : Int)).congr (fun b _ y => by
              rw [HTK2.out, List.mem_append, List.mem_singleton]
              constructor
              · rintro ((h | ⟨h1, h2⟩) | ⟨h1, h2⟩)
                · exact .inl h
                · exact .inr ⟨h1, .inl h2⟩
                · subst h1
                  exact .inr ⟨h2, .inr rfl⟩
              · rintro (h | ⟨h1, h2 | h2⟩)
                · exact .inl (.inl h)
                · exact .inl (.inr ⟨h1, h2⟩)
                · exact .inr ⟨by omega, h1⟩)⟩, HV, HNW, HO⟩
            case measure => simp [intOf]; omega
          · have hE : j = row.length := by omega
            subst hE
            go_wp2
            go_roundw
            case rel => exact ⟨i + 1, xs, by go_num, by omega, HS, ⟨HREL.out.congr (fun b _ y => by
              rw [HTK.out, List.mem_append, List.mem_singleton, List.take_length]
              constructor
              · rintro (h | ⟨h1, h2⟩)
                · exact ⟨.inl h.1, h.2⟩
                · subst h1
                  exact ⟨.inr rfl, by rw [Int.toNat_natCast, HRW.out]; exact h2⟩
              · rintro ⟨h | h, h2⟩
                · exact .inl ⟨h, h2⟩
                · subst h
                  exact .inr ⟨rfl, by rw [Int.toNat_natCast, HRW.out] at h2; exact h2⟩)⟩, HV, HNW, HO⟩
            case measure => simp [intOf]; omega
      · have hE : i = R.length := by omega
        subst hE
        have hfin : xs = Q.prdL l0_0 := by
          refine (HREL.out.congr (fun b _ y => ?_)).uniq (Q.prdL_rel HG.out)
          unfold Q.prdM
          rw [HRD.out, List.take_length]
        subst hfin
        go_wp2
        go_ret
        exact ⟨_, rfl, Kd.S_mono HS.out (fun _ _ => trivial), HO.out.below⟩
end Go.Proofs.Ytndkblahnihhjaa.P

namespace Go.Proofs.Ytndkblahnihhjaa.P
open Go.RowKit Go.Proofs.YtndkblahnihhjaaW.PrintWords Go.Proofs.YtndkblahnihhjaaW.PrintLast Go.Proofs.YtndkblahnihhjaaW.PrintMore
attribute [local go_sem] max2_int min2_int max_two min_two max_three min_three max_four min_four
def spec_l11Frontier.f (l0_0 : List (List Int)) : Option (List (List Int)) := if H.goodG l0_0 then some (Q.froL l0_0) else none
set_option maxHeartbeats 8000000 in
set_option maxRecDepth 100000 in
theorem spec_l11Frontier.calls (A0_0 : Option Addr) (c0_0 : Nat) (l0_0 : List (List Int)) (r : List (List Int)) (w : World) (hr0_0 : Kd.C (Kd.slice 3 (Kd.int .i64)) w A0_0 l0_0.length l0_0) (hc0_0 : l0_0.length ≤ c0_0) (h : spec_l11Frontier.f l0_0 = some r) :
    Calls Try.prog 64 #[.agg #[.slice A0_0 l0_0.length c0_0]] w fun e w' => ∃ v0_ : Value, e = .returned (v0_) ∧ Kd.S (Kd.slice 3 (Kd.int .i64)) 32 w' w.heap.size (fun _ => True) v0_ r ∧ Below w.heap.size w w' := by
  unfold spec_l11Frontier.f at h
  cases hG : H.goodG l0_0 with
  | false => rw [hG] at h; exact absurd h (by simp)
  | true =>
    rw [hG, if_pos rfl] at h
    obtain rfl := Option.some.inj h
    have hr := H.goodG_rows hG
    have hn1 : 1 ≤ l0_0.length := hr.1.1
    have hn2 : l0_0.length ≤ 12 := hr.1.2
    have HN12 := Aside0.mk hn2
    have HR0 := Aside0.mk hr0_0
    have HC0 := Aside0.mk hc0_0
    have HG := Aside0.mk hG
    have HO := Aside0.mk (H.Own.nil w)
    have HRE := Aside0.mk (fun (W : World) (hb : Below w.heap.size w W) (wo : Int) => reach_any hG A0_0 c0_0 wo W (Kd.C_below HR0.out hb) HC0.out)
    have HDC := Aside0.mk (fun (W : World) (hb : Below w.heap.size w W) => spec_l10Dominators.calls A0_0 c0_0 l0_0 (Q.domL l0_0) W (Kd.C_below HR0.out hb) HC0.out (by unfold spec_l10Dominators.f; rw [hG, if_pos rfl]))
    have HPC := Aside0.mk (fun (W : World) (hb : Below w.heap.size w W) => spec_l11Preds.calls A0_0 c0_0 l0_0 (Q.prdL l0_0) W (Kd.C_below HR0.out hb) HC0.out (by unfold spec_l11Preds.f; rw [hG, if_pos rfl]))
    have HRIN := Aside0.mk (fun y (hy : y ∈ listTo (H.reachF l0_0 0 (-1)) 12) => ((Q.listTo_reach hG y).1 hy).rng hG (by decide) (by omega))
    have hrs := Q.listTo_small (H.reachF l0_0 0 (-1))
    clear hr0_0 hc0_0 hG h hr
    have HII := Aside0.mk (show (Try.prog.info? 32).map (·.size) = some 1 by kernel_rfl)
    obtain ⟨R, hR⟩ : ∃ R, listTo (H.reachF l0_0 0 (-1)) 12 = R := ⟨_, rfl⟩
    rw [hR] at HRIN hrs
    have HRD := Aside0.mk hR
    have hdl := Q.domL_length l0_0
    have hpl := Q.prdL_length l0_0
    have HD12 := Aside0.mk (fun b => Q.domL_len12 (g := l0_0) b)
    have HP12 := Aside0.mk (fun b => Q.prdL_len12 (g := l0_0) b)
    have HPRN := Aside0.mk (fun (b : Nat) (hb : b < l0_0.length) (y : Int) (h : y ∈ (Q.prdL l0_0).getD b []) => Q.prdL_rng l0_0 hb h)
    have HFP := Aside0.mk (fun (x y p : Nat) => show Q.froP l0_0 x (y : Int) (p : Int) ↔ ((x : Int) ∈ (Q.domL l0_0).getD p [] ∧ ((x : Int) = (y : Int) ∨ ¬ (x : Int) ∈ (Q.domL l0_0).getD y [])) by unfold Q.froP; rw [Int.toNat_natCast, Int.toNat_natCast])
    have HFA := Aside0.mk (fun (b y : Nat) (hy : y < l0_0.length) => Q.froM_at (g := l0_0) (b := b) hy)
    obtain ⟨DL, hDL⟩ : ∃ DL, Q.domL l0_0 = DL := ⟨_, rfl⟩
    obtain ⟨PL, hPL⟩ : ∃ PL, Q.prdL l0_0 = PL := ⟨_, rfl⟩
    rw [hDL] at hdl HD12 HDC HFP
    rw [hPL] at hpl HP12 HPRN HPC HFA
    have HDL := Aside0.mk hdl
    have HPL := Aside0.mk hpl
    clear hR hDL hPL
    go_enter Try.func64, Try.ntmps64
    go_wp2_with (first | ((with_reducible refine gate_dst (N := 1) rfl ?_); refine H.own_box HO.out ?bxg (N := 1) ?bxd (cs := #[Value.slice A0_0 l0_0.length c0_0]) (t := 28) ?bxr ?_; (case bxd => rfl); (case bxg => rfl); (case bxr => first | (go_simp; done) | (go_simp; rfl)); intro gp w_ ho_ hb_; replace HO := Aside0.mk ho_; clear ho_ hb_) | ((with_reducible refine gate_dst (N := 12) rfl ?_); refine wpList_load_row rfl 28 (.tmp 1) rfl _ rfl 28 _ (0, 0) _ (HO.out.get 0 rfl) Try.underlying28 rfl (by kernel_rfl) ?_) | ((with_reducible refine gate_dst (N := 14) rfl ?_); refine wpList_load_row rfl 28 (.tmp 1) rfl _ rfl 28 _ (0, 0) _ (HO.out.get 0 rfl) Try.underlying28 rfl (by kernel_rfl) ?_) | ((with_reducible refine gate_dst (N := 20) rfl ?_); refine wpList_load_row rfl 28 (.tmp 1) rfl _ rfl 28 _ (0, 0) _ (HO.out.get 0 rfl) Try.underlying28 rfl (by kernel_rfl) ?_) | (go_at_call 53; refine (HDC.out _ HO.out.below).mono ?_; rintro e w' ⟨vd, rfl, hv, hb⟩; obtain ⟨gd, cd, rfl, _, _, _⟩ := Kd.S_form hv (by omega); rw [hdl] at hv; obtain ⟨N0, hN0⟩ : ∃ N0, w'.heap.size = N0 := ⟨_, rfl⟩; have HD := Aside0.mk (Kd.S_lower (Kd.S_mono (ok' := fun k => k < N0) (H.S_upto hv) (fun k hk => hN0 ▸ hk.2)) HO.out.size); have HN0 := Aside0.mk hN0; replace HO := Aside0.mk (HO.out.step hb); clear hv hb hN0) | (go_at_call 65; refine (HPC.out _ HO.out.below).mono ?_; rintro e w' ⟨vq, rfl, hv, hb⟩; obtain ⟨gq, cq, rfl, _, _, _⟩ := Kd.S_form hv (by omega); rw [hpl] at hv; obtain ⟨N1, hN1⟩ : ∃ N1, w'.heap.size = N1 := ⟨_, rfl⟩; have hN01 : N0 ≤ N1 := (by rw [← HN0.out, ← hN1]; exact hb.size); have HQ := Aside0.mk (Kd.S_lower (Kd.S_mono (ok' := fun k => N0 ≤ k ∧ k < N1) (H.S_upto hv) (fun k hk => ⟨by rw [← HN0.out]; exact hk.1, hN1 ▸ hk.2⟩)) HO.out.size); replace HD := Aside0.mk (Kd.S_below HD.out hb); have HN1 := Aside0.mk hN1; replace HO := Aside0.mk (HO.out.step hb); have hx1 := HO.out.cell 0 rfl 0; clear hv hb hN1) | ((with_reducible refine gate_dst (N := 19) rfl ?_); refine Kd.S_make (Kd.slice 3 (Kd.int .i64)) (w0 := _) _ 32 rfl (N := 19) rfl 22 _ _ rfl (l0_0.length : Int) rfl rfl Try.underlying22 (.slice none 0 0) 24 info32 rfl (by decide) (by omega) [] (ok := fun _ => True) (okp := fun _ => True) ⟨_, rfl, Kd.R_nil _ _ _ _ _⟩ (fun _ hk => hk) trivial (by omega) (by simp only [Int.toNat_natCast]; omega) (Below.refl _ _) (Nat.le_refl _) ?_; intro vs w_ ho_ hb_ hg_ hnew_; obtain ⟨N2, hN2⟩ : ∃ N2, w_.heap.size = N2 := ⟨_, rfl⟩; have hN12 : N1 ≤ N2 := (by rw [← HN1.out, ← hN2]; exact hb_.size); replace HD := Aside0.mk (Kd.S_below HD.out hb_); replace HQ := Aside0.mk (Kd.S_below HQ.out hb_); have HS := Aside0.mk (Kd.S_lower (Kd.S_mono (ok' := fun k => N1 ≤ k ∧ k < N2) (H.S_upto ho_) (fun k hk => ⟨by rw [← HN1.out]; exact hk.1, hN2 ▸ hk.2⟩)) HO.out.size); have HN2 := Aside0.mk hN2; replace HO := Aside0.mk (HO.out.step hb_); clear ho_ hb_ hg_ hnew_ hx1 hN2) | (go_at_call 68; refine (HRE.out _ HO.out.below (-1)).mono ?_; rw [HRD.out]; rintro e w' ⟨vr, rfl, hv, hb⟩; obtain ⟨AR, cR, rfl⟩ := Kd.R_slice hv; obtain ⟨N3, hN3⟩ : ∃ N3, w'.heap.size = N3 := ⟨_, rfl⟩; have hN23 : N2 ≤ N3 := (by rw [← HN2.out, ← hN3]; exact hb.size); have HV := Aside0.mk (Kd.R_lower (Kd.R_mono (ok' := fun k => N2 ≤ k ∧ k < N3) (H.R_upto hv) (fun k hk => ⟨by rw [← HN2.out]; exact hk.1, hN3 ▸ hk.2⟩)) HO.out.size); replace HD := Aside0.mk (Kd.S_below HD.out hb); replace HQ := Aside0.mk (Kd.S_below HQ.out hb); replace HS := Aside0.mk (Kd.S_below HS.out hb); have HNW := Aside0.mk (Nat.le_of_eq hN3.symm); replace HO := Aside0.mk (HO.out.step hb); clear hv hb hN3))
    rw [Int.toNat_natCast] at HS
    obtain ⟨gs, cs, rfl, hgs0, _, _⟩ := Kd.S_form HS.out (by simp; omega)
    have HGS1 := Aside0.mk ((Kd.S_R HS.out).1 gs (by simp [Value.ownBlock]))
    rw [List.length_replicate] at HS ⊢
    have HGS0 := Aside0.mk hgs0
    replace HS := Aside0.mk (Kd.S_mono (ok' := (fun k => (N1 ≤ k ∧ k < N2) ∨ N3 ≤ k)) HS.out (fun k hk => .inl hk))
    have HNN := Aside0.mk (show N0 ≤ N1 ∧ N1 ≤ N2 ∧ N2 ≤ N3 from ⟨hN01, hN12, hN23⟩)
    clear hgs0 hN01 hN12 hN23 HN0 HN1 HN2 hdl hpl
    go_loopw [23] (fun v23 wr => ∃ (i : Nat) (xs : List (List Int)), v23 = .int .i64 i ∧ i ≤ R.length ∧ Aside0 (Kd.S (Kd.slice 3 (Kd.int .i64)) 32 wr w.heap.size (fun k => (N1 ≤ k ∧ k < N2) ∨ N3 ≤ k) (.slice (some ⟨gs, 0, none⟩) l0_0.length cs) xs) ∧ Aside0 (Q.Rel l0_0.length (fun b yy => (b : Int) ∈ R.take i ∧ Q.froM l0_0 b yy) xs) ∧ Aside0 (Kd.S (Kd.slice 3 (Kd.int .i64)) 32 wr w.heap.size (fun k => k < N0) (.slice (some ⟨gd, 0, none⟩) l0_0.length cd) DL) ∧ Aside0 (Kd.S (Kd.slice 3 (Kd.int .i64)) 32 wr w.heap.size (fun k => N0 ≤ k ∧ k < N1) (.slice (some ⟨gq, 0, none⟩) l0_0.length cq) PL) ∧ Aside0 ((Kd.int .i64).R 3 wr w.heap.size (fun k => N2 ≤ k ∧ k < N3) (.slice AR R.length cR) R) ∧ Aside0 (N3 ≤ wr.heap.size) ∧ Aside0 (H.Own w wr [(gp, #[Value.slice A0_0 l0_0.length c0_0], 28)])) (fun v23 _ => R.length - (intOf v23).toNat)
    case atStart => exact ⟨0, _, rfl, Nat.zero_le _, HS, ⟨Q.Rel.nil _ (fun b _ y h => by simp at h)⟩, HD, HQ, HV, HNW, HO⟩
    case round =>
      clear HO HS HV HNW HD HQ
      obtain ⟨i, xs, rfl, hi, HS, HREL, HD, HQ, HV, HNW, HO⟩ := hrel
      by_cases hlt : i < R.length
      · obtain ⟨ad1, e1, hc1⟩ := Kd.at_int (Kd.R_reads' HV.out).2.2 (i : Int) (by omega) (by omega)
        subst e1
        rw [Int.toNat_natCast] at hc1
        have hd : rd R (i : Int) = R.getD i 0 := rfl
        rw [hd] at hc1
        have htk : R.take (i + 1) = R.take i ++ [R.getD i 0] := by rw [List.take_add_one, List.getElem?_eq_getElem hlt, List.getD_eq_getElem?_getD, List.getElem?_eq_getElem hlt]; rfl
        have hin := HRIN.out (R.getD i 0) (by rw [List.getD_eq_getElem?_getD, List.getElem?_eq_getElem hlt]; exact List.getElem_mem hlt)
        obtain ⟨x, hx⟩ : ∃ x : Nat, R.getD i 0 = (x : Int) := ⟨(R.getD i 0).toNat, by omega⟩
        rw [hx] at hc1 htk hin
        have HTK := Aside0.mk htk
        have hxn : (x : Int) < (l0_0.length : Int) := hin.2
        have HXN := Aside0.mk (show x < l0_0.length by omega)
        have hil : (i : Int) < (R.length : Int) := by omega
        clear hd htk hx hin
        go_wp2
        go_loopw [29] (fun v29 wr => ∃ (y : Nat) (xs : List (List Int)), v29 = .int .i64 y ∧ y ≤ l0_0.length ∧ Aside0 (Kd.S (Kd.slice 3 (Kd.int .i64)) 32 wr w.heap.size (fun k => (N1 ≤ k ∧ k < N2) ∨ N3 ≤ k) (.slice (some ⟨gs, 0, none⟩) l0_0.length cs) xs) ∧ Aside0 (Q.Rel l0_0.length (fun b yy => ((b : Int) ∈ R.take i ∧ Q.froM l0_0 b yy) ∨ (b = x ∧ yy < (y : Int) ∧ Q.froM l0_0 b yy)) xs) ∧ Aside0 (Kd.S (Kd.slice 3 (Kd.int .i64)) 32 wr w.heap.size (fun k => k < N0) (.slice (some ⟨gd, 0, none⟩) l0_0.length cd) DL) ∧ Aside0 (Kd.S (Kd.slice 3 (Kd.int .i64)) 32 wr w.heap.size (fun k => N0 ≤ k ∧ k < N1) (.slice (some ⟨gq, 0, none⟩) l0_0.length cq) PL) ∧ Aside0 ((Kd.int .i64).R 3 wr w.heap.size (fun k => N2 ≤ k ∧ k < N3) (.slice (some ad1) R.length cR) R) ∧ Aside0 (N3 ≤ wr.heap.size) ∧ Aside0 (H.Own w wr [(gp, #[Value.slice A0_0 l0_0.length c0_0], 28)])) (fun v29 _ => l0_0.length - (intOf v29).toNat)
        case atStart => exact ⟨0, xs, rfl, Nat.zero_le _, HS, ⟨HREL.out.congr (fun b _ yy => ⟨fun h => .inl h, fun h => h.elim id (fun h => absurd h.2.1 (by have := h.2.2.1; omega))⟩)⟩, HD, HQ, HV, HNW, HO⟩
        case round =>
          clear HO HS HV HNW HD HQ HREL hc1
          obtain ⟨y, xs, rfl, hy, HS, HREL, HD, HQ, HV, HNW, HO⟩ := hrel
          by_cases hlt2 : y < l0_0.length
          · obtain ⟨okr, ur, hur, hRr, hokr, _⟩ := H.S_holeG HQ.out hlt2
            have hyn : (y : Int) < (l0_0.length : Int) := by omega
            have HYN := Aside0.mk (show y < l0_0.length by omega)
            have HYD := HYN
            have hp12 := HP12.out y
            have hprn := HPRN.out y HYN.out
            have hfa := HFA.out x y HYN.out
            obtain ⟨row, hrow⟩ : ∃ row, PL.getD y [] = row := ⟨_, rfl⟩
            rw [hrow] at hRr hp12 hprn hfa
            have HRN := Aside0.mk hprn
            have HFAY := Aside0.mk hfa
            obtain ⟨AW, cW, rfl⟩ := Kd.R_slice hRr
            have HRW := Aside0.mk (Kd.R_mono (ok' := fun k => N0 ≤ k ∧ k < N1) hRr hokr)
            have hdr := HD12.out y
            clear hRr hrow hokr hprn hfa
            go_wp2
            go_loopw [36] (fun v36 wr => ∃ (j : Nat) (xs : List (List Int)), v36 = .int .i64 j ∧ j ≤ row.length ∧ Aside0 (Kd.S (Kd.slice 3 (Kd.int .i64)) 32 wr w.heap.size (fun k => (N1 ≤ k ∧ k < N2) ∨ N3 ≤ k) (.slice (some ⟨gs, 0, none⟩) l0_0.length cs) xs) ∧ Aside0 (Q.Rel l0_0.length (fun b yy => (((b : Int) ∈ R.take i ∧ Q.froM l0_0 b yy) ∨ (b = x ∧ yy < (y : Int) ∧ Q.froM l0_0 b yy)) ∨ (b = x ∧ yy = (y : Int) ∧ ∃ q, q ∈ row.take j ∧ Q.froP l0_0 x yy q)) xs) ∧ Aside0 (Kd.S (Kd.slice 3 (Kd.int .i64)) 32 wr w.heap.size (fun k => k < N0) (.slice (some ⟨gd, 0, none⟩) l0_0.length cd) DL) ∧ Aside0 (Kd.S (Kd.slice 3 (Kd.int .i64)) 32 wr w.heap.size (fun k => N0 ≤ k ∧ k < N1) (.slice (some ⟨gq, 0, none⟩) l0_0.length cq) PL) ∧ Aside0 ((Kd.int .i64).R 3 wr w.heap.size (fun k => N2 ≤ k ∧ k < N3) (.slice (some ad1) R.length cR) R) ∧ Aside0 ((Kd.int .i64).R 3 wr w.heap.size (fun k => N0 ≤ k ∧ k < N1) (.slice AW row.length cW) row) ∧ Aside0 (N3 ≤ wr.heap.size) ∧ Aside0 (H.Own w wr [(gp, #[Value.slice A0_0 l0_0.length c0_0], 28)])) (fun v36 _ => row.length - (intOf v36).toNat)
            case atStart => exact ⟨0, xs, rfl, Nat.zero_le _, HS, ⟨HREL.out.congr (fun b _ yy => by simp)⟩, HD, HQ, HV, HRW, HNW, HO⟩
            case round =>
              clear HO HS HV HNW HD HQ HREL HRW hur
              obtain ⟨j, xs, rfl, hj, HS, HREL, HD, HQ, HV, HRW, HNW, HO⟩ := hrel
              by_cases hlt3 : j < row.length
              · obtain ⟨ad3, e3, hc3⟩ := Kd.at_int (Kd.R_reads' HRW.out).2.2 (j : Int) (by omega) (by omega)
                subst e3
                rw [Int.toNat_natCast] at hc3
                have hd3 : rd row (j : Int) = row.getD j 0 := rfl
                rw [hd3] at hc3
                have htk2 : row.take (j + 1) = row.take j ++ [row.getD j 0] := by rw [List.take_add_one, List.getElem?_eq_getElem hlt3, List.getD_eq_getElem?_getD, List.getElem?_eq_getElem hlt3]; rfl
                have hpr := HRN.out (row.getD j 0) (by rw [List.getD_eq_getElem?_getD, List.getElem?_eq_getElem hlt3]; exact List.getElem_mem hlt3)
                obtain ⟨p, hp⟩ : ∃ p : Nat, row.getD j 0 = (p : Int) := ⟨(row.getD j 0).toNat, by omega⟩
                rw [hp] at hc3 htk2 hpr
                have HTK2 := Aside0.mk htk2
                have hpd : (p : Int) < (l0_0.length : Int) := by omega
                have hjl : (j : Int) < (row.length : Int) := by omega
                obtain ⟨okp, up, hcp, hRp, hokp, _⟩ := H.S_holeG HD.out (show p < l0_0.length by omega)
                have hfp := HFP.out x y p
                have hpl12 := HD12.out p
                obtain ⟨dp, hdp⟩ : ∃ dp, DL.getD p [] = dp := ⟨_, rfl⟩
                rw [hdp] at hRp hfp hpl12
                obtain ⟨AP, cP, rfl⟩ := Kd.R_slice hRp
                have HDP := Aside0.mk hRp
                have HDPL := Aside0.mk (show dp.length ≤ 1048576 by omega)
                obtain ⟨b1, hb1⟩ : ∃ b, decide ((x : Int) ∈ dp) = b := ⟨_, rfl⟩
                have HB1 := Aside0.mk hb1
                clear hd3 htk2 hp hpr hRp hokp hdp hpl12
                cases b1 with
                | false =>
                  have HPN := Aside0.mk (show ¬ Q.froP l0_0 x (y : Int) (p : Int) from fun h => absurd (hfp.1 h).1 (of_decide_eq_false hb1))
                  clear hfp hb1
                  go_wp2_with (go_at_call 43; (refine (has_any (dp) HDPL.out _ _ (x : Int) _ (Kd.R_reads' HDP.out).2.2 (Kd.R_reads' HDP.out).2.1).mono ?_; rw [HB1.out]; rintro e w2 ⟨rfl, hd⟩; replace HD := Aside0.mk (Kd.S_below HD.out hd.below); replace HQ := Aside0.mk (Kd.S_below HQ.out hd.below); replace HV := Aside0.mk (Kd.R_below HV.out hd.below); replace HNW := Aside0.mk (Nat.le_trans HNW.out (hd.below).size); replace HRW := Aside0.mk (Kd.R_below HRW.out hd.below); replace HO := Aside0.mk (HO.out.step hd.below); replace HS := Aside0.mk (Kd.S_below HS.out hd.below); clear hcp hc3; clear hd))
                  go_roundw
                  case rel => exact ⟨j + 1, xs, by go_num, by omega, HS, ⟨HREL.out.congr (fun b _ yy => by
                    rw [HTK2.out]
                    simp only [List.mem_append, List.mem_singleton]
                    constructor
                    · rintro (h | ⟨h1, h2, q, h3, h4⟩)
                      · exact .inl h
                      · exact .inr ⟨h1, h2, q, .inl h3, h4⟩
                    · rintro (h | ⟨h1, h2, q, h3 | h3, h4⟩)
                      · exact .inl h
                      · exact .inr ⟨h1, h2, q, h3, h4⟩
                      · exact absurd h4 (by rw [h2, h3]; exact HPN.out))⟩, HD, HQ, HV, HRW, HNW, HO⟩
                  case measure => simp [intOf]; omega
                | true =>
                  have hxp := of_decide_eq_true hb1
                  by_cases hxy : x = y
                  · have HPN := Aside0.mk (show Q.froP l0_0 x (y : Int) (p : Int) from hfp.2 ⟨hxp, .inl (by omega)⟩)
                    clear hfp hb1 hxp
                    subst hxy
                    obtain ⟨oki, u, hu, hRu, hoki, hH⟩ := H.S_holeG HS.out HXN.out
                    have hgt := Kd.S_typed HS.out gs (by simp [Value.ownBlock])
                    have HRU := Aside0.mk hRu
                    have HOK := Aside0.mk hoki
                    have HH := Aside0.mk hH
                    have HGT := Aside0.mk hgt
                    have HU := Aside0.mk hu
                    have HXL := Aside0.mk (show (xs.getD x []).length ≤ 1048576 by
                      have := HREL.out.len12 (fun b hb yy h => by
                        have hn2 := HN12.out
                        rcases h with (h | h) | h
                        · have := h.2.1; omega
                        · have := h.2.2.1; omega
                        · have := h.2.1; have := HYN.out; omega) HXN.out
                      omega)
                    clear hRu hoki hH hgt hu HS
                    go_wp2_with (first | (go_at_call 43; (refine (has_any (dp) HDPL.out _ _ (x : Int) _ (Kd.R_reads' HDP.out).2.2 (Kd.R_reads' HDP.out).2.1).mono ?_; rw [HB1.out]; rintro e w2 ⟨rfl, hd⟩; replace HD := Aside0.mk (Kd.S_below HD.out hd.below); replace HQ := Aside0.mk (Kd.S_below HQ.out hd.below); replace HV := Aside0.mk (Kd.R_below HV.out hd.below); replace HNW := Aside0.mk (Nat.le_trans HNW.out (hd.below).size); replace HRW := Aside0.mk (Kd.R_below HRW.out hd.below); replace HO := Aside0.mk (HO.out.step hd.below); replace HRU := Aside0.mk (Kd.R_below HRU.out hd.below); replace HH := Aside0.mk (Kd.H_below HH.out hd.below); replace HGT := Aside0.mk (HGT.out.imp (fun cells hc => blk_below hc hd.below)); replace HU := Aside0.mk (pw_cell_below hd.below HU.out); have hu := HU.out; clear hcp hc3; clear hd)) | (go_at_call 41; refine (put_any (xs.getD x []) HXL.out (x : Int) u _ w _ HO.out.below HRU.out).mono ?_; rintro e w3 ⟨v0, rfl, hv0, hb, hk⟩; obtain ⟨A0, c0, rfl⟩ := Kd.R_slice hv0; have HV0 := Aside0.mk hv0; have HPU := Aside0.mk (fun k (hk : some k = u.ownBlock) => HOK.out k (HRU.out.1 k hk.symm)); replace HH := Aside0.mk (H.hole_keptG HH.out hk (fun k hk => HRU.out.1 k hk.symm)); replace HRW := Aside0.mk (H.R_keptB HRW.out hk (fun k h1 h2 => by have a1 := HRW.out.1 k h1; have a2 := (HPU.out k h2); have := HNN.out; omega)); replace HV := Aside0.mk (H.R_keptB HV.out hk (fun k h1 h2 => by have a1 := HV.out.1 k h1; have a2 := (HPU.out k h2); have := HNN.out; omega)); replace HD := Aside0.mk (Kd.S_step HD.out (fun k hok hlt => hk.2 k hlt (fun h2 => by have a2 := HPU.out k h2; have := HNN.out; omega))); replace HQ := Aside0.mk (Kd.S_step HQ.out (fun k hok hlt => hk.2 k hlt (fun h2 => by have a2 := HPU.out k h2; have := HNN.out; omega))); replace HGT := Aside0.mk (HGT.out.imp (fun cells hc => (hk.2 gs (blk_lt hc) (Kd.R_ne HRU.out hc (by decide))).trans hc)); have HNW' := HNW; replace HNW := Aside0.mk (Nat.le_trans HNW.out hk.1); replace HO := Aside0.mk (HO.out.keptU HRU.out hk hb (by simp)); clear hv0 hb hk hu) | ((with_reducible refine gate_store (t := 32) (p := 68) rfl ?_); refine H.own_eputG HO.out HH.out HV0.out (Nat.le_refl _) (fun q hq => by rcases HV0.out.1 q hq with h | h; exact .inl (HRU.out.1 q h.symm); exact .inr ⟨.inr (Nat.le_trans HNW'.out h), h⟩) rfl rfl rfl rfl rfl HII.out HXN.out HGS0.out HGT.out (by simp) ?_; intro w_ ho_ hs_ hg_; replace HRW := Aside0.mk (Kd.R_step HRW.out (fun k hok hlt => hg_.block k hlt (fun he => by injection he with he; have := HGS1.out; have := HNN.out; omega))); replace HV := Aside0.mk (Kd.R_step HV.out (fun k hok hlt => hg_.block k hlt (fun he => by injection he with he; have := HGS1.out; have := HNN.out; omega))); replace HD := Aside0.mk (Kd.S_step HD.out (fun k hok hlt => hg_.block k hlt (fun he => by injection he with he; have := HGS1.out; have := HNN.out; omega))); replace HQ := Aside0.mk (Kd.S_step HQ.out (fun k hok hlt => hg_.block k hlt (fun he => by injection he with he; have := HGS1.out; have := HNN.out; omega))); replace HNW := Aside0.mk (Nat.le_trans HNW.out hg_.size); have HS := Aside0.mk hs_; replace HO := Aside0.mk ho_; clear ho_ hs_ hg_))
                    go_roundw
                    case rel => exact ⟨j + 1, _, by go_num, by omega, HS, ⟨(HREL.out.put HXN.out (x : Int)).congr (fun b _ yy => by
                      rw [HTK2.out]
                      simp only [List.mem_append, List.mem_singleton]
                      constructor
                      · rintro ((h | ⟨h1, h2, q, h3, h4⟩) | ⟨h1, h2⟩)
                        · exact .inl h
                        · exact .inr ⟨h1, h2, q, .inl h3, h4⟩
                        · exact .inr ⟨h1, h2, (p : Int), .inr rfl, by rw [h2]; exact HPN.out⟩
                      · rintro (h | ⟨h1, h2, q, h3 | h3, h4⟩)
                        · exact .inl (.inl h)
                        · exact .inl (.inr ⟨h1, h2, q, h3, h4⟩)
                        · exact .inr ⟨h1, h2⟩)⟩, HD, HQ, HV, HRW, HNW, HO⟩
                    case measure => simp [intOf]; omega
                  · have hxe : ((x : Int) == (y : Int)) = false := beq_eq_false_iff_ne.2 (by omega)
                    obtain ⟨oky, uy, hcy, hRy, hoky, _⟩ := H.S_holeG HD.out HYD.out
                    obtain ⟨dy, hdy⟩ : ∃ dy, DL.getD y [] = dy := ⟨_, rfl⟩
                    rw [hdy] at hRy hfp hdr
                    obtain ⟨AY, cY, rfl⟩ := Kd.R_slice hRy
                    have HDY := Aside0.mk hRy
                    have HDYL := Aside0.mk (show dy.length ≤ 1048576 by omega)
                    have HCY := Aside0.mk hcy
                    obtain ⟨b2, hb2⟩ : ∃ b, decide ((x : Int) ∈ dy) = b := ⟨_, rfl⟩
                    have HB2 := Aside0.mk hb2
                    clear hRy hoky hdy hcy
                    cases b2 with
                    | true =>
                      have HPN := Aside0.mk (show ¬ Q.froP l0_0 x (y : Int) (p : Int) from fun h => (hfp.1 h).2.elim (fun e => hxy (by omega)) (fun e => e (of_decide_eq_true hb2)))
                      clear hfp hb1 hb2 hxp hxy
                      go_wp2_with (go_at_call 43; first | (with_reducible refine (has_any (dp) HDPL.out _ _ (x : Int) _ (Kd.R_reads' HDP.out).2.2 (Kd.R_reads' HDP.out).2.1).mono ?_; rw [HB1.out]; rintro e w2 ⟨rfl, hd⟩; replace HD := Aside0.mk (Kd.S_below HD.out hd.below); replace HQ := Aside0.mk (Kd.S_below HQ.out hd.below); replace HV := Aside0.mk (Kd.R_below HV.out hd.below); replace HNW := Aside0.mk (Nat.le_trans HNW.out (hd.below).size); replace HRW := Aside0.mk (Kd.R_below HRW.out hd.below); replace HO := Aside0.mk (HO.out.step hd.below); replace HS := Aside0.mk (Kd.S_below HS.out hd.below); replace HDY := Aside0.mk (Kd.R_below HDY.out hd.below); have hcy := pw_cell_below hd.below HCY.out; clear hcp hc3 HB1; clear hd) | (refine (has_any (dy) HDYL.out _ _ (x : Int) _ (Kd.R_reads' HDY.out).2.2 (Kd.R_reads' HDY.out).2.1).mono ?_; rw [HB2.out]; rintro e w2 ⟨rfl, hd⟩; replace HD := Aside0.mk (Kd.S_below HD.out hd.below); replace HQ := Aside0.mk (Kd.S_below HQ.out hd.below); replace HV := Aside0.mk (Kd.R_below HV.out hd.below); replace HNW := Aside0.mk (Nat.le_trans HNW.out (hd.below).size); replace HRW := Aside0.mk (Kd.R_below HRW.out hd.below); replace HO := Aside0.mk (HO.out.step hd.below); replace HS := Aside0.mk (Kd.S_below HS.out hd.below); clear hcy; clear hd))
                      go_roundw
                      case rel => exact ⟨j + 1, xs, by go_num, by omega, HS, ⟨HREL.out.congr (fun b _ yy => by
                        rw [HTK2.out]
                        simp only [List.mem_append, List.mem_singleton]
                        constructor
                        · rintro (h | ⟨h1, h2, q, h3, h4⟩)
                          · exact .inl h
                          · exact .inr ⟨h1, h2, q, .inl h3, h4⟩
                        · rintro (h | ⟨h1, h2, q, h3 | h3, h4⟩)
                          · exact .inl h
                          · exact .inr ⟨h1, h2, q, h3, h4⟩
                          · exact absurd h4 (by rw [h2, h3]; exact HPN.out))⟩, HD, HQ, HV, HRW, HNW, HO⟩
                      case measure => simp [intOf]; omega
                    | false =>
                      have HPN := Aside0.mk (show Q.froP l0_0 x (y : Int) (p : Int) from hfp.2 ⟨hxp, .inr (of_decide_eq_false hb2)⟩)
                      clear hfp hb1 hb2 hxp hxy
                      obtain ⟨oki, u, hu, hRu, hoki, hH⟩ := H.S_holeG HS.out HXN.out
                      have hgt := Kd.S_typed HS.out gs (by simp [Value.ownBlock])
                      have HRU := Aside0.mk hRu
                      have HOK := Aside0.mk hoki
                      have HH := Aside0.mk hH
                      have HGT := Aside0.mk hgt
                      have HU := Aside0.mk hu
                      have HXL := Aside0.mk (show (xs.getD x []).length ≤ 1048576 by
                        have := HREL.out.len12 (fun b hb yy h => by
                          have hn2 := HN12.out
                          rcases h with (h | h) | h
                          · have := h.2.1; omega
                          · have := h.2.2.1; omega
                          · have := h.2.1; have := HYN.out; omega) HXN.out
                        omega)
                      clear hRu hoki hH hgt hu HS
                      go_wp2_with (first | (go_at_call 43; first | (with_reducible refine (has_any (dp) HDPL.out _ _ (x : Int) _ (Kd.R_reads' HDP.out).2.2 (Kd.R_reads' HDP.out).2.1).mono ?_; rw [HB1.out]; rintro e w2 ⟨rfl, hd⟩; replace HD := Aside0.mk (Kd.S_below HD.out hd.below); replace HQ := Aside0.mk (Kd.S_below HQ.out hd.below); replace HV := Aside0.mk (Kd.R_below HV.out hd.below); replace HNW := Aside0.mk (Nat.le_trans HNW.out (hd.below).size); replace HRW := Aside0.mk (Kd.R_below HRW.out hd.below); replace HO := Aside0.mk (HO.out.step hd.below); replace HRU := Aside0.mk (Kd.R_below HRU.out hd.below); replace HH := Aside0.mk (Kd.H_below HH.out hd.below); replace HGT := Aside0.mk (HGT.out.imp (fun cells hc => blk_below hc hd.below)); replace HU := Aside0.mk (pw_cell_below hd.below HU.out); replace HDY := Aside0.mk (Kd.R_below HDY.out hd.below); have hcy := pw_cell_below hd.below HCY.out; clear hcp hc3 HB1; clear hd) | (refine (has_any (dy) HDYL.out _ _ (x : Int) _ (Kd.R_reads' HDY.out).2.2 (Kd.R_reads' HDY.out).2.1).mono ?_; rw [HB2.out]; rintro e w2 ⟨rfl, hd⟩; replace HD := Aside0.mk (Kd.S_below HD.out hd.below); replace HQ := Aside0.mk (Kd.S_below HQ.out hd.below); replace HV := Aside0.mk (Kd.R_below HV.out hd.below); replace HNW := Aside0.mk (Nat.le_trans HNW.out (hd.below).size); replace HRW := Aside0.mk (Kd.R_below HRW.out hd.below); replace HO := Aside0.mk (HO.out.step hd.below); replace HRU := Aside0.mk (Kd.R_below HRU.out hd.below); replace HH := Aside0.mk (Kd.H_below HH.out hd.below); replace HGT := Aside0.mk (HGT.out.imp (fun cells hc => blk_below hc hd.below)); replace HU := Aside0.mk (pw_cell_below hd.below HU.out); have hu := HU.out; clear hcy; clear hd)) | (go_at_call 41; refine (put_any (xs.getD x []) HXL.out (y : Int) u _ w _ HO.out.below HRU.out).mono ?_; rintro e w3 ⟨v0, rfl, hv0, hb, hk⟩; obtain ⟨A0, c0, rfl⟩ := Kd.R_slice hv0; have HV0 := Aside0.mk hv0; have HPU := Aside0.mk (fun k (hk : some k = u.ownBlock) => HOK.out k (HRU.out.1 k hk.symm)); replace HH := Aside0.mk (H.hole_keptG HH.out hk (fun k hk => HRU.out.1 k hk.symm)); replace HRW := Aside0.mk (H.R_keptB HRW.out hk (fun k h1 h2 => by have a1 := HRW.out.1 k h1; have a2 := (HPU.out k h2); have := HNN.out; omega)); replace HV := Aside0.mk (H.R_keptB HV.out hk (fun k h1 h2 => by have a1 := HV.out.1 k h1; have a2 := (HPU.out k h2); have := HNN.out; omega)); replace HD := Aside0.mk (Kd.S_step HD.out (fun k hok hlt => hk.2 k hlt (fun h2 => by have a2 := HPU.out k h2; have := HNN.out; omega))); replace HQ := Aside0.mk (Kd.S_step HQ.out (fun k hok hlt => hk.2 k hlt (fun h2 => by have a2 := HPU.out k h2; have := HNN.out; omega))); replace HGT := Aside0.mk (HGT.out.imp (fun cells hc => (hk.2 gs (blk_lt hc) (Kd.R_ne HRU.out hc (by decide))).trans hc)); have HNW' := HNW; replace HNW := Aside0.mk (Nat.le_trans HNW.out hk.1); replace HO := Aside0.mk (HO.out.keptU HRU.out hk hb (by simp)); clear hv0 hb hk hu) | ((with_reducible refine gate_store (t := 32) (p := 68) rfl ?_); refine H.own_eputG HO.out HH.out HV0.out (Nat.le_refl _) (fun q hq => by rcases HV0.out.1 q hq with h | h; exact .inl (HRU.out.1 q h.symm); exact .inr ⟨.inr (Nat.le_trans HNW'.out h), h⟩) rfl rfl rfl rfl rfl HII.out HXN.out HGS0.out HGT.out (by simp) ?_; intro w_ ho_ hs_ hg_; replace HRW := Aside0.mk (Kd.R_step HRW.out (fun k hok hlt => hg_.block k hlt (fun he => by injection he with he; have := HGS1.out; have := HNN.out; omega))); replace HV := Aside0.mk (Kd.R_step HV.out (fun k hok hlt => hg_.block k hlt (fun he => by injection he with he; have := HGS1.out; have := HNN.out; omega))); replace HD := Aside0.mk (Kd.S_step HD.out (fun k hok hlt => hg_.block k hlt (fun he => by injection he with he; have := HGS1.out; have := HNN.out; omega))); replace HQ := Aside0.mk (Kd.S_step HQ.out (fun k hok hlt => hg_.block k hlt (fun he => by injection he with he; have := HGS1.out; have := HNN.out; omega))); replace HNW := Aside0.mk (Nat.le_trans HNW.out hg_.size); have HS := Aside0.mk hs_; replace HO := Aside0.mk ho_; clear ho_ hs_ hg_))
                      go_roundw
                      case rel => exact ⟨j + 1, _, by go_num, by omega, HS, ⟨(HREL.out.put HXN.out (y : Int)).congr (fun b _ yy => by
                        rw [HTK2.out]
                        simp only [List.mem_append, List.mem_singleton]
                        constructor
                        · rintro ((h | ⟨h1, h2, q, h3, h4⟩) | ⟨h1, h2⟩)
                          · exact .inl h
                          · exact .inr ⟨h1, h2, q, .inl h3, h4⟩
                          · exact .inr ⟨h1, h2, (p : Int), .inr rfl, by rw [h2]; exact HPN.out⟩
                        · rintro (h | ⟨h1, h2, q, h3 | h3, h4⟩)
                          · exact .inl (.inl h)
                          · exact .inl (.inr ⟨h1, h2, q, h3, h4⟩)
                          · exact .inr ⟨h1, h2⟩)⟩, HD, HQ, HV, HRW, HNW, HO⟩
                      case measure => simp [intOf]; omega
              · have hE : j = row.length := by omega
                subst hE
                go_wp2
                go_roundw
                case rel => exact ⟨y + 1, xs, by go_num, by omega, HS, ⟨HREL.out.congr (fun b _ yy => by
                  rw [List.take_length]
                  constructor
                  · rintro ((h | h) | ⟨h1, h2, h3⟩)
                    · exact .inl h
                    · exact .inr ⟨h.1, by have := h.2.1; omega, h.2.2⟩
                    · subst h1 h2
                      exact .inr ⟨rfl, by omega, HFAY.out.2 h3⟩
                  · rintro (h | ⟨h1, h2, h3⟩)
                    · exact .inl (.inl h)
                    · by_cases e : yy = (y : Int)
                      · subst h1 e
                        exact .inr ⟨rfl, rfl, HFAY.out.1 h3⟩
                      · exact .inl (.inr ⟨h1, by omega, h3⟩))⟩, HD, HQ, HV, HNW, HO⟩
                case measure => simp [intOf]; omega
          · have hE : y = l0_0.length := by omega
            subst hE
            go_wp2
            go_roundw
            case rel => exact ⟨i + 1, xs, by go_num, by omega, HS, ⟨HREL.out.congr (fun b _ yy => by
              rw [HTK.out]
              simp only [List.mem_append, List.mem_singleton]
              constructor
              · rintro (h | h)
                · exact ⟨.inl h.1, h.2⟩
                · exact ⟨.inr (by omega), h.2.2⟩
              · rintro ⟨h | h, h2⟩
                · exact .inl ⟨h, h2⟩
                · exact .inr ⟨by omega, by have := h2.1; have := HPL.out; omega, h2⟩)⟩, HD, HQ, HV, HNW, HO⟩
            case measure => simp [intOf]; omega
      · have hE : i = R.length := by omega
        subst hE
        have hfin : xs = Q.froL l0_0 := by
          refine (HREL.out.congr (fun b _ y => ?_)).uniq (Q.froL_rel HN12.out)
          rw [List.take_length]
          exact ⟨fun h => h.2, fun h => ⟨HRD.out ▸ Q.froM_in HG.out h, h⟩⟩
        subst hfin
        go_wp2
        go_ret
        exact ⟨_, rfl, Kd.S_mono HS.out (fun _ _ => trivial), HO.out.below⟩
end Go.Proofs.Ytndkblahnihhjaa.P

namespace Go.Proofs.Ytndkblahnihhjaa.P
open Go.RowKit Go.Proofs.YtndkblahnihhjaaW.PrintWords Go.Proofs.YtndkblahnihhjaaW.PrintLast Go.Proofs.YtndkblahnihhjaaW.PrintMore
attribute [local go_sem] max2_int min2_int max_two min_two max_three min_three max_four min_four
def spec_l11Joins.f (l0_0 : List (List Int)) (l1 : List Int) : Option (List Int) := if H.goodG l0_0 && Q.inRow l0_0.length l1 then some (listTo (Q.joinsF (Q.froL l0_0) l1) 12) else none
set_option maxHeartbeats 8000000 in
set_option maxRecDepth 100000 in
theorem spec_l11Joins.calls (A0_0 : Option Addr) (c0_0 : Nat) (l0_0 : List (List Int)) (A1 : Option Addr) (c1 : Nat) (l1 : List Int) (r : List Int) (w : World) (hr0_0 : Kd.C (Kd.slice 3 (Kd.int .i64)) w A0_0 l0_0.length l0_0) (hc0_0 : l0_0.length ≤ c0_0) (hr1 : Kd.C (Kd.int .i64) w A1 l1.length l1) (hc1 : l1.length ≤ c1) (h : spec_l11Joins.f l0_0 l1 = some r) :
    Calls Try.prog 42 #[.agg #[.slice A0_0 l0_0.length c0_0], .slice A1 l1.length c1] w fun e w' => ∃ v0_ : Value, e = .returned (v0_) ∧ Kd.R (Kd.int .i64) 3 w' w.heap.size (fun _ => True) v0_ r ∧ Below w.heap.size w w' := by
  unfold spec_l11Joins.f at h
  cases hG : H.goodG l0_0 with
  | false => rw [hG] at h; exact absurd h (by simp)
  | true =>
    rw [hG, Bool.true_and] at h
    cases hI : Q.inRow l0_0.length l1 with
    | false => rw [hI] at h; exact absurd h (by simp)
    | true =>
    rw [hI, if_pos rfl] at h
    obtain rfl := Option.some.inj h
    have hr := H.goodG_rows hG
    have hn1 : 1 ≤ l0_0.length := hr.1.1
    have hn2 : l0_0.length ≤ 12 := hr.1.2
    obtain ⟨hrng, hl12⟩ := Q.inRow_all hI
    have HR0 := Aside0.mk hr0_0
    have HC0 := Aside0.mk hc0_0
    have HR1 := Aside0.mk hr1
    have HO := Aside0.mk (H.Own.nil w)
    have HFC := Aside0.mk (fun (W : World) (hb : Below w.heap.size w W) => spec_l11Frontier.calls A0_0 c0_0 l0_0 (Q.froL l0_0) W (Kd.C_below HR0.out hb) HC0.out (by unfold spec_l11Frontier.f; rw [hG, if_pos rfl]))
    have hrow := Q.froL_row (g := l0_0) hn2
    have hrow12 := Q.froL_row12 (g := l0_0) hn2
    have hfl : (Q.froL l0_0).length = l0_0.length := by unfold Q.froL H.froF; rw [List.length_map, H.matF_len]
    have HDONE := Aside0.mk (fun acc => Q.JSnd.done (acc := acc) hrow12 (fun y hy => ⟨(hrng y hy).1, by have := (hrng y hy).2; omega⟩) hl12)
    have HLEN := Aside0.mk (fun acc (h : Q.JSnd (Q.froL l0_0) l1 acc) => h.len hrow12)
    have HJR := Aside0.mk (fun y (h : Q.Jn (Q.froL l0_0) l1 y) => h.rng hrow)
    obtain ⟨FL, hFL⟩ : ∃ FL, Q.froL l0_0 = FL := ⟨_, rfl⟩
    rw [hFL] at HFC hfl HDONE HLEN HJR hrow ⊢
    obtain ⟨fin, hfin⟩ : ∃ fin, listTo (Q.joinsF FL l1) 12 = fin := ⟨_, rfl⟩
    rw [hfin] at HDONE ⊢
    have HRNG := Aside0.mk hrng
    have HROW := Aside0.mk hrow
    clear hr0_0 hc0_0 hr1 hG hI h hr hrng hrow hrow12 hFL hfin
    go_enter Try.func42, Try.ntmps42
    go_wp2_with (first | ((with_reducible refine gate_dst (N := 2) rfl ?_); refine H.own_box HO.out ?bxg (N := 2) ?bxd (cs := #[Value.slice A0_0 l0_0.length c0_0]) (t := 28) ?bxr ?_; (case bxd => rfl); (case bxg => rfl); (case bxr => first | (go_simp; done) | (go_simp; rfl)); intro gp w_ ho_ hb_; replace HO := Aside0.mk ho_; clear ho_ hb_) | ((with_reducible refine gate_dst (N := 12) rfl ?_); refine wpList_load_row rfl 28 (.tmp 2) rfl _ rfl 28 _ (0, 0) _ (HO.out.get 0 rfl) Try.underlying28 rfl (by kernel_rfl) ?_) | (go_at_call 64; refine (HFC.out _ HO.out.below).mono ?_; rintro e w' ⟨vd, rfl, hv, hb⟩; obtain ⟨gd, cd, rfl, _, _, _⟩ := Kd.S_form hv (by omega); rw [hfl] at hv; obtain ⟨N0, hN0⟩ : ∃ N0, w'.heap.size = N0 := ⟨_, rfl⟩; have HD := Aside0.mk (Kd.S_lower (Kd.S_mono (ok' := fun k => k < N0) (H.S_upto hv) (fun k hk => hN0 ▸ hk.2)) HO.out.size); have HNW := Aside0.mk (Nat.le_of_eq hN0.symm); replace HO := Aside0.mk (HO.out.step hb); clear hv hb hN0))
    clear hfl
    go_loopw [6] (fun v6 wr => ∃ acc, Aside0 (Q.JSnd FL l1 acc) ∧ Aside0 ((Kd.int .i64).R 3 wr w.heap.size (fun k => N0 ≤ k) v6 acc) ∧ Aside0 (Kd.S (Kd.slice 3 (Kd.int .i64)) 32 wr w.heap.size (fun k => k < N0) (.slice (some ⟨gd, 0, none⟩) l0_0.length cd) FL) ∧ Aside0 (N0 ≤ wr.heap.size) ∧ Aside0 (H.Own w wr [(gp, #[Value.slice A0_0 l0_0.length c0_0], 28)])) (fun v6 _ => 13 - Q.sliceLen v6)
    case atStart => exact ⟨[], ⟨Q.JSnd.nil _ _⟩, ⟨Kd.R_nil _ _ _ _ _⟩, HD, HNW, HO⟩
    case round =>
      clear HO HD HNW
      obtain ⟨acc, HJ, HV, HD, HN01, HO⟩ := hrel
      obtain ⟨AO, cO, rfl⟩ := Kd.R_slice HV.out
      have hal := HLEN.out acc HJ.out
      have HAL := Aside0.mk hal
      obtain ⟨N1, hN1⟩ : ∃ N1, wr.heap.size = N1 := ⟨_, rfl⟩
      rw [hN1] at HN01
      have HN1 := Aside0.mk (Nat.le_of_eq hN1.symm)
      replace HV := Aside0.mk (Kd.R_mono (ok' := fun k => N0 ≤ k ∧ k < N1) (Kd.R_tight rfl HV.out) (fun k hk => ⟨HV.out.1 k hk.symm, by rw [← hN1]; exact Kd.R_lt HV.out k hk.symm⟩))
      clear hN1
      go_wp2_with (first | ((with_reducible refine gate_dst (N := 16) rfl ?_); refine Kd.R_lit (Kd.int .i64) (w0 := w) w.heap.size 3 ?bxg (N := 16) ?bxd (xs := ([] : List Int)) (inner := []) (ok := fun k => N1 ≤ k) (okp := fun k => N1 ≤ k) ?bxr ?bxp (fun _ hk => hk) HN1.out HO.out.below HO.out.size (by simp) ?_; (case bxd => rfl); (case bxg => rfl); (case bxr => first | (go_simp; done) | (go_simp; rfl)); (case bxp => exact Reps.none _ _); intro v16 w_ ho_ hb_ hg_ hnew_; replace HD := Aside0.mk (Kd.S_step HD.out (fun k hok hlt => hg_.block k hlt (fun he => by cases he))); replace HV := Aside0.mk (Kd.R_step HV.out (fun k hok hlt => hg_.block k hlt (fun he => by cases he))); replace HO := Aside0.mk (HO.out.grown hg_ (fun k hk => by cases hk)); replace HN1 := Aside0.mk (Nat.le_trans HN1.out hg_.size); have HE := Aside0.mk ho_; clear ho_ hb_ hg_ hnew_) | ((with_reducible refine gate_builtin (b := .append) (xs := #[.tmp 16, .tmp 17]) rfl ?_); at_builtin; refine Kd.R_append_rows (Kd.int .i64) (w0 := w) w.heap.size rfl (.tmp 16) (.tmp 17) 32 3 (.int .i64 0) 8 rfl Try.underlying32 info3 rfl (by decide) (by omega) v16 [] l1 _ _ _ (fun k => N1 ≤ k) (fun _ => False) rfl rfl ?aO ?aR (fun _ _ h => h) (fun _ h => h.elim) ?aF ?aB ?aS ?aL ?_; (case aO => exact HE.out); (case aR => exact Kd.C_below HR1.out HO.out.below); (case aF => exact fun k hk => Nat.le_trans HN1.out hk); (case aB => exact HO.out.below); (case aS => exact HO.out.size); (case aL => (first | (simp only [List.length_nil]; omega) | (simp only [List.length_append, List.length_nil]; omega))); intro v18 w_ ho_ hb_ hg_ hat_; replace HD := Aside0.mk (Kd.S_step HD.out (fun k hok hlt => hg_.block k hlt (fun he => by have := HE.out.1 k he.symm; have := HN01.out; omega))); replace HV := Aside0.mk (Kd.R_step HV.out (fun k hok hlt => hg_.block k hlt (fun he => by have := HE.out.1 k he.symm; omega))); replace HO := Aside0.mk (HO.out.row HE.out (Nat.le_refl _) hg_ (by simp)); replace HN1 := Aside0.mk (Nat.le_trans HN1.out hg_.size); have HF1 := Aside0.mk ho_; clear ho_ hb_ hg_ hat_ HE) | ((with_reducible refine gate_builtin (b := .append) (xs := #[.tmp 18, .tmp 19]) rfl ?_); at_builtin; refine Kd.R_append_rows (Kd.int .i64) (w0 := w) w.heap.size rfl (.tmp 18) (.tmp 19) 32 3 (.int .i64 0) 8 rfl Try.underlying32 info3 rfl (by decide) (by omega) v18 ([] ++ l1) acc _ _ _ (fun k => N1 ≤ k) (fun _ => False) rfl rfl ?bO ?bR (fun _ _ h => h) (fun _ h => h.elim) ?bF ?bB ?bS ?bL ?_; (case bO => exact HF1.out); (case bR => exact (Kd.R_reads' HV.out).2.2); (case bF => exact fun k hk => Nat.le_trans HN1.out hk); (case bB => exact HO.out.below); (case bS => exact HO.out.size); (case bL => (first | (simp only [List.length_nil]; omega) | (simp only [List.length_append, List.length_nil]; omega))); intro v20 w_ ho_ hb_ hg_ hat_; rw [List.nil_append] at ho_; obtain ⟨q, hq⟩ : ∃ q, l1 ++ acc = q := ⟨_, rfl⟩; rw [hq] at ho_; obtain ⟨AQ, cQ, rfl⟩ := Kd.R_slice ho_; have HQE := Aside0.mk hq; clear hq; replace HD := Aside0.mk (Kd.S_step HD.out (fun k hok hlt => hg_.block k hlt (fun he => by have := HF1.out.1 k he.symm; have := HN01.out; omega))); replace HV := Aside0.mk (Kd.R_step HV.out (fun k hok hlt => hg_.block k hlt (fun he => by have := HF1.out.1 k he.symm; omega))); replace HO := Aside0.mk (HO.out.row HF1.out (Nat.le_refl _) hg_ (by simp)); replace HN1 := Aside0.mk (Nat.le_trans HN1.out hg_.size); have HF2 := Aside0.mk ho_; clear ho_ hb_ hg_ hat_ HF1))
      obtain ⟨N2, hN2⟩ : ∃ N2, w_.heap.size = N2 := ⟨_, rfl⟩
      have HQ := Aside0.mk (Kd.R_mono (ok' := (fun k => N1 ≤ k ∧ k < N2)) (Kd.R_tight rfl HF2.out) (fun k hk => ⟨HF2.out.1 k hk.symm, by rw [← hN2]; exact Kd.R_lt HF2.out k hk.symm⟩))
      have HN12 := Aside0.mk (show N1 ≤ N2 by rw [← hN2]; exact HN1.out)
      have HNW := Aside0.mk (Nat.le_of_eq hN2.symm)
      replace HV := Aside0.mk (Kd.R_mono (ok' := (fun k => (N0 ≤ k ∧ k < N1) ∨ N2 ≤ k)) HV.out (fun k hk => .inl hk))
      have HQR := Aside0.mk (show ∀ x ∈ l1 ++ acc, 0 ≤ x ∧ x < (l0_0.length : Int) from fun x hx => by
        rcases List.mem_append.1 hx with h | h
        · exact HRNG.out x h
        · exact HJR.out x (HJ.out.snd x h))
      have HQJ := Aside0.mk (show ∀ x ∈ l1 ++ acc, ∀ y ∈ FL.getD x.toNat [], Q.Jn FL l1 y from fun x hx y hy => by
        rcases List.mem_append.1 hx with h | h
        · exact .one h hy
        · exact .on (HJ.out.snd x h) hy)
      have hq24 : (l1 ++ acc).length ≤ 24 := by rw [List.length_append]; omega
      rw [HQE.out] at HQR HQJ hq24
      clear hN2 HN1 HF2
      go_loopw [22, 6] (fun v22 v6 wr => ∃ (i : Nat) (acc2 : List Int), v22 = .int .i64 i ∧ i ≤ q.length ∧ Aside0 (Q.JSnd FL l1 acc2) ∧ Aside0 (∀ y ∈ acc, y ∈ acc2) ∧ Aside0 (∀ x ∈ q.take i, ∀ y ∈ FL.getD x.toNat [], y ∈ acc2) ∧ Aside0 ((Kd.int .i64).R 3 wr w.heap.size (fun k => (N0 ≤ k ∧ k < N1) ∨ N2 ≤ k) v6 acc2) ∧ Aside0 ((Kd.int .i64).R 3 wr w.heap.size (fun k => N1 ≤ k ∧ k < N2) (.slice AQ q.length cQ) q) ∧ Aside0 (Kd.S (Kd.slice 3 (Kd.int .i64)) 32 wr w.heap.size (fun k => k < N0) (.slice (some ⟨gd, 0, none⟩) l0_0.length cd) FL) ∧ Aside0 (N2 ≤ wr.heap.size) ∧ Aside0 (H.Own w wr [(gp, #[Value.slice A0_0 l0_0.length c0_0], 28)])) (fun v22 _ _ => q.length - (intOf v22).toNat)
      case atStart => exact ⟨0, acc, rfl, Nat.zero_le _, HJ, ⟨fun _ h => h⟩, ⟨fun x hx => by simp at hx⟩, HV, HQ, HD, HNW, HO⟩
      case round =>
        clear HO HV HQ HD HNW
        obtain ⟨i, acc2, rfl, hi, HJ2, HSUB, HCL, HV, HQ, HD, HNW, HO⟩ := hrel
        obtain ⟨AO2, cO2, rfl⟩ := Kd.R_slice HV.out
        by_cases hlt : i < q.length
        · obtain ⟨ad1, e1, hc1⟩ := Kd.at_int (Kd.R_reads' HQ.out).2.2 (i : Int) (by omega) (by omega)
          subst e1
          rw [Int.toNat_natCast] at hc1
          have hd : rd q (i : Int) = q.getD i 0 := rfl
          rw [hd] at hc1
          have htk : q.take (i + 1) = q.take i ++ [q.getD i 0] := by rw [List.take_add_one, List.getElem?_eq_getElem hlt, List.getD_eq_getElem?_getD, List.getElem?_eq_getElem hlt]; rfl
          have hmem : q.getD i 0 ∈ q := by rw [List.getD_eq_getElem?_getD, List.getElem?_eq_getElem hlt]; exact List.getElem_mem hlt
          have hin := HQR.out _ hmem
          have hqj := HQJ.out _ hmem
          obtain ⟨x, hx⟩ : ∃ x : Nat, q.getD i 0 = (x : Int) := ⟨(q.getD i 0).toNat, by omega⟩
          rw [hx] at hc1 htk hin hqj
          rw [Int.toNat_natCast] at hqj
          have HTK := Aside0.mk htk
          have hxn : (x : Int) < (l0_0.length : Int) := hin.2
          have hil : (i : Int) < (q.length : Int) := by omega
          obtain ⟨okr, ur, hur, hRr, hokr, _⟩ := H.S_holeG HD.out (show x < l0_0.length by omega)
          obtain ⟨row, hrow⟩ : ∃ row, FL.getD x [] = row := ⟨_, rfl⟩
          rw [hrow] at hRr hqj
          obtain ⟨AW, cW, rfl⟩ := Kd.R_slice hRr
          have HRW := Aside0.mk (Kd.R_mono (ok' := fun k => k < N0) hRr hokr)
          have HRJ := Aside0.mk hqj
          have hrl64 := (Kd.C_below (Kd.R_reads' HRW.out).2.2 (Below.refl _ _)).2.1
          have HRE := Aside0.mk hrow
          clear hd htk hmem hin hqj hx hRr hokr hrow
          go_wp2
          go_loopw [31, 6] (fun v31 v6 wr => ∃ (j : Nat) (acc3 : List Int), v31 = .int .i64 j ∧ j ≤ row.length ∧ Aside0 (Q.JSnd FL l1 acc3) ∧ Aside0 (∀ y ∈ acc2, y ∈ acc3) ∧ Aside0 (∀ y ∈ row.take j, y ∈ acc3) ∧ Aside0 ((Kd.int .i64).R 3 wr w.heap.size (fun k => (N0 ≤ k ∧ k < N1) ∨ N2 ≤ k) v6 acc3) ∧ Aside0 ((Kd.int .i64).R 3 wr w.heap.size (fun k => N1 ≤ k ∧ k < N2) (.slice (some ad1) q.length cQ) q) ∧ Aside0 (Kd.S (Kd.slice 3 (Kd.int .i64)) 32 wr w.heap.size (fun k => k < N0) (.slice (some ⟨gd, 0, none⟩) l0_0.length cd) FL) ∧ Aside0 ((Kd.int .i64).R 3 wr w.heap.size (fun k => k < N0) (.slice AW row.length cW) row) ∧ Aside0 (N2 ≤ wr.heap.size) ∧ Aside0 (H.Own w wr [(gp, #[Value.slice A0_0 l0_0.length c0_0], 28)])) (fun v31 _ _ => row.length - (intOf v31).toNat)
          case atStart => exact ⟨0, acc2, rfl, Nat.zero_le _, HJ2, ⟨fun _ h => h⟩, ⟨fun x hx => by simp at hx⟩, HV, HQ, HD, HRW, HNW, HO⟩
          case round =>
            clear HO HV HQ HD HNW HRW hc1 hur
            obtain ⟨j, acc3, rfl, hj, HJ3, HSB3, HC3, HV, HQ, HD, HRW, HNW, HO⟩ := hrel
            obtain ⟨AO3, cO3, rfl⟩ := Kd.R_slice HV.out
            have hl3 := HLEN.out acc3 HJ3.out
            have HL3 := Aside0.mk (show acc3.length ≤ 1048576 by omega)
            by_cases hlt2 : j < row.length
            · obtain ⟨ad2, e2, hc2⟩ := Kd.at_int (Kd.R_reads' HRW.out).2.2 (j : Int) (by omega) (by omega)
              subst e2
              rw [Int.toNat_natCast] at hc2
              have hd : rd row (j : Int) = row.getD j 0 := rfl
              rw [hd] at hc2
              have htk : row.take (j + 1) = row.take j ++ [row.getD j 0] := by rw [List.take_add_one, List.getElem?_eq_getElem hlt2, List.getD_eq_getElem?_getD, List.getElem?_eq_getElem hlt2]; rfl
              have hmem : row.getD j 0 ∈ row := by rw [List.getD_eq_getElem?_getD, List.getElem?_eq_getElem hlt2]; exact List.getElem_mem hlt2
              have HJY := Aside0.mk (HRJ.out _ hmem)
              have HTK2 := Aside0.mk htk
              have hjl : (j : Int) < (row.length : Int) := by omega
              generalize row.getD j 0 = y at hc2 HJY HTK2
              clear hd htk hmem
              go_wp2_with (go_at_call 41; refine (put_any acc3 HL3.out y (.slice AO3 acc3.length cO3) _ w _ HO.out.below HV.out).mono ?_; rintro e w3 ⟨v0, rfl, hv0, hb, hk⟩; have HPU := Aside0.mk (fun k (hk : some k = (Value.slice AO3 acc3.length cO3).ownBlock) => HV.out.1 k hk.symm); replace HRW := Aside0.mk (H.R_keptB HRW.out hk (fun k h1 h2 => by have a1 := HRW.out.1 k h1; have a2 := (HPU.out k h2); have := HN01.out; have := HN12.out; omega)); replace HQ := Aside0.mk (H.R_keptB HQ.out hk (fun k h1 h2 => by have a1 := HQ.out.1 k h1; have a2 := (HPU.out k h2); have := HN01.out; have := HN12.out; omega)); replace HD := Aside0.mk (Kd.S_step HD.out (fun k hok hlt => hk.2 k hlt (fun h2 => by have a2 := HPU.out k h2; have := HN01.out; have := HN12.out; omega))); replace HO := Aside0.mk (HO.out.keptU HV.out hk hb (by simp)); replace HV := Aside0.mk (Kd.R_mono (ok' := (fun k => (N0 ≤ k ∧ k < N1) ∨ N2 ≤ k)) hv0 (fun k hk' => hk'.elim (fun h => HPU.out k h) (fun h => .inr (Nat.le_trans HNW.out h)))); replace HNW := Aside0.mk (Nat.le_trans HNW.out hk.1); clear hv0 hb hk hc2)
              go_roundw
              case rel => exact ⟨j + 1, _, by go_num, by omega, ⟨HJ3.out.put HJY.out⟩, ⟨fun z hz => (Q.putL_mem _ _ _).2 (.inl (HSB3.out z hz))⟩, ⟨fun z hz => by
                rw [HTK2.out] at hz
                rcases List.mem_append.1 hz with h | h
                · exact (Q.putL_mem _ _ _).2 (.inl (HC3.out z h))
                · exact (Q.putL_mem _ _ _).2 (.inr (List.mem_singleton.1 h))⟩, HV, HQ, HD, HRW, HNW, HO⟩
              case measure => simp [intOf]; omega
            · have hE : j = row.length := by omega
              subst hE
              go_wp2
              go_roundw
              case rel => exact ⟨i + 1, acc3, by go_num, by omega, HJ3, ⟨fun z hz => HSB3.out z (HSUB.out z hz)⟩, ⟨fun z hz z2 hz2 => by
                rw [HTK.out] at hz
                rcases List.mem_append.1 hz with h | h
                · exact HSB3.out _ (HCL.out z h z2 hz2)
                · rw [List.mem_singleton.1 h, Int.toNat_natCast, HRE.out] at hz2
                  exact HC3.out z2 (by rw [List.take_length]; exact hz2)⟩, HV, HQ, HD, HNW, HO⟩
              case measure => simp [intOf]; omega
        · have hE : i = q.length := by omega
          subst hE
          have hgrow := HJ.out.grow HJ2.out HSUB.out
          have hl2 := HLEN.out acc2 HJ2.out
          have hsame := HJ.out.same HJ2.out HSUB.out
          by_cases e : acc2.length = acc.length
          · have e2 := hsame e
            subst e2
            have HF := Aside0.mk (HDONE.out acc2 HJ.out (fun x hx y hy => HCL.out x (by rw [List.take_length, ← HQE.out]; exact hx) y hy))
            clear hgrow hsame
            go_wp2
            go_ret
            exact ⟨_, rfl, by rw [← HF.out]; exact Kd.R_mono HV.out (fun _ _ => trivial), HO.out.below⟩
          · have e3 : ((acc2.length : Int) == (acc.length : Int)) = false := beq_eq_false_iff_ne.2 (by omega)
            clear hsame
            go_wp2
            go_roundw
            case rel => exact ⟨acc2, HJ2, ⟨Kd.R_mono HV.out (fun k hk => by have := HN01.out; have := HN12.out; omega)⟩, HD, ⟨by have := HN01.out; have := HN12.out; have := HNW.out; omega⟩, HO⟩
            case measure => simp [Q.sliceLen]; omega
end Go.Proofs.Ytndkblahnihhjaa.P

namespace Go.Proofs.Ytndkblahnihhjaa.P
open Go.RowKit Go.Proofs.YtndkblahnihhjaaW.PrintWords Go.Proofs.YtndkblahnihhjaaW.PrintLast Go.Proofs.YtndkblahnihhjaaW.PrintMore
attribute [local go_sem] max2_int min2_int max_two min_two max_three min_three max_four min_four
def spec_JoinsOf.f (k : Nat) (l0_0 : List (List Int)) (l1 : List Int) : Option (List Int × Bool) := (spec_GoodGraph.f k l0_0).bind fun t249 => (if t249 = true then ((spec_l11Blocks.f k l0_0 l1).bind fun t250 => (if t250 = true then ((spec_l1Has.f k l1 0).bind fun t251 => (if t251 = true then ((spec_l11Joins.f l0_0 l1).bind fun t252 => (some (t252, true))) else (some (([] : List Int), false)))) else (some (([] : List Int), false)))) else (some (([] : List Int), false)))
theorem spec_JoinsOf.mono : ∀ a0 a1 k, LeO (spec_JoinsOf.f k a0 a1) (spec_JoinsOf.f (k + 1) a0 a1) := by
  intro a0 a1 k
  unfold spec_JoinsOf.f
  repeat' first
      | (with_reducible exact spec_GoodGraph.mono _ _)
      | (with_reducible exact spec_l11Blocks.mono _ _ _)
      | (with_reducible exact spec_l1Has.mono _ _ _)
      | (with_reducible exact LeO.refl _)
      | (with_reducible exact LeO.none _)
      | (with_reducible refine LeO.ite ?_ ?_)
      | (with_reducible refine LeO.bind ?_ (fun _ => ?_))
      | exact spec_GoodGraph.mono _ _
      | exact spec_l11Blocks.mono _ _ _
      | exact spec_l1Has.mono _ _ _
      | exact LeO.none _
      | refine LeO.ite ?_ ?_
      | refine LeO.bind ?_ (fun _ => ?_)
set_option maxHeartbeats 8000000 in
set_option maxRecDepth 100000 in
theorem spec_JoinsOf.calls (k : Nat) (A0_0 : Option Addr) (c0_0 : Nat) (l0_0 : List (List Int)) (A1 : Option Addr) (c1 : Nat) (l1 : List Int) (r1 : List Int) (r2 : Bool) (w : World) (hr0_0 : Kd.C (Kd.slice 3 (Kd.int .i64)) w A0_0 l0_0.length l0_0) (hc0_0 : l0_0.length ≤ c0_0) (hr1 : Kd.C (Kd.int .i64) w A1 l1.length l1) (hc1 : l1.length ≤ c1) (h : spec_JoinsOf.f k l0_0 l1 = some (r1, r2)) :
    Calls Try.prog 13 #[.agg #[.slice A0_0 l0_0.length c0_0], .slice A1 l1.length c1] w fun e w' => ∃ v0_ : Value, e = .returned (.tuple #[v0_, .bool r2]) ∧ Kd.R (Kd.int .i64) 3 w' w.heap.size (fun _ => True) v0_ r1 ∧ Below w.heap.size w w' := by
  have hu28 := Try.underlying28
  have HR0_0 := Aside0.mk hr0_0
  have HC0_0 := Aside0.mk hc0_0
  clear hr0_0 hc0_0
  have HR1 := Aside0.mk hr1
  have HC1 := Aside0.mk hc1
  clear hr1 hc1
  have HB := Aside0.mk (Below.refl w.heap.size w)
  have H : ((spec_GoodGraph.f k l0_0).bind fun t249 => (if t249 = true then ((spec_l11Blocks.f k l0_0 l1).bind fun t250 => (if t250 = true then ((spec_l1Has.f k l1 0).bind fun t251 => (if t251 = true then ((spec_l11Joins.f l0_0 l1).bind fun t252 => (some (t252, true))) else (some (([] : List Int), false)))) else (some (([] : List Int), false)))) else (some (([] : List Int), false)))) = some (r1, r2) := h
  clear h
  replace H := Option.bind_eq_some_iff.mp H
  obtain ⟨t249, A30, H⟩ := H
  replace H : (if t249 = true then ((spec_l11Blocks.f k l0_0 l1).bind fun t250 => (if t250 = true then ((spec_l1Has.f k l1 0).bind fun t251 => (if t251 = true then ((spec_l11Joins.f l0_0 l1).bind fun t252 => (some (t252, true))) else (some (([] : List Int), false)))) else (some (([] : List Int), false)))) else (some (([] : List Int), false))) = some (r1, r2) := H
  have A3 := Aside0.mk A30
  clear A30
  by_cases c4 : t249 = true
  · subst c4
    have H1 : ((spec_l11Blocks.f k l0_0 l1).bind fun t250 => (if t250 = true then ((spec_l1Has.f k l1 0).bind fun t251 => (if t251 = true then ((spec_l11Joins.f l0_0 l1).bind fun t252 => (some (t252, true))) else (some (([] : List Int), false)))) else (some (([] : List Int), false)))) = some (r1, r2) := by rw [if_pos rfl] at H; exact H
    clear H
    have H := H1
    clear H1
    replace H := Option.bind_eq_some_iff.mp H
    obtain ⟨t250, A50, H⟩ := H
    replace H : (if t250 = true then ((spec_l1Has.f k l1 0).bind fun t251 => (if t251 = true then ((spec_l11Joins.f l0_0 l1).bind fun t252 => (some (t252, true))) else (some (([] : List Int), false)))) else (some (([] : List Int), false))) = some (r1, r2) := H
    have A5 := Aside0.mk A50
    clear A50
    by_cases c6 : t250 = true
    · subst c6
      have H1 : ((spec_l1Has.f k l1 0).bind fun t251 => (if t251 = true then ((spec_l11Joins.f l0_0 l1).bind fun t252 => (some (t252, true))) else (some (([] : List Int), false)))) = some (r1, r2) := by rw [if_pos rfl] at H; exact H
      clear H
      have H := H1
      clear H1
      replace H := Option.bind_eq_some_iff.mp H
      obtain ⟨t251, A70, H⟩ := H
      replace H : (if t251 = true then ((spec_l11Joins.f l0_0 l1).bind fun t252 => (some (t252, true))) else (some (([] : List Int), false))) = some (r1, r2) := H
      have A7 := Aside0.mk A70
      clear A70
      by_cases c8 : t251 = true
      · subst c8
        have H1 : ((spec_l11Joins.f l0_0 l1).bind fun t252 => (some (t252, true))) = some (r1, r2) := by rw [if_pos rfl] at H; exact H
        clear H
        have H := H1
        clear H1
        replace H := Option.bind_eq_some_iff.mp H
        obtain ⟨t252, A90, H⟩ := H
        replace H : (some (t252, true)) = some (r1, r2) := H
        have A9 := Aside0.mk A90
        clear A90
        simp only [Option.some.injEq, Prod.mk.injEq] at H
        obtain ⟨rfl, rfl⟩ := H
        go_enter Try.func13, Try.ntmps13
        go_wp2_with (first | ((with_reducible refine gate_dst (N := 2) rfl ?_); refine box_event ?hg (N := 2) ?hd (cs := #[.slice A0_0 l0_0.length c0_0]) (t := 28) ?hr ?_; (case hd => rfl); (case hg => rfl); (case hr => first | (go_simp; done) | (go_simp; rfl)); intro gb248 hg w10 hbox hb; have n0_ := Aside0.mk (below_step (by repeat (first | (with_reducible first | exact HB.out | apply below_alloc | apply pw_below_drewN | apply below_drew1) | exact HB.out)) hb); have n1_ := Aside0.mk (hbox); have n2_ := Aside0.mk ((by rw [hg]; exact (below_size (by repeat (first | (with_reducible first | exact HB.out | apply below_alloc | apply pw_below_drewN | apply below_drew1) | exact HB.out))) : w.heap.size ≤ gb248)); have n3_ := Aside0.mk ((by rw [hg]; exact (below_size (by repeat (first | (with_reducible first | exact HB.out | apply below_alloc | apply pw_below_drewN | apply below_drew1) | exact HB.out))) : w.heap.size ≤ gb248)); clear HB; have HB := n0_; have BK248 := n1_; have GW248 := n2_; have GE248 := n3_; clear n0_ n1_ n2_ n3_; clear hb hbox hg; have hcz11_0 : w10.cell? ⟨gb248, 0, none⟩ = some (.slice A0_0 l0_0.length c0_0) := (blk_cell BK248.out 0).trans rfl; have hfz11_0 := blk_frozen BK248.out 0) | ((with_reducible refine gate_callee (f := 39) rfl ?_); refine goesL_ (some 7) rfl rfl Try.func39 (by kernel_rfl) rfl #[.agg #[.slice A0_0 l0_0.length c0_0]] rfl (by (try simp only [List.map_toArray, List.map_cons, List.map_nil]); first | done | rfl | (simp only [List.length_drop, List.length_take]; rfl)) ?_; (with_reducible refine (spec_GoodGraph.calls k _ _ l0_0 true _ ?side1 ?side2 A3.out).mono ?_); (case side1 => repeat (first | exact (Kd.C_below HR0_0.out HB.out) | (with_reducible refine Kd.C_alloc ?_ _) | (with_reducible refine Kd.C_drewN ?_ _) | (with_reducible refine Kd.C_drew ?_))); (case side2 => exact HC0_0.out); rintro e w12 ⟨rfl, hb⟩; refine ⟨_, rfl, ?_⟩; have n0_ := Aside0.mk (blk_below (g := gb248) (o := .cells #[.slice A0_0 l0_0.length c0_0] 28 (0, 0)) (by (with_reducible repeat (first | refine blk_drewN ?_ _ | refine blk_drew ?_ | refine blk_alloc ?_ _)); exact BK248.out) hb); have n1_ := Aside0.mk (below_step (by repeat (first | (with_reducible first | exact HB.out | apply below_alloc | apply pw_below_drewN | apply below_drew1 | refine below_set ?_ GE248.out) | exact HB.out)) hb); clear BK248; clear HB; have BK248 := n0_; have HB := n1_; clear n0_ n1_; (try clear hb); (try clear hb2); (try clear hk); (try clear hi); have hcz13_0 : w12.cell? ⟨gb248, 0, none⟩ = some (.slice A0_0 l0_0.length c0_0) := (blk_cell BK248.out 0).trans rfl; have hfz13_0 := blk_frozen BK248.out 0) | (go_at_call 40; (with_reducible refine (spec_l11Blocks.calls k _ _ l0_0 _ _ l1 true _ ?side1 ?side2 ?side3 ?side4 A5.out).mono ?_); (case side1 => repeat (first | exact (Kd.C_below HR0_0.out HB.out) | (with_reducible refine Kd.C_alloc ?_ _) | (with_reducible refine Kd.C_drewN ?_ _) | (with_reducible refine Kd.C_drew ?_))); (case side2 => exact HC0_0.out); (case side3 => repeat (first | exact (Kd.C_below HR1.out HB.out) | (with_reducible refine Kd.C_alloc ?_ _) | (with_reducible refine Kd.C_drewN ?_ _) | (with_reducible refine Kd.C_drew ?_))); (case side4 => exact HC1.out); rintro e w14 ⟨rfl, hb⟩; have n0_ := Aside0.mk (blk_below (g := gb248) (o := .cells #[.slice A0_0 l0_0.length c0_0] 28 (0, 0)) (by (with_reducible repeat (first | refine blk_drewN ?_ _ | refine blk_drew ?_ | refine blk_alloc ?_ _)); exact BK248.out) hb); have n1_ := Aside0.mk (below_step (by repeat (first | (with_reducible first | exact HB.out | apply below_alloc | apply pw_below_drewN | apply below_drew1 | refine below_set ?_ GE248.out) | exact HB.out)) hb); clear BK248; clear HB; have BK248 := n0_; have HB := n1_; clear n0_ n1_; (try clear hb); (try clear hb2); (try clear hk); (try clear hi)) | (go_at_call 43; (with_reducible refine (spec_l1Has.calls k _ _ l1 0 true _ ?side1 ?side2 A7.out).mono ?_); (case side1 => repeat (first | exact (Kd.C_below HR1.out HB.out) | (with_reducible refine Kd.C_alloc ?_ _) | (with_reducible refine Kd.C_drewN ?_ _) | (with_reducible refine Kd.C_drew ?_))); (case side2 => exact HC1.out); rintro e w' ⟨rfl, ⟨nd, rfl⟩⟩; have hcz15_0 : w14.cell? ⟨gb248, 0, none⟩ = some (.slice A0_0 l0_0.length c0_0) := (blk_cell BK248.out 0).trans rfl; have hfz15_0 := blk_frozen BK248.out 0) | ((with_reducible refine gate_callee (f := 42) rfl ?_); refine goesL_ (some 22) rfl rfl Try.func42 (by kernel_rfl) rfl #[.agg #[.slice A0_0 l0_0.length c0_0], .slice A1 l1.length c1] rfl (by (try simp only [List.map_toArray, List.map_cons, List.map_nil]); first | done | rfl | (simp only [List.length_drop, List.length_take]; rfl)) ?_; (with_reducible refine (spec_l11Joins.calls _ _ l0_0 _ _ l1 t252 _ ?side1 ?side2 ?side3 ?side4 A9.out).mono ?_); (case side1 => repeat (first | exact (Kd.C_below HR0_0.out (by repeat (first | (with_reducible first | exact HB.out | apply below_alloc | apply pw_below_drewN | apply below_drew1 | refine below_set ?_ GE248.out) | exact HB.out))) | (with_reducible refine Kd.C_alloc ?_ _) | (with_reducible refine Kd.C_drewN ?_ _) | (with_reducible refine Kd.C_drew ?_))); (case side2 => exact HC0_0.out); (case side3 => repeat (first | exact (Kd.C_below HR1.out (by repeat (first | (with_reducible first | exact HB.out | apply below_alloc | apply pw_below_drewN | apply below_drew1 | refine below_set ?_ GE248.out) | exact HB.out))) | (with_reducible refine Kd.C_alloc ?_ _) | (with_reducible refine Kd.C_drewN ?_ _) | (with_reducible refine Kd.C_drew ?_))); (case side4 => exact HC1.out); rintro e w16 ⟨v253, rfl, ho0, hb⟩; refine ⟨_, rfl, ?_⟩; have n0_ := Aside0.mk (Kd.R_lower ho0 (below_size (by repeat (first | (with_reducible first | exact HB.out | apply below_alloc | apply pw_below_drewN | apply below_drew1 | refine below_set ?_ GE248.out) | exact HB.out)))); have n1_ := Aside0.mk (blk_below (g := gb248) (o := .cells #[.slice A0_0 l0_0.length c0_0] 28 (0, 0)) (by (with_reducible repeat (first | refine blk_drewN ?_ _ | refine blk_drew ?_ | refine blk_alloc ?_ _)); exact BK248.out) hb); have n2_ := Aside0.mk (below_step (by repeat (first | (with_reducible first | exact HB.out | apply below_alloc | apply pw_below_drewN | apply below_drew1 | refine below_set ?_ GE248.out) | exact HB.out)) hb); clear BK248; clear HB; have HO254 := n0_; have BK248 := n1_; have HB := n2_; clear n0_ n1_ n2_; (try clear hb); (try clear hb2); (try clear hk); (try clear hi); (try clear ho0)))
        go_ret2
        exact ⟨_, by first | rfl | (simp [errW_none, errW_some] <;> rfl) | (simp [*, errW_none, errW_some] <;> rfl), by (with_reducible repeat (first | apply Kd.R_alloc | apply Kd.R_drewN | apply Kd.R_drew)); exact HO254.out, by repeat (first | (with_reducible first | exact HB.out | apply below_alloc | apply pw_below_drewN | apply below_drew1 | refine below_set ?_ GE248.out) | exact HB.out)⟩
      · replace c8 := Bool.eq_false_iff.mpr c8
        subst c8
        have H1 : (some (([] : List Int), false)) = some (r1, r2) := by rw [if_neg (show ¬ (false = true) by decide)] at H; exact H
        clear H
        have H := H1
        clear H1
        simp only [Option.some.injEq, Prod.mk.injEq] at H
        obtain ⟨rfl, rfl⟩ := H
        go_enter Try.func13, Try.ntmps13
        go_wp2_with (first | ((with_reducible refine gate_dst (N := 2) rfl ?_); refine box_event ?hg (N := 2) ?hd (cs := #[.slice A0_0 l0_0.length c0_0]) (t := 28) ?hr ?_; (case hd => rfl); (case hg => rfl); (case hr => first | (go_simp; done) | (go_simp; rfl)); intro gb248 hg w17 hbox hb; have n0_ := Aside0.mk (below_step (by repeat (first | (with_reducible first | exact HB.out | apply below_alloc | apply pw_below_drewN | apply below_drew1) | exact HB.out)) hb); have n1_ := Aside0.mk (hbox); have n2_ := Aside0.mk ((by rw [hg]; exact (below_size (by repeat (first | (with_reducible first | exact HB.out | apply below_alloc | apply pw_below_drewN | apply below_drew1) | exact HB.out))) : w.heap.size ≤ gb248)); have n3_ := Aside0.mk ((by rw [hg]; exact (below_size (by repeat (first | (with_reducible first | exact HB.out | apply below_alloc | apply pw_below_drewN | apply below_drew1) | exact HB.out))) : w.heap.size ≤ gb248)); clear HB; have HB := n0_; have BK248 := n1_; have GW248 := n2_; have GE248 := n3_; clear n0_ n1_ n2_ n3_; clear hb hbox hg; have hcz18_0 : w17.cell? ⟨gb248, 0, none⟩ = some (.slice A0_0 l0_0.length c0_0) := (blk_cell BK248.out 0).trans rfl; have hfz18_0 := blk_frozen BK248.out 0) | ((with_reducible refine gate_callee (f := 39) rfl ?_); refine goesL_ (some 7) rfl rfl Try.func39 (by kernel_rfl) rfl #[.agg #[.slice A0_0 l0_0.length c0_0]] rfl (by (try simp only [List.map_toArray, List.map_cons, List.map_nil]); first | done | rfl | (simp only [List.length_drop, List.length_take]; rfl)) ?_; (with_reducible refine (spec_GoodGraph.calls k _ _ l0_0 true _ ?side1 ?side2 A3.out).mono ?_); (case side1 => repeat (first | exact (Kd.C_below HR0_0.out HB.out) | (with_reducible refine Kd.C_alloc ?_ _) | (with_reducible refine Kd.C_drewN ?_ _) | (with_reducible refine Kd.C_drew ?_))); (case side2 => exact HC0_0.out); rintro e w19 ⟨rfl, hb⟩; refine ⟨_, rfl, ?_⟩; have n0_ := Aside0.mk (blk_below (g := gb248) (o := .cells #[.slice A0_0 l0_0.length c0_0] 28 (0, 0)) (by (with_reducible repeat (first | refine blk_drewN ?_ _ | refine blk_drew ?_ | refine blk_alloc ?_ _)); exact BK248.out) hb); have n1_ := Aside0.mk (below_step (by repeat (first | (with_reducible first | exact HB.out | apply below_alloc | apply pw_below_drewN | apply below_drew1 | refine below_set ?_ GE248.out) | exact HB.out)) hb); clear BK248; clear HB; have BK248 := n0_; have HB := n1_; clear n0_ n1_; (try clear hb); (try clear hb2); (try clear hk); (try clear hi); have hcz20_0 : w19.cell? ⟨gb248, 0, none⟩ = some (.slice A0_0 l0_0.length c0_0) := (blk_cell BK248.out 0).trans rfl; have hfz20_0 := blk_frozen BK248.out 0) | (go_at_call 40; (with_reducible refine (spec_l11Blocks.calls k _ _ l0_0 _ _ l1 true _ ?side1 ?side2 ?side3 ?side4 A5.out).mono ?_); (case side1 => repeat (first | exact (Kd.C_below HR0_0.out HB.out) | (with_reducible refine Kd.C_alloc ?_ _) | (with_reducible refine Kd.C_drewN ?_ _) | (with_reducible refine Kd.C_drew ?_))); (case side2 => exact HC0_0.out); (case side3 => repeat (first | exact (Kd.C_below HR1.out HB.out) | (with_reducible refine Kd.C_alloc ?_ _) | (with_reducible refine Kd.C_drewN ?_ _) | (with_reducible refine Kd.C_drew ?_))); (case side4 => exact HC1.out); rintro e w21 ⟨rfl, hb⟩; have n0_ := Aside0.mk (blk_below (g := gb248) (o := .cells #[.slice A0_0 l0_0.length c0_0] 28 (0, 0)) (by (with_reducible repeat (first | refine blk_drewN ?_ _ | refine blk_drew ?_ | refine blk_alloc ?_ _)); exact BK248.out) hb); have n1_ := Aside0.mk (below_step (by repeat (first | (with_reducible first | exact HB.out | apply below_alloc | apply pw_below_drewN | apply below_drew1 | refine below_set ?_ GE248.out) | exact HB.out)) hb); clear BK248; clear HB; have BK248 := n0_; have HB := n1_; clear n0_ n1_; (try clear hb); (try clear hb2); (try clear hk); (try clear hi)) | (go_at_call 43; (with_reducible refine (spec_l1Has.calls k _ _ l1 0 false _ ?side1 ?side2 A7.out).mono ?_); (case side1 => repeat (first | exact (Kd.C_below HR1.out HB.out) | (with_reducible refine Kd.C_alloc ?_ _) | (with_reducible refine Kd.C_drewN ?_ _) | (with_reducible refine Kd.C_drew ?_))); (case side2 => exact HC1.out); rintro e w' ⟨rfl, ⟨nd, rfl⟩⟩))
        go_ret2
        exact ⟨_, by first | rfl | (simp [errW_none, errW_some] <;> rfl) | (simp [*, errW_none, errW_some] <;> rfl), by first | exact Kd.R_nil _ _ _ _ _ | exact Kd.N_nil _ _ _ _ _ | exact Kd.V_nil _ _ _ _ _ | exact Kd.Q_nil _ _ _ _ _ | exact Kd.S_nil _ _ _ _ _, by repeat (first | (with_reducible first | exact HB.out | apply below_alloc | apply pw_below_drewN | apply below_drew1 | refine below_set ?_ GE248.out) | exact HB.out)⟩
    · replace c6 := Bool.eq_false_iff.mpr c6
      subst c6
      have H1 : (some (([] : List Int), false)) = some (r1, r2) := by rw [if_neg (show ¬ (false = true) by decide)] at H; exact H
      clear H
      have H := H1
      clear H1
      simp only [Option.some.injEq, Prod.mk.injEq] at H
      obtain ⟨rfl, rfl⟩ := H
      go_enter Try.func13, Try.ntmps13
      go_wp2_with (first | ((with_reducible refine gate_dst (N := 2) rfl ?_); refine box_event ?hg (N := 2) ?hd (cs := #[.slice A0_0 l0_0.length c0_0]) (t := 28) ?hr ?_; (case hd => rfl); (case hg => rfl); (case hr => first | (go_simp; done) | (go_simp; rfl)); intro gb248 hg w22 hbox hb; have n0_ := Aside0.mk (below_step (by repeat (first | (with_reducible first | exact HB.out | apply below_alloc | apply pw_below_drewN | apply below_drew1) | exact HB.out)) hb); have n1_ := Aside0.mk (hbox); have n2_ := Aside0.mk ((by rw [hg]; exact (below_size (by repeat (first | (with_reducible first | exact HB.out | apply below_alloc | apply pw_below_drewN | apply below_drew1) | exact HB.out))) : w.heap.size ≤ gb248)); have n3_ := Aside0.mk ((by rw [hg]; exact (below_size (by repeat (first | (with_reducible first | exact HB.out | apply below_alloc | apply pw_below_drewN | apply below_drew1) | exact HB.out))) : w.heap.size ≤ gb248)); clear HB; have HB := n0_; have BK248 := n1_; have GW248 := n2_; have GE248 := n3_; clear n0_ n1_ n2_ n3_; clear hb hbox hg; have hcz23_0 : w22.cell? ⟨gb248, 0, none⟩ = some (.slice A0_0 l0_0.length c0_0) := (blk_cell BK248.out 0).trans rfl; have hfz23_0 := blk_frozen BK248.out 0) | ((with_reducible refine gate_callee (f := 39) rfl ?_); refine goesL_ (some 7) rfl rfl Try.func39 (by kernel_rfl) rfl #[.agg #[.slice A0_0 l0_0.length c0_0]] rfl (by (try simp only [List.map_toArray, List.map_cons, List.map_nil]); first | done | rfl | (simp only [List.length_drop, List.length_take]; rfl)) ?_; (with_reducible refine (spec_GoodGraph.calls k _ _ l0_0 true _ ?side1 ?side2 A3.out).mono ?_); (case side1 => repeat (first | exact (Kd.C_below HR0_0.out HB.out) | (with_reducible refine Kd.C_alloc ?_ _) | (with_reducible refine Kd.C_drewN ?_ _) | (with_reducible refine Kd.C_drew ?_))); (case side2 => exact HC0_0.out); rintro e w24 ⟨rfl, hb⟩; refine ⟨_, rfl, ?_⟩; have n0_ := Aside0.mk (blk_below (g := gb248) (o := .cells #[.slice A0_0 l0_0.length c0_0] 28 (0, 0)) (by (with_reducible repeat (first | refine blk_drewN ?_ _ | refine blk_drew ?_ | refine blk_alloc ?_ _)); exact BK248.out) hb); have n1_ := Aside0.mk (below_step (by repeat (first | (with_reducible first | exact HB.out | apply below_alloc | apply pw_below_drewN | apply below_drew1 | refine below_set ?_ GE248.out) | exact HB.out)) hb); clear BK248; clear HB; have BK248 := n0_; have HB := n1_; clear n0_ n1_; (try clear hb); (try clear hb2); (try clear hk); (try clear hi); have hcz25_0 : w24.cell? ⟨gb248, 0, none⟩ = some (.slice A0_0 l0_0.length c0_0) := (blk_cell BK248.out 0).trans rfl; have hfz25_0 := blk_frozen BK248.out 0) | (go_at_call 40; (with_reducible refine (spec_l11Blocks.calls k _ _ l0_0 _ _ l1 false _ ?side1 ?side2 ?side3 ?side4 A5.out).mono ?_); (case side1 => repeat (first | exact (Kd.C_below HR0_0.out HB.out) | (with_reducible refine Kd.C_alloc ?_ _) | (with_reducible refine Kd.C_drewN ?_ _) | (with_reducible refine Kd.C_drew ?_))); (case side2 => exact HC0_0.out); (case side3 => repeat (first | exact (Kd.C_below HR1.out HB.out) | (with_reducible refine Kd.C_alloc ?_ _) | (with_reducible refine Kd.C_drewN ?_ _) | (with_reducible refine Kd.C_drew ?_))); (case side4 => exact HC1.out); rintro e w26 ⟨rfl, hb⟩; have n0_ := Aside0.mk (blk_below (g := gb248) (o := .cells #[.slice A0_0 l0_0.length c0_0] 28 (0, 0)) (by (with_reducible repeat (first | refine blk_drewN ?_ _ | refine blk_drew ?_ | refine blk_alloc ?_ _)); exact BK248.out) hb); have n1_ := Aside0.mk (below_step (by repeat (first | (with_reducible first | exact HB.out | apply below_alloc | apply pw_below_drewN | apply below_drew1 | refine below_set ?_ GE248.out) | exact HB.out)) hb); clear BK248; clear HB; have BK248 := n0_; have HB := n1_; clear n0_ n1_; (try clear hb); (try clear hb2); (try clear hk); (try clear hi)))
      go_ret2
      exact ⟨_, by first | rfl | (simp [errW_none, errW_some] <;> rfl) | (simp [*, errW_none, errW_some] <;> rfl), by first | exact Kd.R_nil _ _ _ _ _ | exact Kd.N_nil _ _ _ _ _ | exact Kd.V_nil _ _ _ _ _ | exact Kd.Q_nil _ _ _ _ _ | exact Kd.S_nil _ _ _ _ _, by repeat (first | (with_reducible first | exact HB.out | apply below_alloc | apply pw_below_drewN | apply below_drew1 | refine below_set ?_ GE248.out) | exact HB.out)⟩
  · replace c4 := Bool.eq_false_iff.mpr c4
    subst c4
    have H1 : (some (([] : List Int), false)) = some (r1, r2) := by rw [if_neg (show ¬ (false = true) by decide)] at H; exact H
    clear H
    have H := H1
    clear H1
    simp only [Option.some.injEq, Prod.mk.injEq] at H
    obtain ⟨rfl, rfl⟩ := H
    go_enter Try.func13, Try.ntmps13
    go_wp2_with (first | ((with_reducible refine gate_dst (N := 2) rfl ?_); refine box_event ?hg (N := 2) ?hd (cs := #[.slice A0_0 l0_0.length c0_0]) (t := 28) ?hr ?_; (case hd => rfl); (case hg => rfl); (case hr => first | (go_simp; done) | (go_simp; rfl)); intro gb248 hg w27 hbox hb; have n0_ := Aside0.mk (below_step (by repeat (first | (with_reducible first | exact HB.out | apply below_alloc | apply pw_below_drewN | apply below_drew1) | exact HB.out)) hb); have n1_ := Aside0.mk (hbox); have n2_ := Aside0.mk ((by rw [hg]; exact (below_size (by repeat (first | (with_reducible first | exact HB.out | apply below_alloc | apply pw_below_drewN | apply below_drew1) | exact HB.out))) : w.heap.size ≤ gb248)); have n3_ := Aside0.mk ((by rw [hg]; exact (below_size (by repeat (first | (with_reducible first | exact HB.out | apply below_alloc | apply pw_below_drewN | apply below_drew1) | exact HB.out))) : w.heap.size ≤ gb248)); clear HB; have HB := n0_; have BK248 := n1_; have GW248 := n2_; have GE248 := n3_; clear n0_ n1_ n2_ n3_; clear hb hbox hg; have hcz28_0 : w27.cell? ⟨gb248, 0, none⟩ = some (.slice A0_0 l0_0.length c0_0) := (blk_cell BK248.out 0).trans rfl; have hfz28_0 := blk_frozen BK248.out 0) | ((with_reducible refine gate_callee (f := 39) rfl ?_); refine goesL_ (some 7) rfl rfl Try.func39 (by kernel_rfl) rfl #[.agg #[.slice A0_0 l0_0.length c0_0]] rfl (by (try simp only [List.map_toArray, List.map_cons, List.map_nil]); first | done | rfl | (simp only [List.length_drop, List.length_take]; rfl)) ?_; (with_reducible refine (spec_GoodGraph.calls k _ _ l0_0 false _ ?side1 ?side2 A3.out).mono ?_); (case side1 => repeat (first | exact (Kd.C_below HR0_0.out HB.out) | (with_reducible refine Kd.C_alloc ?_ _) | (with_reducible refine Kd.C_drewN ?_ _) | (with_reducible refine Kd.C_drew ?_))); (case side2 => exact HC0_0.out); rintro e w29 ⟨rfl, hb⟩; refine ⟨_, rfl, ?_⟩; have n0_ := Aside0.mk (blk_below (g := gb248) (o := .cells #[.slice A0_0 l0_0.length c0_0] 28 (0, 0)) (by (with_reducible repeat (first | refine blk_drewN ?_ _ | refine blk_drew ?_ | refine blk_alloc ?_ _)); exact BK248.out) hb); have n1_ := Aside0.mk (below_step (by repeat (first | (with_reducible first | exact HB.out | apply below_alloc | apply pw_below_drewN | apply below_drew1 | refine below_set ?_ GE248.out) | exact HB.out)) hb); clear BK248; clear HB; have BK248 := n0_; have HB := n1_; clear n0_ n1_; (try clear hb); (try clear hb2); (try clear hk); (try clear hi)))
    go_ret2
    exact ⟨_, by first | rfl | (simp [errW_none, errW_some] <;> rfl) | (simp [*, errW_none, errW_some] <;> rfl), by first | exact Kd.R_nil _ _ _ _ _ | exact Kd.N_nil _ _ _ _ _ | exact Kd.V_nil _ _ _ _ _ | exact Kd.Q_nil _ _ _ _ _ | exact Kd.S_nil _ _ _ _ _, by repeat (first | (with_reducible first | exact HB.out | apply below_alloc | apply pw_below_drewN | apply below_drew1 | refine below_set ?_ GE248.out) | exact HB.out)⟩
end Go.Proofs.Ytndkblahnihhjaa.P

namespace Go.Proofs.Ytndkblahnihhjaa.Q
open Go.RowKit Go.Proofs.Ytndkblahnihhjaa.P Go.Proofs.Ytndkblahnihhjaa.H Go.Proofs.YtndkblahnihhjaaW.PrintWords
theorem srt_first {l : List Int} (h : Srt l) (h0 : ∀ y ∈ l, 0 ≤ y) : (decide ((0 : Int) ∈ l)) = (decide (0 < l.length) && decide (l.getD 0 0 = 0)) := by
  cases l with
  | nil => simp
  | cons y l =>
    rw [Bool.eq_iff_iff]
    simp only [Bool.and_eq_true, decide_eq_true_eq, List.length_cons, List.getD_cons_zero, List.mem_cons]
    constructor
    · rintro (h1 | h1)
      · exact ⟨by omega, h1.symm⟩
      · have h2 := (List.pairwise_cons.1 h).1 0 h1
        have h3 := h0 y (by simp)
        omega
    · intro h1
      exact .inl h1.2.symm
theorem specJoins_ev {g : List (List Int)} {l : List Int} (hG : goodG g = true) (hr : ∀ y ∈ l, 0 ≤ y ∧ y < (g.length : Int)) (hn : l.length ≤ 12) : spec_l11Joins.f g l = some (listTo (joinsF (froL g) l) 12) := by
  unfold spec_l11Joins.f
  rw [hG, inRow_yes hr hn]
  rfl
theorem joinsOf_core (g : List (List Int)) (l : List Int) (hg : Small g) (hl : l.length ≤ 1048576) : ∃ (s1 : List Int) (s2 : Bool), Ev (fun k => spec_JoinsOf.f k g l) (s1, s2) ∧ impl_JoinsOf.f g l = some (s1, s2) ∧ s1.length ≤ 1048576 ∧ s2 = setsB g l := by
  unfold impl_JoinsOf.f spec_JoinsOf.f
  cases hG : goodG g with
  | false =>
    have hs : setsB g l = false := by unfold setsB; rw [hG, Bool.false_and]
    refine ⟨[], false, (specGoodGraph_ev g hg).bind ?_, by rw [hs, if_neg (by simp)], by simp, hs.symm⟩
    rw [hG]
    exact ev_is fun k => by rw [if_neg (by simp)]
  | true =>
    have hr := goodG_rows hG
    cases hb : rlF g l with
    | false =>
      have hs : setsB g l = false := by unfold setsB; rw [hG, hb]; rfl
      refine ⟨[], false, (specGoodGraph_ev g hg).bind ?_, by rw [hs, if_neg (by simp)], by simp, hs.symm⟩
      rw [hG]
      refine Ev.congr (fun k => by rw [if_pos rfl]) ((B.blocks_ev hG l hl).bind ?_)
      rw [hb]
      exact ev_is fun k => by rw [if_neg (by simp)]
    | true =>
      have hrn := B.rl_rng hb
      have hf := srt_first (B.rl_srt hb) (fun y hy => (hrn y hy).1)
      have hln := B.rl_len12 hr.1.2 hb
      cases h0 : decide ((0 : Int) ∈ l) with
      | false =>
        have hs : setsB g l = false := by unfold setsB; rw [hG, hb, ← hf, h0]; rfl
        refine ⟨[], false, (specGoodGraph_ev g hg).bind ?_, by rw [hs, if_neg (by simp)], by simp, hs.symm⟩
        rw [hG]
        refine Ev.congr (fun k => by rw [if_pos rfl]) ((B.blocks_ev hG l hl).bind ?_)
        rw [hb]
        refine Ev.congr (fun k => by rw [if_pos rfl]) ((has_ev l 0 hl).bind ?_)
        rw [h0]
        exact ev_is fun k => by rw [if_neg (by simp)]
      | true =>
        have hs : setsB g l = true := by unfold setsB; rw [hG, hb, ← hf, h0]; rfl
        refine ⟨_, true, (specGoodGraph_ev g hg).bind ?_, by rw [hs, if_pos rfl], listTo_small _, hs.symm⟩
        rw [hG]
        refine Ev.congr (fun k => by rw [if_pos rfl]) ((B.blocks_ev hG l hl).bind ?_)
        rw [hb]
        refine Ev.congr (fun k => by rw [if_pos rfl]) ((has_ev l 0 hl).bind ?_)
        rw [h0]
        exact ev_is fun k => by rw [if_pos rfl, specJoins_ev hG hrn hln]; rfl
end Go.Proofs.Ytndkblahnihhjaa.Q

namespace Go.Proofs.Ytndkblahnihhjaa.P
open Go.RowKit Go.Proofs.YtndkblahnihhjaaW.PrintWords Go.Proofs.YtndkblahnihhjaaW.PrintLast Go.Proofs.YtndkblahnihhjaaW.PrintMore
attribute [local go_sem] max2_int min2_int max_two min_two max_three min_three max_four min_four
def laws_markIntS.l0 : Nat → List Int → Int → Int → Option (Int × List Int)
  | 0, _, _, _ => none
  | k + 1, x0, x1, x5 => if x5 < (x0.length : Int) then (if 0 ≤ x5 then (laws_markIntS.l0 k (x0.set (x5 : Int).toNat x1) (wrap64 (x1 + 1)) (wrap64 (x5 + 1))) else (none)) else (some (x1, x0))
def laws_markIntS.f (k : Nat) (l0 : List Int) (a1 : Int) : Option (Int × List Int) := laws_markIntS.l0 k l0 a1 0
theorem laws_markIntS.mono_l : ∀ k, (∀ y0 y1 y2, LeO (laws_markIntS.l0 k y0 y1 y2) (laws_markIntS.l0 (k + 1) y0 y1 y2))
  | 0 => fun _ _ _ r h => by simp [laws_markIntS.l0] at h
  | k + 1 => by
    have ih0 := laws_markIntS.mono_l k
    · intro y0 y1 y2
      unfold laws_markIntS.l0
      repeat' first
      | (with_reducible exact ih0 _ _ _)
      | (with_reducible exact LeO.refl _)
      | (with_reducible exact LeO.none _)
      | (with_reducible refine LeO.ite ?_ ?_)
      | (with_reducible refine LeO.bind ?_ (fun _ => ?_))
      | exact ih0 _ _ _
      | exact LeO.none _
      | refine LeO.ite ?_ ?_
      | refine LeO.bind ?_ (fun _ => ?_)
theorem laws_markIntS.mono : ∀ a0 a1 k, LeO (laws_markIntS.f k a0 a1) (laws_markIntS.f (k + 1) a0 a1) := by
  intro a0 a1 k
  have ih0 := laws_markIntS.mono_l k
  unfold laws_markIntS.f
  repeat' first
      | (with_reducible exact ih0 _ _ _)
      | (with_reducible exact LeO.refl _)
      | (with_reducible exact LeO.none _)
      | (with_reducible refine LeO.ite ?_ ?_)
      | (with_reducible refine LeO.bind ?_ (fun _ => ?_))
      | exact ih0 _ _ _
      | exact LeO.none _
      | refine LeO.ite ?_ ?_
      | refine LeO.bind ?_ (fun _ => ?_)
set_option maxHeartbeats 8000000 in
set_option maxRecDepth 100000 in
theorem laws_markIntS.calls (k : Nat) (P0_ : Nat → Prop) (u9000_ : Value) (l0 : List Int) (a1 : Int) (r1 : Int) (r2 : List Int) (w0 w : World) (hB : Below w0.heap.size w0 w) (ho0 : Kd.R (Kd.int .i64) 3 w w0.heap.size P0_ u9000_ l0) (h : laws_markIntS.f k l0 a1 = some (r1, r2)) :
    Calls Try.prog 18 #[u9000_, .int .i64 a1] w fun e w' => e = .returned (.int .i64 r1) ∧ Kd.R (Kd.int .i64) 3 w' w0.heap.size (fun k_ => (P0_ k_ ∨ w.heap.size ≤ k_)) u9000_ r2 ∧ Below w0.heap.size w0 w' ∧ Kept w w' (fun k_ => P0_ k_) := by
  have HO0 := Aside0.mk (show Kd.R (Kd.int .i64) 3 w w0.heap.size (fun k_ => (P0_ k_ ∨ w.heap.size ≤ k_)) u9000_ l0 from Kd.R_mono ho0 (fun k_ hk => (.inl hk)))
  have HK := Aside0.mk (Kept.refl w (fun k_ => P0_ k_))
  have HW0 := Aside0.mk hB.size
  have HB := Aside0.mk hB
  clear hB
  have H : (laws_markIntS.l0 k l0 a1 0) = some (r1, r2) := h
  clear h
  have H' := Aside0.mk H
  clear H
  go_enter Try.func18, Try.ntmps18
  go_wp2
  go_loopg [1, 5] k (fun kq v1 v5 w' => ∃ (x0_1 : List Int) (x1_1 : Int) (x5_1 : Int), v1 = .int .i64 x1_1 ∧ v5 = .int .i64 x5_1 ∧ Aside0 (laws_markIntS.l0 kq x0_1 x1_1 x5_1 = some (r1, r2)) ∧ Aside0 (kq ≤ k) ∧ Aside0 (Kd.R (Kd.int .i64) 3 w' w0.heap.size (fun k_ => (P0_ k_ ∨ w.heap.size ≤ k_)) u9000_ x0_1) ∧ Aside0 (Kept w w' (fun k_ => P0_ k_)) ∧ Aside0 (Below w0.heap.size w0 w'))
  case atStart => exact ⟨(l0), (a1), (0), (by first | rfl | (simp; done) | (simp [*]; done)), (by first | rfl | (simp; done) | (simp [*]; done)), H', ⟨Nat.le_refl _⟩, ⟨by (with_reducible repeat (first | apply Kd.R_alloc | apply Kd.R_drewN | apply Kd.R_drew)); exact HO0.out⟩, ⟨by repeat (first | (with_reducible first | exact HK.out | apply Kept.alloc | apply Kept.drewN | apply Kept.drew) | exact HK.out)⟩, ⟨by repeat (first | (with_reducible first | exact HB.out | apply below_alloc | apply pw_below_drewN | apply below_drew1) | exact HB.out)⟩⟩
  case round =>
    clear H'
    try clear c1
    try clear p2
    obtain ⟨x0_1, x1_1, x5_1, rfl, rfl, HA, HK1, HO_0, HK, HB⟩ := hrel
    cases gk with
    | zero => exact absurd HA.out (by simp [laws_markIntS.l0])
    | succ k1 =>
      have H := HA.out
      clear HA
      simp only [laws_markIntS.l0] at H
      by_cases c3 : x5_1 < (x0_1.length : Int)
      · rw [if_pos c3] at H
        have c3b0 : decide (x5_1 < (x0_1.length : Int)) = true := decide_eq_true c3
        clear c3
        by_cases c4 : 0 ≤ x5_1
        · rw [if_pos c4] at H
          have c4b0 : decide (0 ≤ x5_1) = true := decide_eq_true c4
          clear c4
          obtain ⟨y255, hy255⟩ : ∃ y_ : List Int, y_ = (x0_1.set (x5_1 : Int).toNat x1_1) := ⟨_, rfl⟩
          replace H : (laws_markIntS.l0 k1 y255 (wrap64 (x1_1 + 1)) (wrap64 (x5_1 + 1))) = some (r1, r2) := by first | (rw [hy255]; with_reducible exact H) | (have H2_ := (Option.bind_some _ _).symm.trans H; rw [hy255]; with_reducible exact H2_) | (have H2_ := (Option.bind_some _ _).symm.trans H; with_reducible exact H2_) | with_reducible exact H | (rw [hy255]; exact H) | exact H
          have Ny255 := Aside0.mk hy255
          clear hy255
          have H' := Aside0.mk H
          clear H
          obtain ⟨Ao6, co6, eo6⟩ := Kd.R_slice HO_0.out
          subst eo6
          have p5 : 0 ≤ (x5_1 : Int) := of_decide_eq_true (by first | (with_reducible assumption) | assumption)
          have q5 : (x5_1 : Int) < ((x0_1.length : Int) : Int) := of_decide_eq_true (by first | (with_reducible assumption) | assumption)
          obtain ⟨go5, co5, eo5, gb5, gl5, cl5, HG5⟩ := Kd.R_form HO_0.out (by omega)
          (first | cases eo5 | (injection eo5 with ea_ en_ ec_; (first | subst ea_ | (injection ea_ with ea_; subst ea_)); subst ec_; clear en_))
          have GB5 := Aside0.mk gb5
          have GG5 := Aside0.mk HG5
          clear gb5 gl5 HG5
          have HMgo5 := Aside0.mk (show (P0_ go5 ∨ w.heap.size ≤ go5) from (HO_0.out.1 _ rfl))
          obtain ⟨hx5_0, hf5_0⟩ := Kd.R_celln 0 HO_0.out (x5_1 : Int) p5 q5
          replace p5 := eq_true p5
          replace q5 := eq_true q5
          have HP7 := Kd.R_putg HO_0.out (x5_1 : Int) x1_1
          go_wp2_with (first | ((with_reducible refine gate_store (t := 3) (p := 15) rfl ?_); refine store_event (t := 3) (p := 15) (v := ?vo_w8) (w1 := (wr.setCell ⟨go5, (x5_1 : Int).toNat, none⟩ (.int .i64 x1_1))) ?hg ?ho ?hn ?hr ?_; (case ho => rfl); (case hg => rfl); (case hn => rfl); (case hr => first | (go_simp; done) | (go_simp; rfl)); intro w8 hw; have hg : wr.grownBy w8 (some go5) := (by rw [hw]; exact HP7.2); have hp_ : Kd.R (Kd.int .i64) 3 w8 w0.heap.size (fun k_ => (P0_ k_ ∨ w.heap.size ≤ k_)) (.slice (some ⟨go5, 0, none⟩) x0_1.length co6) y255 := (by rw [hw, Ny255.out]; exact HP7.1); clear HP7; have n0_ := Aside0.mk (hp_); have n1_ := Aside0.mk ((by rw [hw]; exact below_set (HB.out) GB5.out : Below w0.heap.size w0 w8)); have n2_ := Aside0.mk (Kept.of_grown (S := (fun k_ => P0_ k_)) hg (by repeat (first | (with_reducible first | exact HK.out | apply Kept.alloc | apply Kept.drewN | apply Kept.drew) | exact HK.out)) (fun k_ e_ => (HO_0.out.1 k_ e_))); clear HO_0; clear HB; clear HK; have HO_0 := n0_; have HB := n1_; have HK := n2_; clear n0_ n1_ n2_; clear hg hw hp_))
          go_roundg k1
          case measure => have := HK1.out; omega
          case rel => exact ⟨(y255), (wrap64 (x1_1 + 1)), (wrap64 (x5_1 + 1)), (by first | rfl | (simp; done) | (simp [*]; done)), (by first | rfl | (simp; done) | (simp [*]; done)), H', ⟨by have := HK1.out; omega⟩, ⟨by (with_reducible repeat (first | apply Kd.R_alloc | apply Kd.R_drewN | apply Kd.R_drew)); exact HO_0.out⟩, ⟨by repeat (first | (with_reducible first | exact HK.out | apply Kept.alloc | apply Kept.drewN | apply Kept.drew) | exact HK.out)⟩, ⟨by repeat (first | (with_reducible first | exact HB.out | apply below_alloc | apply pw_below_drewN | apply below_drew1) | exact HB.out)⟩⟩
        · rw [if_neg c4] at H
          exact absurd H (by simp)
      · rw [if_neg c3] at H
        have c3b0 : decide (x5_1 < (x0_1.length : Int)) = false := decide_eq_false c3
        clear c3
        simp only [Option.some.injEq, Prod.mk.injEq] at H
        obtain ⟨rfl, rfl⟩ := H
        obtain ⟨Ao9, co9, eo9⟩ := Kd.R_slice HO_0.out
        subst eo9
        go_wp2
        go_ret
        exact ⟨by first | rfl | (simp [errW_none, errW_some] <;> rfl) | (simp [*, errW_none, errW_some] <;> rfl), by (with_reducible repeat (first | apply Kd.R_alloc | apply Kd.R_drewN | apply Kd.R_drew)); exact HO_0.out, by repeat (first | (with_reducible first | exact HB.out | apply below_alloc | apply pw_below_drewN | apply below_drew1) | exact HB.out), by repeat (first | (with_reducible first | exact HK.out | apply Kept.alloc | apply Kept.drewN | apply Kept.drew) | exact HK.out)⟩
end Go.Proofs.Ytndkblahnihhjaa.P

namespace Go.Proofs.Ytndkblahnihhjaa.P
open Go.RowKit Go.Proofs.YtndkblahnihhjaaW.PrintWords Go.Proofs.YtndkblahnihhjaaW.PrintLast Go.Proofs.YtndkblahnihhjaaW.PrintMore
attribute [local go_sem] max2_int min2_int max_two min_two max_three min_three max_four min_four
theorem markI_ev (l : List Int) (a : Int) (ha : 0 ≤ a) (hn : a + l.length ≤ 4611686018427387904) : Ev (fun k => laws_markIntS.f k l a) (a + l.length, H.markI l a) := by
  have key : ∀ i, i ≤ l.length → Ev (fun k => laws_markIntS.l0 k ((H.markI l a).take i ++ l.drop i) (a + i) i) (a + l.length, H.markI l a) := by
    refine H.down ?_ ?_
    · refine Ev.step (f := fun _ => some (a + l.length, H.markI l a)) (fun k => ?_) (Ev.now _)
      have e1 : (H.markI l a).take l.length ++ l.drop l.length = H.markI l a := by rw [List.take_of_length_le (by rw [H.markI_len]; exact Nat.le_refl _), List.drop_length, List.append_nil]
      rw [e1]
      simp only [laws_markIntS.l0]
      rw [if_neg (by rw [H.markI_len]; omega)]
    · intro i hi ih
      refine Ev.step (fun k => ?_) ih
      have hl : ((H.markI l a).take i).length = i := by rw [List.length_take, H.markI_len]; omega
      simp only [laws_markIntS.l0]
      rw [if_pos (by rw [List.length_append, hl, List.length_drop]; omega), if_pos (by omega), H.w64 (by omega) (by omega), H.w64 (by omega) (by omega), Int.toNat_natCast]
      have e2 : ((H.markI l a).take i ++ l.drop i).set i (a + i) = (H.markI l a).take (i + 1) ++ l.drop (i + 1) := by
        rw [List.set_append_right _ _ (by omega), hl, Nat.sub_self, List.drop_eq_getElem_cons hi, List.set_cons_zero, List.take_add_one]
        have e3 : (H.markI l a)[i]? = some (a + i) := by
          unfold H.markI
          rw [List.getElem?_map, List.getElem?_range hi]
          rfl
        rw [e3, List.append_assoc]
        rfl
      rw [e2]
      congr 1 <;> push_cast <;> omega
  have h := key 0 (Nat.zero_le _)
  have e : (H.markI l a).take 0 ++ l.drop 0 = l := by simp
  rw [e] at h
  refine Ev.congr (fun k => ?_) h
  unfold laws_markIntS.f
  simp
set_option maxHeartbeats 8000000 in
set_option maxRecDepth 100000 in
theorem laws_markIntS.tame (lo up : Nat) (u : Value) (n : Nat) (a : Int) (w : World) (h : H.Room 3 w lo up u n) (ha : 0 ≤ a) (hn : a + n ≤ 4611686018427387904) :
    Calls Try.prog 18 #[u, .int .i64 a] w fun e w' => e = .returned (.int .i64 (a + n)) ∧ H.Tame 3 lo up w w' := by
  obtain ⟨A, c, rfl, hA⟩ := h
  by_cases h0 : 0 < n
  · obtain ⟨g, cs, rfl, h1, h2, h3, h4⟩ := hA h0
    have HB := Aside0.mk h3
    have H1 := Aside0.mk h1
    have H2 := Aside0.mk h2
    have H4 := Aside0.mk h4
    clear hA h1 h2 h3 h4
    go_enter Try.func18, Try.ntmps18
    go_wp2
    go_loopw [5, 1] (fun v5 v1 wr => ∃ (i : Nat) (cs' : Array Value), v5 = .int .i64 i ∧ v1 = .int .i64 (a + i) ∧ i ≤ n ∧ Aside0 (wr.heap[g]? = some (.cells cs' 3 (0, 0))) ∧ Aside0 (cs'.size = cs.size) ∧ Aside0 (H.Tame 3 lo up w wr)) (fun v5 _ _ => n - (intOf v5).toNat)
    case atStart => exact ⟨0, cs, rfl, by simp, Nat.zero_le _, HB, ⟨rfl⟩, ⟨H.Tame.refl _ _ _ _⟩⟩
    case round =>
      clear HB
      obtain ⟨i, cs', rfl, rfl, hi, HB, HS, HT⟩ := hrel
      by_cases hlt : i < n
      · have HI := Aside0.mk hlt
        have hlt' : (i : Int) < (n : Int) := by omega
        go_wp2_with ((with_reducible refine gate_store (t := 3) (p := 15) rfl ?_); refine H.mark_put rfl rfl rfl rfl HB.out rfl (by kernel_rfl) (by have := HI.out; have := H4.out; have := HS.out; omega) ?_; intro w_ cs2 hb_ hs_ hg_; replace HT := Aside0.mk (HT.out.trans (H.Tame.put hg_ HB.out hb_ hs_ H1.out H2.out)); replace HB := Aside0.mk hb_; replace HS := Aside0.mk (hs_.trans HS.out); clear hb_ hs_ hg_)
        go_roundw
        case rel => exact ⟨i + 1, _, by go_num, by first | go_num | (congr 1; push_cast; omega), by omega, HB, HS, HT⟩
        case measure => simp [intOf]; omega
      · have hE : i = n := by omega
        subst hE
        go_wp2
        go_ret
        exact ⟨rfl, HT.out⟩
  · obtain rfl : n = 0 := by omega
    go_enter Try.func18, Try.ntmps18
    go_wp2
    go_loopw [5, 1] (fun v5 v1 wr => v5 = .int .i64 0 ∧ v1 = .int .i64 a ∧ Aside0 (H.Tame 3 lo up w wr)) (fun v5 _ _ => 0)
    case atStart => exact ⟨rfl, rfl, ⟨H.Tame.refl _ _ _ _⟩⟩
    case round =>
      obtain ⟨rfl, rfl, HT⟩ := hrel
      go_wp2
      go_ret
      exact ⟨by simp, HT.out⟩
set_option maxHeartbeats 8000000 in
set_option maxRecDepth 100000 in
theorem laws_markIntSS.exact (v : Value) (xs : List (List Int)) (a : Int) (P0 : Nat → Prop) (w0 w : World) (hB : Below w0.heap.size w0 w) (hS : Kd.S (Kd.slice 3 (Kd.int .i64)) 32 w w0.heap.size P0 v xs) (ha : 0 ≤ a) (hn : a + H.total xs ≤ 4611686018427387904) :
    Calls Try.prog 52 #[v, .int .i64 a] w fun e w' => e = .returned (.int .i64 (a + H.total xs)) ∧ Kd.S (Kd.slice 3 (Kd.int .i64)) 32 w' w0.heap.size P0 v (H.markSS xs a) ∧ Below w0.heap.size w0 w' ∧ Kept w w' P0 := by
  by_cases h0 : 0 < xs.length
  · have hlx : xs.length ≤ 9223372036854775807 := by
      obtain ⟨A, c, e⟩ := Kd.S_slice hS
      subst e
      exact (Kd.S_reads' hS).2.2.2.1
    obtain ⟨g, cap, rfl, _, _, _⟩ := Kd.S_form hS h0
    have HB := Aside0.mk hB
    have HS := Aside0.mk hS
    clear hB hS
    go_enter Try.func52, Try.ntmps52
    go_wp2
    go_loopw [5, 1] (fun v5 v1 wr => ∃ i : Nat, v5 = .int .i64 i ∧ v1 = .int .i64 (a + H.total (xs.take i)) ∧ i ≤ xs.length ∧ Aside0 (Kd.S (Kd.slice 3 (Kd.int .i64)) 32 wr w0.heap.size P0 (.slice (some ⟨g, 0, none⟩) xs.length cap) (H.markTo xs a i)) ∧ Aside0 (Below w0.heap.size w0 wr) ∧ Aside0 (Kept w wr P0)) (fun v5 _ _ => xs.length - (intOf v5).toNat)
    case atStart => exact ⟨0, rfl, by simp [H.total], Nat.zero_le _, ⟨by simpa [H.markTo] using HS.out⟩, HB, ⟨Kept.refl _ _⟩⟩
    case round =>
      clear HB HS
      obtain ⟨i, rfl, rfl, hi, HS, HB, HK⟩ := hrel
      by_cases hlt : i < xs.length
      · obtain ⟨oki, c1, hcl, hM, hcc, hfr, hoki, hH⟩ := Kd.S_elem HS.out [] (i : Int) (by omega) (by omega)
        obtain ⟨u, rfl, hR⟩ := hM
        rw [Int.toNat_natCast] at hR hcc
        have hu := hcc 0 u rfl
        rw [show i * (Kd.slice 3 (Kd.int .i64)).sz + 0 = i from Nat.mul_one i] at hu
        rw [H.markTo_at xs a hlt] at hR
        have hst := H.markTo_step xs a hlt
        have hts := H.total_take_succ xs i hlt
        have htl := H.total_take_le xs (i + 1)
        obtain ⟨l, hl⟩ : ∃ l, xs.getD i [] = l := ⟨_, rfl⟩
        rw [hl] at hR hst hts
        have hb1 : 0 ≤ a + (H.total (xs.take i) : Int) := by omega
        obtain ⟨k, hk⟩ := Ev.rounds (markI_ev l (a + H.total (xs.take i)) hb1 (by omega))
        have HST := Aside0.mk hst
        have HTS := Aside0.mk hts
        have HR := Aside0.mk hR
        have HH := Aside0.mk hH
        have HOK := Aside0.mk hoki
        have HKK := Aside0.mk hk
        have hlt' : (i : Int) < (xs.length : Int) := by omega
        clear hcl hcc hfr hH hoki hst hts hl hk hR htl
        go_wp2_with (go_at_call 18; refine (laws_markIntS.calls k oki u l _ _ _ w0 wr HB.out HR.out HKK.out).mono ?_; rintro e w' ⟨rfl, hr', hb', hk'⟩; replace HS := Aside0.mk (H.S_marked HH.out HR.out hk' hr'); replace HK := Aside0.mk (HK.out.then_ hk' (fun k hk => .inl (HOK.out k hk).1)); replace HB := Aside0.mk hb'; clear hr' hb' hk' hu)
        go_roundw
        case rel => exact ⟨i + 1, by go_num, by rw [HTS.out]; congr 1; push_cast; omega, by omega, ⟨by have := HS.out; rw [Int.toNat_natCast, HST.out] at this; exact this⟩, HB, HK⟩
        case measure => simp [intOf]; omega
      · have hE : i = xs.length := by omega
        subst hE
        go_wp2
        go_ret
        exact ⟨by first | rfl | (rw [List.take_length]; rfl), by have := HS.out; rw [H.markTo, List.take_of_length_le (by rw [H.markSS_len]; exact Nat.le_refl _), List.drop_length, List.append_nil] at this; exact this, HB.out, HK.out⟩
  · obtain rfl : xs = [] := List.eq_nil_of_length_eq_zero (by omega)
    obtain ⟨A, c, rfl⟩ := Kd.S_slice hS
    have HB := Aside0.mk hB
    have HS := Aside0.mk hS
    clear hB hS
    go_enter Try.func52, Try.ntmps52
    go_wp2
    go_loopw [5, 1] (fun v5 v1 wr => v5 = .int .i64 0 ∧ v1 = .int .i64 a ∧ Aside0 (wr = w)) (fun v5 _ _ => 0)
    case atStart => exact ⟨rfl, rfl, ⟨rfl⟩⟩
    case round =>
      obtain ⟨rfl, rfl, HT⟩ := hrel
      go_wp2
      go_ret
      exact ⟨by simp [H.total], by rw [HT.out]; exact HS.out, by rw [HT.out]; exact HB.out, by rw [HT.out]; exact Kept.refl _ _⟩
set_option maxHeartbeats 8000000 in
set_option maxRecDepth 100000 in
theorem laws_markIntSS.tame (lo up : Nat) (v : Value) (m : Nat) (f : Nat → Nat) (a : Int) (w : World) (h : H.Rooms 3 32 1 w lo up v m f) (ha : 0 ≤ a) (hn : a + H.sumN f m ≤ 4611686018427387904) (hm : m ≤ 4611686018427387904) :
    Calls Try.prog 52 #[v, .int .i64 a] w fun e w' => e = .returned (.int .i64 (a + H.sumN f m)) ∧ H.Tame 3 lo up w w' := by
  obtain ⟨A, c, rfl, hA⟩ := h
  by_cases h0 : 0 < m
  · obtain ⟨g, cs, rfl, hb, hc⟩ := hA h0
    have HB := Aside0.mk hb
    have HC := Aside0.mk hc
    clear hA hb hc
    go_enter Try.func52, Try.ntmps52
    go_wp2
    go_loopw [5, 1] (fun v5 v1 wr => ∃ i : Nat, v5 = .int .i64 i ∧ v1 = .int .i64 (a + H.sumN f i) ∧ i ≤ m ∧ Aside0 (H.Tame 3 lo up w wr)) (fun v5 _ _ => m - (intOf v5).toNat)
    case atStart => exact ⟨0, rfl, by simp [H.sumN], Nat.zero_le _, ⟨H.Tame.refl _ _ _ _⟩⟩
    case round =>
      obtain ⟨i, rfl, rfl, hi, HT⟩ := hrel
      by_cases hlt : i < m
      · obtain ⟨u, h1, h2⟩ := HC.out i (by omega)
        have hu : wr.cell? ⟨g, i, none⟩ = some u := (blk_cell ((HT.out.kept _ _ _ HB.out (by decide)).trans HB.out) i).trans h1
        have H2 := Aside0.mk (h2.tame HT.out)
        have hs1 : H.sumN f (i + 1) = H.sumN f i + f i := rfl
        have hs2 := H.sumN_le f (show i + 1 ≤ m by omega)
        have HS1 := Aside0.mk hs1
        have hb1 : 0 ≤ a + (H.sumN f i : Int) := by omega
        have HB2 : Aside0 (a + (H.sumN f i : Int) + f i ≤ 4611686018427387904) := ⟨by omega⟩
        have hlt' : (i : Int) < (m : Int) := by omega
        clear h1 h2 hs1 hs2
        go_wp2_with (go_at_call 18; refine (laws_markIntS.tame lo up u (f i) _ wr H2.out hb1 HB2.out).mono ?_; rintro e w' ⟨rfl, ht⟩; replace HT := Aside0.mk (HT.out.trans ht); clear ht hu)
        go_roundw
        case rel => exact ⟨i + 1, by go_num, by rw [HS1.out]; congr 1; push_cast; omega, by omega, HT⟩
        case measure => simp [intOf]; omega
      · have hE : i = m := by omega
        subst hE
        go_wp2
        go_ret
        exact ⟨rfl, HT.out⟩
  · obtain rfl : m = 0 := by omega
    go_enter Try.func52, Try.ntmps52
    go_wp2
    go_loopw [5, 1] (fun v5 v1 wr => v5 = .int .i64 0 ∧ v1 = .int .i64 a ∧ Aside0 (H.Tame 3 lo up w wr)) (fun v5 _ _ => 0)
    case atStart => exact ⟨rfl, rfl, ⟨H.Tame.refl _ _ _ _⟩⟩
    case round =>
      obtain ⟨rfl, rfl, HT⟩ := hrel
      go_wp2
      go_ret
      exact ⟨by simp [H.sumN], HT.out⟩
end Go.Proofs.Ytndkblahnihhjaa.P

namespace Go.Proofs.Ytndkblahnihhjaa.P
open Go.RowKit Go.Proofs.YtndkblahnihhjaaW.PrintWords Go.Proofs.YtndkblahnihhjaaW.PrintLast Go.Proofs.YtndkblahnihhjaaW.PrintMore
attribute [local go_sem] max2_int min2_int max_two min_two max_three min_three max_four min_four
def laws_heldIntS.l0 : Nat → List Int → Int → Int → Option (Int)
  | 0, _, _, _ => none
  | k + 1, x0, x1, x5 => if x5 < (x0.length : Int) then (if 0 ≤ x5 then (if (rd x0 x5) = x1 then (laws_heldIntS.l0 k x0 (wrap64 (x1 + 1)) (wrap64 (x5 + 1))) else (some (-1))) else (none)) else (some x1)
def laws_heldIntS.f (k : Nat) (l0 : List Int) (a1 : Int) : Option (Int) := laws_heldIntS.l0 k l0 a1 0
theorem laws_heldIntS.mono_l : ∀ k, (∀ y0 y1 y2, LeO (laws_heldIntS.l0 k y0 y1 y2) (laws_heldIntS.l0 (k + 1) y0 y1 y2))
  | 0 => fun _ _ _ r h => by simp [laws_heldIntS.l0] at h
  | k + 1 => by
    have ih0 := laws_heldIntS.mono_l k
    · intro y0 y1 y2
      unfold laws_heldIntS.l0
      repeat' first
      | (with_reducible exact ih0 _ _ _)
      | (with_reducible exact LeO.refl _)
      | (with_reducible exact LeO.none _)
      | (with_reducible refine LeO.ite ?_ ?_)
      | (with_reducible refine LeO.bind ?_ (fun _ => ?_))
      | exact ih0 _ _ _
      | exact LeO.none _
      | refine LeO.ite ?_ ?_
      | refine LeO.bind ?_ (fun _ => ?_)
theorem laws_heldIntS.mono : ∀ a0 a1 k, LeO (laws_heldIntS.f k a0 a1) (laws_heldIntS.f (k + 1) a0 a1) := by
  intro a0 a1 k
  have ih0 := laws_heldIntS.mono_l k
  unfold laws_heldIntS.f
  repeat' first
      | (with_reducible exact ih0 _ _ _)
      | (with_reducible exact LeO.refl _)
      | (with_reducible exact LeO.none _)
      | (with_reducible refine LeO.ite ?_ ?_)
      | (with_reducible refine LeO.bind ?_ (fun _ => ?_))
      | exact ih0 _ _ _
      | exact LeO.none _
      | refine LeO.ite ?_ ?_
      | refine LeO.bind ?_ (fun _ => ?_)
set_option maxHeartbeats 8000000 in
set_option maxRecDepth 100000 in
theorem laws_heldIntS.calls (k : Nat) (A0 : Option Addr) (c0 : Nat) (l0 : List Int) (a1 : Int) (r : Int) (w : World) (hr0 : Kd.C (Kd.int .i64) w A0 l0.length l0) (hc0 : l0.length ≤ c0) (h : laws_heldIntS.f k l0 a1 = some r) :
    Calls Try.prog 19 #[.slice A0 l0.length c0, .int .i64 a1] w fun e w' => e = .returned (.int .i64 r) ∧ Drawn0 w w' := by
  have HR0 := Aside0.mk hr0
  have HC0 := Aside0.mk hc0
  clear hr0 hc0
  have H : (laws_heldIntS.l0 k l0 a1 0) = some r := h
  clear h
  have H' := Aside0.mk H
  clear H
  go_enter Try.func19, Try.ntmps19
  go_wp2
  go_loopg [1, 5] k (fun kq v1 v5 w' => ∃ (x1_1 : Int) (x5_1 : Int), v1 = .int .i64 x1_1 ∧ v5 = .int .i64 x5_1 ∧ Aside0 (laws_heldIntS.l0 kq l0 x1_1 x5_1 = some r) ∧ Aside0 (kq ≤ k) ∧ Drawn0 w w')
  case atStart => exact ⟨(a1), (0), (by first | rfl | (simp; done) | (simp [*]; done)), (by first | rfl | (simp; done) | (simp [*]; done)), H', ⟨Nat.le_refl _⟩, by repeat (first | exact Drawn0.refl _ | apply Drawn0.step)⟩
  case round =>
    clear H'
    try clear c1
    try clear p2
    obtain ⟨x1_1, x5_1, rfl, rfl, HA, HK1, ⟨m1, rfl⟩⟩ := hrel
    cases gk with
    | zero => exact absurd HA.out (by simp [laws_heldIntS.l0])
    | succ k1 =>
      have H := HA.out
      clear HA
      simp only [laws_heldIntS.l0] at H
      by_cases c3 : x5_1 < (l0.length : Int)
      · rw [if_pos c3] at H
        have c3b0 : decide (x5_1 < (l0.length : Int)) = true := decide_eq_true c3
        clear c3
        by_cases c4 : 0 ≤ x5_1
        · rw [if_pos c4] at H
          have c4b0 : decide (0 ≤ x5_1) = true := decide_eq_true c4
          clear c4
          by_cases c5 : (rd l0 x5_1) = x1_1
          · rw [if_pos c5] at H
            have c5b0 : ((rd l0 x5_1) == x1_1) = true := beq_iff_eq.mpr c5
            have c5b1 : ((rd l0 x5_1) != x1_1) = false := bne_eq_false_iff_eq.mpr c5
            clear c5
            have H' := Aside0.mk H
            clear H
            have p256 : 0 ≤ (x5_1 : Int) := of_decide_eq_true (by first | (with_reducible assumption) | assumption)
            have q256 : x5_1 < (l0.length : Int) := of_decide_eq_true (by first | (with_reducible assumption) | assumption)
            obtain ⟨ad256, e256, hx256_0⟩ := Kd.at_int HR0.out x5_1 p256 q256
            cases e256
            replace p256 := eq_true p256
            replace q256 := eq_true q256
            go_wp2
            go_roundg k1
            case measure => have := HK1.out; omega
            case rel => exact ⟨(wrap64 (x1_1 + 1)), (wrap64 (x5_1 + 1)), (by first | rfl | (simp; done) | (simp [*]; done)), (by first | rfl | (simp; done) | (simp [*]; done)), H', ⟨by have := HK1.out; omega⟩, by repeat (first | exact Drawn0.refl _ | apply Drawn0.step)⟩
          · rw [if_neg c5] at H
            have c5b0 : ((rd l0 x5_1) == x1_1) = false := beq_eq_false_iff_ne.mpr c5
            have c5b1 : ((rd l0 x5_1) != x1_1) = true := bne_iff_ne.mpr c5
            obtain rfl := Option.some.inj H
            have p256 : 0 ≤ (x5_1 : Int) := of_decide_eq_true (by first | (with_reducible assumption) | assumption)
            have q256 : x5_1 < (l0.length : Int) := of_decide_eq_true (by first | (with_reducible assumption) | assumption)
            obtain ⟨ad256, e256, hx256_0⟩ := Kd.at_int HR0.out x5_1 p256 q256
            cases e256
            replace p256 := eq_true p256
            replace q256 := eq_true q256
            go_wp2
            go_ret
            exact ⟨by first | rfl | (simp; done) | (simp [*]; done), by repeat (first | exact Drawn0.refl _ | apply Drawn0.step)⟩
        · rw [if_neg c4] at H
          exact absurd H (by simp)
      · rw [if_neg c3] at H
        have c3b0 : decide (x5_1 < (l0.length : Int)) = false := decide_eq_false c3
        clear c3
        obtain rfl := Option.some.inj H
        go_wp2
        go_ret
        exact ⟨by first | rfl | (simp; done) | (simp [*]; done), by repeat (first | exact Drawn0.refl _ | apply Drawn0.step)⟩
end Go.Proofs.Ytndkblahnihhjaa.P

namespace Go.Proofs.Ytndkblahnihhjaa.Q
open Go.RowKit Go.Proofs.Ytndkblahnihhjaa.P Go.Proofs.Ytndkblahnihhjaa.H Go.Proofs.YtndkblahnihhjaaW.PrintWords
theorem markI_get (l : List Int) (a : Int) {i : Nat} (hi : i < l.length) : (markI l a).getD i 0 = a + i := by
  unfold markI
  rw [List.getD_eq_getElem?_getD, List.getElem?_map, List.getElem?_range hi]
  rfl
theorem heldI_ev (l : List Int) (a : Int) (ha : 0 ≤ a) (hn : a + l.length ≤ 4611686018427387904) : Ev (fun k => laws_heldIntS.f k (markI l a) a) (a + l.length) := by
  have key := down0 (n := l.length) (p := fun i => Ev (fun k => laws_heldIntS.l0 k (markI l a) (a + i) i) (a + l.length)) ?h0 ?hs
  · refine Ev.congr (fun k => ?_) key
    unfold laws_heldIntS.f
    simp
  case h0 =>
    refine Ev.step (f := fun _ => some (a + l.length)) (fun k => ?_) (Ev.now _)
    simp only [laws_heldIntS.l0]
    rw [if_neg (by rw [markI_len]; omega)]
  case hs =>
    intro i hi ih
    refine Ev.step (fun k => ?_) ih
    simp only [laws_heldIntS.l0]
    rw [if_pos (by rw [markI_len]; omega), if_pos (by omega)]
    have e : rd (markI l a) (i : Int) = a + i := by
      unfold rd
      rw [Int.toNat_natCast]
      exact markI_get l a hi
    rw [if_pos e, w64 (by omega) (by omega), w64 (by omega) (by omega), show ((i + 1 : Nat) : Int) = (i : Int) + 1 by omega, ← Int.add_assoc]
theorem total_small {g : List (List Int)} (h : Small g) : total g ≤ 1099511627776 := by
  have : ∀ (xs : List (List Int)), (∀ r ∈ xs, r.length ≤ 1048576) → total xs ≤ xs.length * 1048576 := by
    intro xs
    induction xs with
    | nil => intro _; simp [total]
    | cons x xs ih =>
      intro hx
      have h1 := ih (fun r hr => hx r (by simp [hr]))
      have h2 := hx x (by simp)
      rw [total, List.length_cons, Nat.succ_mul]
      omega
  have h1 := this g h.2
  have h2 := h.1
  have h3 : g.length * 1048576 ≤ 1048576 * 1048576 := Nat.mul_le_mul_right _ h2
  omega
end Go.Proofs.Ytndkblahnihhjaa.Q

namespace Go.Proofs.Ytndkblahnihhjaa.P
open Go.RowKit Go.Proofs.YtndkblahnihhjaaW.PrintWords Go.Proofs.YtndkblahnihhjaaW.PrintLast Go.Proofs.YtndkblahnihhjaaW.PrintMore
attribute [local go_sem] max2_int min2_int max_two min_two max_three min_three max_four min_four
set_option maxHeartbeats 8000000 in
set_option maxRecDepth 100000 in
theorem laws_markGraph.tame (lo up : Nat) (v : Value) (m : Nat) (f : Nat → Nat) (a : Int) (w : World) (h : H.Rooms 3 32 1 w lo up v m f) (ha : 0 ≤ a) (hn : a + H.sumN f m ≤ 4611686018427387904) (hm : m ≤ 4611686018427387904) :
    Calls Try.prog 17 #[.agg #[v], .int .i64 a] w fun e w' => e = .returned (.int .i64 (a + H.sumN f m)) ∧ H.Tame 3 lo up w w' := by
  have HR := Aside0.mk h
  have HO := Aside0.mk (H.Own.nil w)
  obtain ⟨A, c, rfl, _⟩ := h
  go_enter Try.func17, Try.ntmps17
  go_wp2_with (first | ((with_reducible refine gate_dst (N := 2) rfl ?_); refine H.own_box HO.out ?hg (N := 2) ?hd (cs := #[.slice A m c]) (t := 28) ?hr ?_; (case hd => rfl); (case hg => rfl); (case hr => first | (go_simp; done) | (go_simp; rfl)); intro gb w1 ho_ hb_; replace HO := Aside0.mk ho_; have hx := ho_.cell 0 rfl 0; have HT := Aside0.mk (H.Tame.of_below (ti := 3) (lo := lo) (hi := up) hb_); clear ho_ hb_) | (go_at_call 52; refine (laws_markIntSS.tame lo up _ m f a _ (HR.out.tame HT.out (by decide)) ha hn hm).mono ?_; rintro e w' ⟨rfl, ht⟩; replace HT := Aside0.mk (HT.out.trans ht); clear ht hx))
  go_ret
  exact ⟨rfl, HT.out⟩
end Go.Proofs.Ytndkblahnihhjaa.P
