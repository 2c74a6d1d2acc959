import Derived.Test.YtplcipjlkogadaaMFnExactLoopOf1
import Derived.Test.YtplcipjlkogadaaMFnExactLoopOf2
import Derived.Test.YtplcipjlkogadaaMFnExactLoopOf3
set_option linter.unusedVariables false
set_option linter.unusedSimpArgs false
namespace Go.Proofs.Ytplcipjlkogadaa.P
open Go.RowKit Go.Proofs.YtplcipjlkogadaaW.PrintWords Go.Proofs.YtplcipjlkogadaaW.PrintLast Go.Proofs.YtplcipjlkogadaaW.PrintMore
attribute [local go_sem] max2_int min2_int max_two min_two max_three min_three max_four min_four
set_option maxHeartbeats 8000000 in
set_option maxRecDepth 100000 in
theorem impl_dominators.calls (p : Addr) (A0 : Option Addr) (c0 : Nat) (g : List (List Int)) (w : World) (hp0 : w.cell? p = some (.slice A0 g.length c0)) (hr0 : Kd.C (Kd.slice 3 (Kd.int .i64)) w A0 g.length g) (hG : H.goodG g = true) :
    Calls Try.prog 67 #[.pointer (some p)] w fun e w' => ∃ gm, e = .returned (.slice (some ⟨gm, 0, none⟩) g.length g.length) ∧ H.Own w w' [(gm, H.bcells (H.domF g).flatten, 64)] := by
  have hr := H.goodG_rows hG
  have HP0 := Aside0.mk hp0
  have HR0 := Aside0.mk hr0
  have HI := Aside0.mk (show (Try.prog.info? 64).map (·.size) = some 12 by kernel_rfl)
  have HO := Aside0.mk (H.Own.nil w)
  have hn1 : 1 ≤ g.length := hr.1.1
  have hn2 : g.length ≤ 12 := hr.1.2
  have HRE := Aside0.mk (fun (W : World) (hO : Below w.heap.size w W) (wo : Int) => impl_reach.calls p A0 c0 g 0 wo W ((hO.cell (World.block_lt_of_cell? w _ HP0.out)).trans HP0.out) (Kd.C_below HR0.out hO) hG (by decide) (by omega))
  have HRL := Aside0.mk (fun wo => H.reach_len (wo := wo) hG (s := 0) (by decide) (by omega))
  have HDM := Aside0.mk (fun k b => H.matF_mat (fun b' j => (decide (j < k) || (decide (j = k) && decide (b' < b))) && H.domV g b' j) g.length)
  have HDL := Aside0.mk (fun k b => H.matF_len (fun b' j => (decide (j < k) || (decide (j = k) && decide (b' < b))) && H.domV g b' j) g.length)
  have hmk : ∀ W : World, (Instr.makeSlice 69 (.int .i64 (g.length : Int)) (.int .i64 (g.length : Int))).run Try.prog W = .ok (.slice (some ⟨W.heap.size, 0, none⟩) g.length g.length) (W.alloc (.cells (H.bcells (List.replicate g.length H.none12).flatten) 64)) := fun W => make_sets W g.length (by omega)
  clear hr hr0 hG
  go_enter Try.func67, Try.ntmps67
  go_wp2_with (first | ((with_reducible refine gate_dst (N := 13) rfl ?_); refine H.own_make HO.out ?bxg (N := 13) ?bxd (n := g.length) (cs := H.bcells (List.replicate g.length H.none12).flatten) (t := 64) ?bxr ?_; (case bxd => rfl); (case bxg => rfl); (case bxr => first | (go_simp; done) | (go_simp; rfl)); intro gs w_ ho_ hb_; clear hmk; replace HO := Aside0.mk ho_; clear ho_ hb_) | (go_at_call 61; refine (HRE.out _ HO.out.below (-1)).mono ?_; rintro e w' ⟨rfl, hb⟩; replace HO := Aside0.mk (HO.out.step hb); have hp1 := HO.out.old HP0.out; clear hb hp0) | ((with_reducible refine gate_dst (N := 4) rfl ?_); refine H.own_box HO.out ?bxg (N := 4) ?bxd (cs := H.bcells H.none12) (t := 64) ?bxr ?_; (case bxd => rfl); (case bxg => rfl); (case bxr => first | (go_simp; done) | (go_simp; rfl)); intro ga w_ ho_ hb_; clear hp1; replace HO := Aside0.mk ho_; clear ho_ hb_) | ((with_reducible refine gate_store (t := 64) (p := 4) rfl ?_); refine H.own_ball HO.out 1 (bs' := H.reachF g 0 (-1)) rfl rfl rfl rfl rfl rfl HI.out (HRL.out (-1)) ?_; intro w_ ho_ hg_; replace HO := Aside0.mk ho_; have hp1 := HO.out.old HP0.out; clear ho_ hg_))
  obtain ⟨al, hal⟩ : ∃ al, H.reachF g 0 (-1) = al := ⟨_, rfl⟩
  have HALL := HRL.out (-1)
  rw [hal] at HO HALL
  have HAL := Aside0.mk hal
  have HALN := Aside0.mk HALL
  clear hal HALL
  go_loopw [21] (fun v21 wr => ∃ k : Nat, v21 = .int .i64 k ∧ k ≤ g.length ∧ Aside0 (H.Own w wr [(gs, H.bcells (H.domTo g k 0).flatten, 64), (ga, H.bcells al, 64)])) (fun v21 _ => g.length - (intOf v21).toNat)
  case atStart => exact ⟨0, rfl, Nat.zero_le _, ⟨by rw [H.domTo_zero]; exact HO.out⟩⟩
  case round =>
    clear HO hp1
    obtain ⟨k, rfl, hk, HO⟩ := hrel
    by_cases hlt : k < g.length
    · have hk12 : (k : Int) < 12 := by omega
      have hc := HO.out.bat 1 rfl (j := k) (by rw [HALN.out]; omega)
      have HKL := Aside0.mk hlt
      have hpk := HO.out.old HP0.out
      cases hb : al.getD k false with
      | false =>
        rw [hb] at hc
        have HSK := Aside0.mk (H.domTo_skip g (k := k) (by rw [HAL.out]; exact hb))
        clear hb
        go_wp2
        go_roundw
        case rel => exact ⟨k + 1, by go_num, by omega, ⟨by rw [HSK.out]; exact HO.out⟩⟩
        case measure => simp [intOf]; omega
      | true =>
        rw [hb] at hc
        have HBK := Aside0.mk hb
        clear hb
        go_wp2_with (first | (go_at_call 61; refine (HRE.out _ HO.out.below (k : Int)).mono ?_; rintro e w' ⟨rfl, hb⟩; replace HO := Aside0.mk (HO.out.step hb); clear hb hc hpk) | ((with_reducible refine gate_dst (N := 6) rfl ?_); refine H.own_box HO.out ?bxg (N := 6) ?bxd (cs := H.bcells H.none12) (t := 64) ?bxr ?_; (case bxd => rfl); (case bxg => rfl); (case bxr => first | (go_simp; done) | (go_simp; rfl)); intro gl w_ ho_ hb_; replace HO := Aside0.mk ho_; clear ho_ hb_) | ((with_reducible refine gate_store (t := 64) (p := 6) rfl ?_); refine H.own_ball HO.out 2 (bs' := H.reachF g 0 (k : Int)) rfl rfl rfl rfl rfl rfl HI.out (HRL.out (k : Int)) ?_; intro w_ ho_ hg_; replace HO := Aside0.mk ho_; clear ho_ hg_))
        obtain ⟨lf, hlf⟩ : ∃ lf, H.reachF g 0 (k : Int) = lf := ⟨_, rfl⟩
        have hll := HRL.out (k : Int)
        rw [hlf] at HO hll
        have HLF := Aside0.mk hlf
        have HLL := Aside0.mk hll
        clear hlf hll
        go_loopw [33] (fun v33 wr => ∃ b : Nat, v33 = .int .i64 b ∧ b ≤ g.length ∧ Aside0 (H.Own w wr [(gs, H.bcells (H.domTo g k b).flatten, 64), (ga, H.bcells al, 64), (gl, H.bcells lf, 64)])) (fun v33 _ => g.length - (intOf v33).toNat)
        case atStart => exact ⟨0, rfl, Nat.zero_le _, HO⟩
        case round =>
          clear HO
          obtain ⟨b, rfl, hb, HO⟩ := hrel
          by_cases hlt2 : b < g.length
          · have hb12 : (b : Int) < 12 := by omega
            have hbg : (b : Int) < (g.length : Int) := by omega
            have HBL := Aside0.mk hlt2
            have HK12 := Aside0.mk (show k < 12 by omega)
            have HB12 := Aside0.mk (show b < 12 by omega)
            go_wp2
            replace HO := Aside0.mk HO.out.drew
            cases hx : al.getD b false with
            | false =>
              have HV := Aside0.mk (show H.domV g b k = false by unfold H.domV; rw [HAL.out, hx]; simp)
              have HX := Aside0.mk hx
              clear hx
              refine start_ (n := 15) (S := fun w' => w'.cell? ⟨ga, b, none⟩ = some (.bool false)) (ds := [14]) #[false, false, false, false, false, false, false, false, false, false, false, false, false, false, false] (by kernel_rfl) rfl rfl ((HX.out ▸ HO.out.bat 1 rfl (by rw [HALN.out]; exact HB12.out))) (fun hHeld => ?_)
              refine pure_ (i := 0) (N := some 36) (v := ?_) (a' := ?_) #[true, false, false, false, false, false, false, false, false, false, false, false, false, false, false] rfl rfl (by kernel_rfl) (fun _ _ _ h => h) (Or.inl ⟨by rfl, ?_⟩) ?_ ?_
              rotate_left
              · intro w'
                go_simp
                with_reducible rfl
              rotate_left
              · simp only [Act.put, List.setIfInBounds_toArray, List.set_cons_zero, List.set_cons_succ, i64_w, i32_w]
                rfl
              refine pure_ (i := 1) (N := some 37) (v := ?_) (a' := ?_) #[true, true, false, false, false, false, false, false, false, false, false, false, false, false, false] rfl rfl (by kernel_rfl) (fun _ _ _ h => h) (Or.inl ⟨by rfl, ?_⟩) ?_ ?_
              rotate_left
              · intro w'
                go_simp
                with_reducible rfl
              rotate_left
              · simp only [Act.put, List.setIfInBounds_toArray, List.set_cons_zero, List.set_cons_succ, i64_w, i32_w]
                rfl
              refine pure_ (i := 2) (N := some 38) (v := ?_) (a' := ?_) #[true, true, true, false, false, false, false, false, false, false, false, false, false, false, false] rfl rfl (by kernel_rfl) (fun _ _ _ h => h) (Or.inl ⟨by rfl, ?_⟩) ?_ ?_
              rotate_left
              · intro w'
                go_simp
                with_reducible rfl
              rotate_left
              · simp only [Act.put, List.setIfInBounds_toArray, List.set_cons_zero, List.set_cons_succ, i64_w, i32_w]
                rfl
              refine pure_ (i := 3) (N := some 39) (v := ?_) (a' := ?_) #[true, true, true, true, false, false, false, false, false, false, false, false, false, false, false] rfl rfl (by kernel_rfl) (fun _ _ _ h => h) (Or.inl ⟨by rfl, ?_⟩) ?_ ?_
              rotate_left
              · intro w'
                go_simp
                with_reducible rfl
              rotate_left
              · simp only [Act.put, List.setIfInBounds_toArray, List.set_cons_zero, List.set_cons_succ, i64_w, i32_w]
                rfl
              refine pure_ (i := 4) (N := some 40) (v := ?_) (a' := ?_) #[true, true, true, true, true, false, false, false, false, false, false, false, false, false, false] rfl rfl (by kernel_rfl) (fun _ _ _ h => h) (Or.inl ⟨by rfl, ?_⟩) ?_ ?_
              rotate_left
              · intro w'
                go_simp
                with_reducible rfl
              rotate_left
              · simp only [Act.put, List.setIfInBounds_toArray, List.set_cons_zero, List.set_cons_succ, i64_w, i32_w]
                rfl
              refine pure_ (i := 12) (N := some 48) (v := ?_) (a' := ?_) #[true, true, true, true, true, false, false, false, false, false, false, false, true, false, false] rfl rfl (by kernel_rfl) (fun _ _ _ h => h) (Or.inl ⟨by rfl, ?_⟩) ?_ ?_
              rotate_left
              · intro w'
                go_simp
                with_reducible rfl
              rotate_left
              · simp only [Act.put, List.setIfInBounds_toArray, List.set_cons_zero, List.set_cons_succ, i64_w, i32_w]
                rfl
              refine take_ (i := 5) (N := some 41) (v := ?_) (a' := ?_) #[true, true, true, true, true, true, false, false, false, false, false, false, true, false, false] rfl rfl (by kernel_rfl) (fun _ _ _ h => h) (Or.inl ⟨by rfl, ?_⟩) hHeld ?_ ?_
              rotate_left
              · intro w' s0
                go_simp
                with_reducible rfl
              rotate_left
              · simp only [Act.put, List.setIfInBounds_toArray, List.set_cons_zero, List.set_cons_succ, i64_w, i32_w]
                rfl
              refine pure_ (i := 6) (N := some 42) (v := ?_) (a' := ?_) #[true, true, true, true, true, true, true, false, false, false, false, false, true, false, false] rfl rfl (by kernel_rfl) (fun _ _ _ h => h) (Or.inl ⟨by rfl, ?_⟩) ?_ ?_
              rotate_left
              · intro w'
                go_simp
                with_reducible rfl
              rotate_left
              · simp only [Act.put, List.setIfInBounds_toArray, List.set_cons_zero, List.set_cons_succ, i64_w, i32_w]
                rfl
              refine pure_ (i := 7) (N := some 43) (v := undef) (a' := ?_) #[true, true, true, true, true, true, true, true, false, false, false, false, true, false, false] rfl rfl (by kernel_rfl) (fun _ _ _ h => h) (Or.inr ⟨by rfl, rfl⟩) ?_ ?_
              rotate_left
              · simp only [Act.put, List.setIfInBounds_toArray, List.set_cons_zero, List.set_cons_succ, i64_w, i32_w]
                rfl
              refine pure_ (i := 8) (N := some 44) (v := undef) (a' := ?_) #[true, true, true, true, true, true, true, true, true, false, false, false, true, false, false] rfl rfl (by kernel_rfl) (fun _ _ _ h => h) (Or.inr ⟨by rfl, rfl⟩) ?_ ?_
              rotate_left
              · simp only [Act.put, List.setIfInBounds_toArray, List.set_cons_zero, List.set_cons_succ, i64_w, i32_w]
                rfl
              refine pure_ (i := 9) (N := some 45) (v := undef) (a' := ?_) #[true, true, true, true, true, true, true, true, true, true, false, false, true, false, false] rfl rfl (by kernel_rfl) (fun _ _ _ h => h) (Or.inr ⟨by rfl, rfl⟩) ?_ ?_
              rotate_left
              · simp only [Act.put, List.setIfInBounds_toArray, List.set_cons_zero, List.set_cons_succ, i64_w, i32_w]
                rfl
              refine pure_ (i := 10) (N := some 46) (v := undef) (a' := ?_) #[true, true, true, true, true, true, true, true, true, true, true, false, true, false, false] rfl rfl (by kernel_rfl) (fun _ _ _ h => h) (Or.inr ⟨by rfl, rfl⟩) ?_ ?_
              rotate_left
              · simp only [Act.put, List.setIfInBounds_toArray, List.set_cons_zero, List.set_cons_succ, i64_w, i32_w]
                rfl
              refine pure_ (i := 11) (N := some 47) (v := ?_) (a' := ?_) #[true, true, true, true, true, true, true, true, true, true, true, true, true, false, false] rfl rfl (by kernel_rfl) (fun _ _ _ h => h) (Or.inl ⟨by rfl, ?_⟩) ?_ ?_
              rotate_left
              · intro w'
                go_simp
                with_reducible rfl
              rotate_left
              · simp only [Act.put, List.setIfInBounds_toArray, List.set_cons_zero, List.set_cons_succ, i64_w, i32_w]
                rfl
              refine pure_ (i := 13) (N := some 49) (v := ?_) (a' := ?_) #[true, true, true, true, true, true, true, true, true, true, true, true, true, true, false] rfl rfl (by kernel_rfl) (fun _ _ _ h => h) (Or.inl ⟨by rfl, ?_⟩) ?_ ?_
              rotate_left
              · intro w'
                go_simp
                with_reducible rfl
              rotate_left
              · simp only [Act.put, List.setIfInBounds_toArray, List.set_cons_zero, List.set_cons_succ, i64_w, i32_w]
                rfl
              refine last_ (i := 14) (N := none) #[true, true, true, true, true, true, true, true, true, true, true, true, true, true, true] rfl rfl (by kernel_rfl) (by decide) (fun K hK => ?_)
              refine H.own_mput_step HO.out (by rfl) 0 (n := 12) rfl (HDM.out k b) rfl rfl rfl rfl (by kernel_rfl) (by show b < (H.domTo g k b).length; rw [H.domTo, HDL.out]; exact HBL.out) HK12.out ?_
              intro w_ ho_ hg_
              replace HO := Aside0.mk ho_
              clear ho_ hg_
              refine hK.out _ _ ?_
              clear hK K
              refine done_ (by kernel_rfl) ?_
              go_wp2
              go_roundw
              case rel => exact ⟨b + 1, by go_num, by omega, ⟨by rw [← H.domTo_put g HBL.out HV.out]; exact HO.out⟩⟩
              case measure => simp [intOf]; omega
            | true =>
              cases hy : lf.getD b false with
              | true =>
                have HV := Aside0.mk (show H.domV g b k = false by unfold H.domV; rw [HAL.out, hx, HLF.out, hy]; simp)
                have HX := Aside0.mk hx
                have HY := Aside0.mk hy
                clear hx hy
                refine start_ (n := 15) (S := fun w' => w'.cell? ⟨ga, b, none⟩ = some (.bool true) ∧ w'.cell? ⟨gl, b, none⟩ = some (.bool true)) (ds := [14]) #[false, false, false, false, false, false, false, false, false, false, false, false, false, false, false] (by kernel_rfl) rfl rfl ⟨(HX.out ▸ HO.out.bat 1 rfl (by rw [HALN.out]; exact HB12.out)), (HY.out ▸ HO.out.bat 2 rfl (by rw [HLL.out]; exact HB12.out))⟩ (fun hHeld => ?_)
                refine pure_ (i := 0) (N := some 36) (v := ?_) (a' := ?_) #[true, false, false, false, false, false, false, false, false, false, false, false, false, false, false] rfl rfl (by kernel_rfl) (fun _ _ _ h => h) (Or.inl ⟨by rfl, ?_⟩) ?_ ?_
                rotate_left
                · intro w'
                  go_simp
                  with_reducible rfl
                rotate_left
                · simp only [Act.put, List.setIfInBounds_toArray, List.set_cons_zero, List.set_cons_succ, i64_w, i32_w]
                  rfl
                refine pure_ (i := 1) (N := some 37) (v := ?_) (a' := ?_) #[true, true, false, false, false, false, false, false, false, false, false, false, false, false, false] rfl rfl (by kernel_rfl) (fun _ _ _ h => h) (Or.inl ⟨by rfl, ?_⟩) ?_ ?_
                rotate_left
                · intro w'
                  go_simp
                  with_reducible rfl
                rotate_left
                · simp only [Act.put, List.setIfInBounds_toArray, List.set_cons_zero, List.set_cons_succ, i64_w, i32_w]
                  rfl
                refine pure_ (i := 2) (N := some 38) (v := ?_) (a' := ?_) #[true, true, true, false, false, false, false, false, false, false, false, false, false, false, false] rfl rfl (by kernel_rfl) (fun _ _ _ h => h) (Or.inl ⟨by rfl, ?_⟩) ?_ ?_
                rotate_left
                · intro w'
                  go_simp
                  with_reducible rfl
                rotate_left
                · simp only [Act.put, List.setIfInBounds_toArray, List.set_cons_zero, List.set_cons_succ, i64_w, i32_w]
                  rfl
                refine pure_ (i := 3) (N := some 39) (v := ?_) (a' := ?_) #[true, true, true, true, false, false, false, false, false, false, false, false, false, false, false] rfl rfl (by kernel_rfl) (fun _ _ _ h => h) (Or.inl ⟨by rfl, ?_⟩) ?_ ?_
                rotate_left
                · intro w'
                  go_simp
                  with_reducible rfl
                rotate_left
                · simp only [Act.put, List.setIfInBounds_toArray, List.set_cons_zero, List.set_cons_succ, i64_w, i32_w]
                  rfl
                refine pure_ (i := 4) (N := some 40) (v := ?_) (a' := ?_) #[true, true, true, true, true, false, false, false, false, false, false, false, false, false, false] rfl rfl (by kernel_rfl) (fun _ _ _ h => h) (Or.inl ⟨by rfl, ?_⟩) ?_ ?_
                rotate_left
                · intro w'
                  go_simp
                  with_reducible rfl
                rotate_left
                · simp only [Act.put, List.setIfInBounds_toArray, List.set_cons_zero, List.set_cons_succ, i64_w, i32_w]
                  rfl
                refine pure_ (i := 12) (N := some 48) (v := ?_) (a' := ?_) #[true, true, true, true, true, false, false, false, false, false, false, false, true, false, false] rfl rfl (by kernel_rfl) (fun _ _ _ h => h) (Or.inl ⟨by rfl, ?_⟩) ?_ ?_
                rotate_left
                · intro w'
                  go_simp
                  with_reducible rfl
                rotate_left
                · simp only [Act.put, List.setIfInBounds_toArray, List.set_cons_zero, List.set_cons_succ, i64_w, i32_w]
                  rfl
                refine take_ (i := 5) (N := some 41) (v := ?_) (a' := ?_) #[true, true, true, true, true, true, false, false, false, false, false, false, true, false, false] rfl rfl (by kernel_rfl) (fun _ _ _ h => h) (Or.inl ⟨by rfl, ?_⟩) hHeld ?_ ?_
                rotate_left
                · rintro w' ⟨s0, s1⟩
                  go_simp
                  with_reducible rfl
                rotate_left
                · simp only [Act.put, List.setIfInBounds_toArray, List.set_cons_zero, List.set_cons_succ, i64_w, i32_w]
                  rfl
                refine pure_ (i := 6) (N := some 42) (v := ?_) (a' := ?_) #[true, true, true, true, true, true, true, false, false, false, false, false, true, false, false] rfl rfl (by kernel_rfl) (fun _ _ _ h => h) (Or.inl ⟨by rfl, ?_⟩) ?_ ?_
                rotate_left
                · intro w'
                  go_simp
                  with_reducible rfl
                rotate_left
                · simp only [Act.put, List.setIfInBounds_toArray, List.set_cons_zero, List.set_cons_succ, i64_w, i32_w]
                  rfl
                refine pure_ (i := 7) (N := some 43) (v := ?_) (a' := ?_) #[true, true, true, true, true, true, true, true, false, false, false, false, true, false, false] rfl rfl (by kernel_rfl) (fun _ _ _ h => h) (Or.inl ⟨by rfl, ?_⟩) ?_ ?_
                rotate_left
                · intro w'
                  go_simp
                  with_reducible rfl
                rotate_left
                · simp only [Act.put, List.setIfInBounds_toArray, List.set_cons_zero, List.set_cons_succ, i64_w, i32_w]
                  rfl
                refine pure_ (i := 8) (N := some 44) (v := ?_) (a' := ?_) #[true, true, true, true, true, true, true, true, true, false, false, false, true, false, false] rfl rfl (by kernel_rfl) (fun _ _ _ h => h) (Or.inl ⟨by rfl, ?_⟩) ?_ ?_
                rotate_left
                · intro w'
                  go_simp
                  with_reducible rfl
                rotate_left
                · simp only [Act.put, List.setIfInBounds_toArray, List.set_cons_zero, List.set_cons_succ, i64_w, i32_w]
                  rfl
                refine take_ (i := 9) (N := some 45) (v := ?_) (a' := ?_) #[true, true, true, true, true, true, true, true, true, true, false, false, true, false, false] rfl rfl (by kernel_rfl) (fun _ _ _ h => h) (Or.inl ⟨by rfl, ?_⟩) hHeld ?_ ?_
                rotate_left
                · rintro w' ⟨s0, s1⟩
                  go_simp
                  with_reducible rfl
                rotate_left
                · simp only [Act.put, List.setIfInBounds_toArray, List.set_cons_zero, List.set_cons_succ, i64_w, i32_w]
                  rfl
                refine pure_ (i := 10) (N := some 46) (v := ?_) (a' := ?_) #[true, true, true, true, true, true, true, true, true, true, true, false, true, false, false] rfl rfl (by kernel_rfl) (fun _ _ _ h => h) (Or.inl ⟨by rfl, ?_⟩) ?_ ?_
                rotate_left
                · intro w'
                  go_simp
                  with_reducible rfl
                rotate_left
                · simp only [Act.put, List.setIfInBounds_toArray, List.set_cons_zero, List.set_cons_succ, i64_w, i32_w]
                  rfl
                refine pure_ (i := 11) (N := some 47) (v := ?_) (a' := ?_) #[true, true, true, true, true, true, true, true, true, true, true, true, true, false, false] rfl rfl (by kernel_rfl) (fun _ _ _ h => h) (Or.inl ⟨by rfl, ?_⟩) ?_ ?_
                rotate_left
                · intro w'
                  go_simp
                  with_reducible rfl
                rotate_left
                · simp only [Act.put, List.setIfInBounds_toArray, List.set_cons_zero, List.set_cons_succ, i64_w, i32_w]
                  rfl
                refine pure_ (i := 13) (N := some 49) (v := ?_) (a' := ?_) #[true, true, true, true, true, true, true, true, true, true, true, true, true, true, false] rfl rfl (by kernel_rfl) (fun _ _ _ h => h) (Or.inl ⟨by rfl, ?_⟩) ?_ ?_
                rotate_left
                · intro w'
                  go_simp
                  with_reducible rfl
                rotate_left
                · simp only [Act.put, List.setIfInBounds_toArray, List.set_cons_zero, List.set_cons_succ, i64_w, i32_w]
                  rfl
                refine last_ (i := 14) (N := none) #[true, true, true, true, true, true, true, true, true, true, true, true, true, true, true] rfl rfl (by kernel_rfl) (by decide) (fun K hK => ?_)
                refine H.own_mput_step HO.out (by rfl) 0 (n := 12) rfl (HDM.out k b) rfl rfl rfl rfl (by kernel_rfl) (by show b < (H.domTo g k b).length; rw [H.domTo, HDL.out]; exact HBL.out) HK12.out ?_
                intro w_ ho_ hg_
                replace HO := Aside0.mk ho_
                clear ho_ hg_
                refine hK.out _ _ ?_
                clear hK K
                refine done_ (by kernel_rfl) ?_
                go_wp2
                go_roundw
                case rel => exact ⟨b + 1, by go_num, by omega, ⟨by rw [← H.domTo_put g HBL.out HV.out]; exact HO.out⟩⟩
                case measure => simp [intOf]; omega
              | false =>
                have HV := Aside0.mk (show H.domV g b k = true by unfold H.domV; rw [HAL.out, hx, HLF.out, hy, HBK.out]; simp)
                have HX := Aside0.mk hx
                have HY := Aside0.mk hy
                clear hx hy
                refine start_ (n := 15) (S := fun w' => w'.cell? ⟨ga, b, none⟩ = some (.bool true) ∧ w'.cell? ⟨gl, b, none⟩ = some (.bool false)) (ds := [14]) #[false, false, false, false, false, false, false, false, false, false, false, false, false, false, false] (by kernel_rfl) rfl rfl ⟨(HX.out ▸ HO.out.bat 1 rfl (by rw [HALN.out]; exact HB12.out)), (HY.out ▸ HO.out.bat 2 rfl (by rw [HLL.out]; exact HB12.out))⟩ (fun hHeld => ?_)
                refine pure_ (i := 0) (N := some 36) (v := ?_) (a' := ?_) #[true, false, false, false, false, false, false, false, false, false, false, false, false, false, false] rfl rfl (by kernel_rfl) (fun _ _ _ h => h) (Or.inl ⟨by rfl, ?_⟩) ?_ ?_
                rotate_left
                · intro w'
                  go_simp
                  with_reducible rfl
                rotate_left
                · simp only [Act.put, List.setIfInBounds_toArray, List.set_cons_zero, List.set_cons_succ, i64_w, i32_w]
                  rfl
                refine pure_ (i := 1) (N := some 37) (v := ?_) (a' := ?_) #[true, true, false, false, false, false, false, false, false, false, false, false, false, false, false] rfl rfl (by kernel_rfl) (fun _ _ _ h => h) (Or.inl ⟨by rfl, ?_⟩) ?_ ?_
                rotate_left
                · intro w'
                  go_simp
                  with_reducible rfl
                rotate_left
                · simp only [Act.put, List.setIfInBounds_toArray, List.set_cons_zero, List.set_cons_succ, i64_w, i32_w]
                  rfl
                refine pure_ (i := 2) (N := some 38) (v := ?_) (a' := ?_) #[true, true, true, false, false, false, false, false, false, false, false, false, false, false, false] rfl rfl (by kernel_rfl) (fun _ _ _ h => h) (Or.inl ⟨by rfl, ?_⟩) ?_ ?_
                rotate_left
                · intro w'
                  go_simp
                  with_reducible rfl
                rotate_left
                · simp only [Act.put, List.setIfInBounds_toArray, List.set_cons_zero, List.set_cons_succ, i64_w, i32_w]
                  rfl
                refine pure_ (i := 3) (N := some 39) (v := ?_) (a' := ?_) #[true, true, true, true, false, false, false, false, false, false, false, false, false, false, false] rfl rfl (by kernel_rfl) (fun _ _ _ h => h) (Or.inl ⟨by rfl, ?_⟩) ?_ ?_
                rotate_left
                · intro w'
                  go_simp
                  with_reducible rfl
                rotate_left
                · simp only [Act.put, List.setIfInBounds_toArray, List.set_cons_zero, List.set_cons_succ, i64_w, i32_w]
                  rfl
                refine pure_ (i := 4) (N := some 40) (v := ?_) (a' := ?_) #[true, true, true, true, true, false, false, false, false, false, false, false, false, false, false] rfl rfl (by kernel_rfl) (fun _ _ _ h => h) (Or.inl ⟨by rfl, ?_⟩) ?_ ?_
                rotate_left
                · intro w'
                  go_simp
                  with_reducible rfl
                rotate_left
                · simp only [Act.put, List.setIfInBounds_toArray, List.set_cons_zero, List.set_cons_succ, i64_w, i32_w]
                  rfl
                refine pure_ (i := 12) (N := some 48) (v := ?_) (a' := ?_) #[true, true, true, true, true, false, false, false, false, false, false, false, true, false, false] rfl rfl (by kernel_rfl) (fun _ _ _ h => h) (Or.inl ⟨by rfl, ?_⟩) ?_ ?_
                rotate_left
                · intro w'
                  go_simp
                  with_reducible rfl
                rotate_left
                · simp only [Act.put, List.setIfInBounds_toArray, List.set_cons_zero, List.set_cons_succ, i64_w, i32_w]
                  rfl
                refine take_ (i := 5) (N := some 41) (v := ?_) (a' := ?_) #[true, true, true, true, true, true, false, false, false, false, false, false, true, false, false] rfl rfl (by kernel_rfl) (fun _ _ _ h => h) (Or.inl ⟨by rfl, ?_⟩) hHeld ?_ ?_
                rotate_left
                · rintro w' ⟨s0, s1⟩
                  go_simp
                  with_reducible rfl
                rotate_left
                · simp only [Act.put, List.setIfInBounds_toArray, List.set_cons_zero, List.set_cons_succ, i64_w, i32_w]
                  rfl
                refine pure_ (i := 6) (N := some 42) (v := ?_) (a' := ?_) #[true, true, true, true, true, true, true, false, false, false, false, false, true, false, false] rfl rfl (by kernel_rfl) (fun _ _ _ h => h) (Or.inl ⟨by rfl, ?_⟩) ?_ ?_
                rotate_left
                · intro w'
                  go_simp
                  with_reducible rfl
                rotate_left
                · simp only [Act.put, List.setIfInBounds_toArray, List.set_cons_zero, List.set_cons_succ, i64_w, i32_w]
                  rfl
                refine pure_ (i := 7) (N := some 43) (v := ?_) (a' := ?_) #[true, true, true, true, true, true, true, true, false, false, false, false, true, false, false] rfl rfl (by kernel_rfl) (fun _ _ _ h => h) (Or.inl ⟨by rfl, ?_⟩) ?_ ?_
                rotate_left
                · intro w'
                  go_simp
                  with_reducible rfl
                rotate_left
                · simp only [Act.put, List.setIfInBounds_toArray, List.set_cons_zero, List.set_cons_succ, i64_w, i32_w]
                  rfl
                refine pure_ (i := 8) (N := some 44) (v := ?_) (a' := ?_) #[true, true, true, true, true, true, true, true, true, false, false, false, true, false, false] rfl rfl (by kernel_rfl) (fun _ _ _ h => h) (Or.inl ⟨by rfl, ?_⟩) ?_ ?_
                rotate_left
                · intro w'
                  go_simp
                  with_reducible rfl
                rotate_left
                · simp only [Act.put, List.setIfInBounds_toArray, List.set_cons_zero, List.set_cons_succ, i64_w, i32_w]
                  rfl
                refine take_ (i := 9) (N := some 45) (v := ?_) (a' := ?_) #[true, true, true, true, true, true, true, true, true, true, false, false, true, false, false] rfl rfl (by kernel_rfl) (fun _ _ _ h => h) (Or.inl ⟨by rfl, ?_⟩) hHeld ?_ ?_
                rotate_left
                · rintro w' ⟨s0, s1⟩
                  go_simp
                  with_reducible rfl
                rotate_left
                · simp only [Act.put, List.setIfInBounds_toArray, List.set_cons_zero, List.set_cons_succ, i64_w, i32_w]
                  rfl
                refine pure_ (i := 10) (N := some 46) (v := ?_) (a' := ?_) #[true, true, true, true, true, true, true, true, true, true, true, false, true, false, false] rfl rfl (by kernel_rfl) (fun _ _ _ h => h) (Or.inl ⟨by rfl, ?_⟩) ?_ ?_
                rotate_left
                · intro w'
                  go_simp
                  with_reducible rfl
                rotate_left
                · simp only [Act.put, List.setIfInBounds_toArray, List.set_cons_zero, List.set_cons_succ, i64_w, i32_w]
                  rfl
                refine pure_ (i := 11) (N := some 47) (v := ?_) (a' := ?_) #[true, true, true, true, true, true, true, true, true, true, true, true, true, false, false] rfl rfl (by kernel_rfl) (fun _ _ _ h => h) (Or.inl ⟨by rfl, ?_⟩) ?_ ?_
                rotate_left
                · intro w'
                  go_simp
                  with_reducible rfl
                rotate_left
                · simp only [Act.put, List.setIfInBounds_toArray, List.set_cons_zero, List.set_cons_succ, i64_w, i32_w]
                  rfl
                refine pure_ (i := 13) (N := some 49) (v := ?_) (a' := ?_) #[true, true, true, true, true, true, true, true, true, true, true, true, true, true, false] rfl rfl (by kernel_rfl) (fun _ _ _ h => h) (Or.inl ⟨by rfl, ?_⟩) ?_ ?_
                rotate_left
                · intro w'
                  go_simp
                  with_reducible rfl
                rotate_left
                · simp only [Act.put, List.setIfInBounds_toArray, List.set_cons_zero, List.set_cons_succ, i64_w, i32_w]
                  rfl
                refine last_ (i := 14) (N := none) #[true, true, true, true, true, true, true, true, true, true, true, true, true, true, true] rfl rfl (by kernel_rfl) (by decide) (fun K hK => ?_)
                refine H.own_mput_step HO.out (by rfl) 0 (n := 12) rfl (HDM.out k b) rfl rfl rfl rfl (by kernel_rfl) (by show b < (H.domTo g k b).length; rw [H.domTo, HDL.out]; exact HBL.out) HK12.out ?_
                intro w_ ho_ hg_
                replace HO := Aside0.mk ho_
                clear ho_ hg_
                refine hK.out _ _ ?_
                clear hK K
                refine done_ (by kernel_rfl) ?_
                go_wp2
                go_roundw
                case rel => exact ⟨b + 1, by go_num, by omega, ⟨by rw [← H.domTo_put g HBL.out HV.out]; exact HO.out⟩⟩
                case measure => simp [intOf]; omega
          · have hE : b = g.length := by omega
            subst hE
            go_wp2
            go_roundw
            case rel => exact ⟨k + 1, by go_num, by omega, ⟨by rw [← H.domTo_end]; exact HO.out.take (by simp)⟩⟩
            case measure => simp [intOf]; omega
    · have hE : k = g.length := by omega
      subst hE
      go_wp2
      go_ret
      exact ⟨gs, rfl, by rw [← H.domTo_last]; exact HO.out.take (by simp)⟩
end Go.Proofs.Ytplcipjlkogadaa.P

namespace Go.Proofs.Ytplcipjlkogadaa.P
open Go.RowKit Go.Proofs.YtplcipjlkogadaaW.PrintWords Go.Proofs.YtplcipjlkogadaaW.PrintLast Go.Proofs.YtplcipjlkogadaaW.PrintMore
attribute [local go_sem] max2_int min2_int max_two min_two max_three min_three max_four min_four
def beRow (D : List (List Bool)) (b : Nat) (l : List Int) : List (List Int) := (l.filter (fun y => (D.getD b []).getD y.toNat false)).map (fun y => [(b : Int), y])
def beTo (D : List (List Bool)) (g : List (List Int)) (b : Nat) : List (List Int) := (List.range b).flatMap (fun b => beRow D b (g.getD b []))
theorem beRow_len (D : List (List Bool)) (b : Nat) (l : List Int) : (beRow D b l).length ≤ l.length := by
  unfold beRow
  rw [List.length_map]
  exact List.length_filter_le _ _
theorem beTo_succ (D : List (List Bool)) (g : List (List Int)) (b : Nat) : beTo D g (b + 1) = beTo D g b ++ beRow D b (g.getD b []) := by
  unfold beTo
  rw [List.range_succ, List.flatMap_append]
  simp
theorem beTo_len (D : List (List Bool)) {g : List (List Int)} (h : ∀ b, (g.getD b []).length ≤ 12) : ∀ b, (beTo D g b).length ≤ b * 12
  | 0 => by simp [beTo]
  | b + 1 => by
    have h1 := beTo_len D h b
    have h2 := beRow_len D b (g.getD b [])
    have h3 := h b
    rw [beTo_succ, List.length_append]
    omega
theorem upRow_len {l : List Int} {hi : Int} (h12 : hi ≤ 11) (h : H.upB l 0 hi 0 = true) : l.length ≤ 12 := by
  have h0 := of_decide_eq_true h
  have key : ∀ j, j < l.length → (j : Int) ≤ l.getD j 0 := by
    intro j
    induction j with
    | zero =>
      intro hj
      have h1 := h0 0 hj (Nat.zero_le _)
      unfold H.upAt at h1
      simp only [Bool.and_eq_true, decide_eq_true_eq] at h1
      exact h1.1.1
    | succ j ih =>
      intro hj
      have h1 := h0 (j + 1) hj (Nat.zero_le _)
      unfold H.upAt at h1
      simp only [Bool.and_eq_true, Bool.or_eq_true, decide_eq_true_eq, Nat.add_sub_cancel] at h1
      have h2 := ih (by omega)
      omega
  by_cases h9 : l.length ≤ 12
  · exact h9
  · have h1 := h0 12 (by omega) (Nat.zero_le _)
    have h2 := key 12 (by omega)
    unfold H.upAt at h1
    simp only [Bool.and_eq_true, decide_eq_true_eq] at h1
    omega
theorem goodG_len {g : List (List Int)} (hG : H.goodG g = true) (b : Nat) : (g.getD b []).length ≤ 12 := by
  have hr := H.goodG_rows hG
  by_cases h : b < g.length
  · unfold H.goodG at hG
    simp only [Bool.and_eq_true, decide_eq_true_eq] at hG
    have h8 := List.all_eq_true.1 hG.2 (g.getD b []) (by rw [List.getD_eq_getElem?_getD, List.getElem?_eq_getElem h]; exact List.getElem_mem _)
    have hn2 : g.length ≤ 12 := hr.1.2
    exact upRow_len (by omega) h8
  · rw [List.getD_eq_getElem?_getD, List.getElem?_eq_none (by omega)]
    decide
set_option maxHeartbeats 8000000 in
set_option maxRecDepth 100000 in
theorem impl_backEdges.calls (p : Addr) (A0 : Option Addr) (c0 : Nat) (g : List (List Int)) (w : World) (hp0 : w.cell? p = some (.slice A0 g.length c0)) (hr0 : Kd.C (Kd.slice 3 (Kd.int .i64)) w A0 g.length g) (hG : H.goodG g = true) :
    Calls Try.prog 70 #[.pointer (some p)] w fun e w' => ∃ v0_ : Value, e = .returned v0_ ∧ Kd.S (Kd.slice 3 (Kd.int .i64)) 31 w' w.heap.size (fun _ => True) v0_ (beTo (H.domF g) g g.length) ∧ Below w.heap.size w w' := by
  have hr := H.goodG_rows hG
  have HP0 := Aside0.mk hp0
  have HR0 := Aside0.mk hr0
  have HROW := Aside0.mk (H.goodG_row hG)
  have HLEN := Aside0.mk (goodG_len hG)
  have HO := Aside0.mk (H.Own.nil w)
  have hn1 : 1 ≤ g.length := hr.1.1
  have hn2 : g.length ≤ 12 := hr.1.2
  have HDO := Aside0.mk (fun (W : World) (hO : Below w.heap.size w W) => impl_dominators.calls p A0 c0 g W ((hO.cell (World.block_lt_of_cell? w _ HP0.out)).trans HP0.out) (Kd.C_below HR0.out hO) hG)
  have hml := H.matF_len (fun b j => decide (j < g.length) && H.domV g b j) g.length
  have hmm := H.matF_mat (fun b j => decide (j < g.length) && H.domV g b j) g.length
  have HMM : Aside0 (H.Mat 12 (H.domF g)) := ⟨hmm⟩
  have HML : Aside0 ((H.domF g).length = g.length) := ⟨hml⟩
  obtain ⟨D, hD⟩ : ∃ D, H.domF g = D := ⟨_, rfl⟩
  rw [hD] at HMM HML HDO ⊢
  clear hr hr0 hG hml hmm hD
  go_enter Try.func70, Try.ntmps70
  go_wp2_with (first | ((with_reducible refine gate_dst (N := 9) rfl ?_); refine Kd.S_lit (Kd.slice 3 (Kd.int .i64)) (w0 := w) w.heap.size 31 ?hg (N := 9) ?hd (xs := ([] : List (List Int))) (inner := []) (ok := fun _ => True) (okp := fun _ => True) ?hr ?hp (fun _ hk => hk) trivial HO.out.below HO.out.size (by simp) ?_; (case hd => rfl); (case hg => rfl); (case hr => first | (go_simp; done) | (go_simp; rfl)); (case hp => exact Reps.none _ _); intro v9 w_ ho_ hb_ hg_ hnew_; replace HO := Aside0.mk (HO.out.grown hg_ (fun k hk => by cases hk)); have HS := Aside0.mk ho_; clear ho_ hb_ hg_ hnew_) | (go_at_call 67; refine (HDO.out _ HO.out.below).mono ?_; rintro e w' ⟨gm, rfl, ho⟩; replace HS := Aside0.mk (Kd.S_below HS.out ho.below); replace HO := Aside0.mk (HO.out.join ho); have hp1 := HO.out.old HP0.out; clear ho hp0))
  go_loopw [3, 17] (fun v3 v17 wr => ∃ (b : Nat), v17 = .int .i64 b ∧ b ≤ g.length ∧ Aside0 (Kd.S (Kd.slice 3 (Kd.int .i64)) 31 wr w.heap.size (fun _ => True) v3 (beTo D g b)) ∧ Aside0 (H.Own w wr [(gm, H.bcells D.flatten, 64)])) (fun _ v17 _ => g.length - (intOf v17).toNat)
  case atStart => exact ⟨0, rfl, Nat.zero_le _, HS, HO⟩
  case round =>
    clear HO HS hp1
    obtain ⟨b, rfl, hb, HS, HO⟩ := hrel
    by_cases hlt : b < g.length
    · obtain ⟨ad, A1, c1, e1, hc0, hc1, hc2⟩ := at_L1 HR0.out (b : Int) (by omega) (by omega)
      subst e1
      rw [Int.toNat_natCast] at hc0
      have hrd : rd_L1 g (b : Int) = g.getD b [] := rfl
      rw [hrd] at hc0 hc1 hc2
      have hrow := HROW.out b
      have hl12 := HLEN.out b
      have hbl := beTo_len D HLEN.out b
      have hsu := beTo_succ D g b
      obtain ⟨BT, hBT⟩ : ∃ BT, beTo D g b = BT := ⟨_, rfl⟩
      rw [hBT] at hbl hsu HS
      generalize hrw : g.getD b [] = row at hc0 hc1 hc2 hrow hl12 hsu
      have hxr := HO.out.old hc0
      have HC2 := Aside0.mk hc2
      have HRR := Aside0.mk hrow
      have HSU := Aside0.mk hsu
      have HIM := Aside0.mk (show b < D.length by rw [HML.out]; exact hlt)
      have hrl := hc2.2.1
      have hbg : (b : Int) < (g.length : Int) := by omega
      have HBTL := Aside0.mk (show BT.length ≤ 144 by omega)
      clear hc0 hc1 hc2 hrow hrd hrw hsu hBT hbl
      go_wp2
      go_loopw [3, 24] (fun v3 v24 wr => ∃ (i : Nat), v24 = .int .i64 i ∧ i ≤ row.length ∧ Aside0 (Kd.S (Kd.slice 3 (Kd.int .i64)) 31 wr w.heap.size (fun _ => True) v3 (BT ++ beRow D b (row.take i))) ∧ Aside0 (H.Own w wr [(gm, H.bcells D.flatten, 64)])) (fun _ v24 _ => row.length - (intOf v24).toNat)
      case atStart => exact ⟨0, rfl, Nat.zero_le _, ⟨by rw [List.take_zero]; unfold beRow; rw [List.filter_nil, List.map_nil, List.append_nil]; exact HS.out⟩, HO⟩
      case round =>
        clear HO HS hxr
        obtain ⟨i, rfl, hi, HS, HO⟩ := hrel
        by_cases hlt2 : i < row.length
        · obtain ⟨ad2, e2, hcb⟩ := Kd.at_int HC2.out (i : Int) (by omega) (by omega)
          subst e2
          rw [Int.toNat_natCast] at hcb
          have hrd2 : rd row (i : Int) = row.getD i 0 := rfl
          rw [hrd2] at hcb
          have htk : row.take (i + 1) = row.take i ++ [row.getD i 0] := by rw [List.take_add_one, List.getElem?_eq_getElem hlt2, List.getD_eq_getElem?_getD, List.getElem?_eq_getElem hlt2]; rfl
          have hby := HRR.out (row.getD i 0) (by rw [List.getD_eq_getElem?_getD, List.getElem?_eq_getElem hlt2]; exact List.getElem_mem hlt2)
          obtain ⟨x0, hx0⟩ : ∃ k : Nat, row.getD i 0 = (k : Int) := ⟨(row.getD i 0).toNat, by omega⟩
          rw [hx0] at hcb hby htk
          have hcx := HO.out.old hcb
          have hx12 : x0 < 12 := by omega
          have hx12' : (x0 : Int) < 12 := by omega
          have hil : (i : Int) < (row.length : Int) := by omega
          have hbit := HO.out.mat 0 (n := 12) rfl HMM.out HIM.out hx12
          obtain ⟨bit, hbe⟩ : ∃ bit, (D.getD b []).getD x0 false = bit := ⟨_, rfl⟩
          rw [hbe] at hbit
          have hst : BT ++ beRow D b (row.take (i + 1)) = if bit then (BT ++ beRow D b (row.take i)) ++ [[(b : Int), (x0 : Int)]] else BT ++ beRow D b (row.take i) := by
            rw [htk]
            unfold beRow
            rw [List.filter_append, List.filter_cons, List.filter_nil, Int.toNat_natCast, hbe]
            cases bit <;> simp
          have HST := Aside0.mk hst
          have hxl : (BT ++ beRow D b (row.take i)).length ≤ 156 := by
            have h1 := beRow_len D b (row.take i)
            have h2 := HBTL.out
            rw [List.length_take] at h1
            rw [List.length_append]
            omega
          have HXL := Aside0.mk hxl
          obtain ⟨X, hX⟩ : ∃ X, BT ++ beRow D b (row.take i) = X := ⟨_, rfl⟩
          rw [hX] at HS HST HXL
          clear hcb hrd2 hby hx0 htk hbe hst hxl hX
          cases bit with
          | false =>
            go_wp2
            go_roundw
            case rel => exact ⟨i + 1, by go_num, by omega, ⟨by rw [HST.out, if_neg (by simp)]; exact HS.out⟩, HO⟩
            case measure => simp [intOf]; omega
          | true =>
            go_wp2_with (first | ((with_reducible refine gate_dst (N := 37) rfl ?_); refine Kd.R_lit (Kd.int .i64) _ 3 ?hg (N := 37) ?hd (xs := ([(b : Int), (x0 : Int)] : List Int)) (inner := [.int .i64 (b : Int), .int .i64 (x0 : Int)]) (ok := fun _ => True) (okp := fun _ => True) ?hr ?hp (fun _ hk => hk) trivial (Below.refl _ _) (Nat.le_refl _) (by simp) ?_; (case hd => rfl); (case hg => rfl); (case hr => first | (go_simp; done) | (go_simp; rfl)); (case hp => exact (Reps.one (show Kd.M (Kd.int .i64) _ _ _ (b : Int) [.int .i64 (b : Int)] from rfl) (Reps.one (show Kd.M (Kd.int .i64) _ _ _ (x0 : Int) [.int .i64 (x0 : Int)] from rfl) (Reps.none _ _)))); intro v37 w_ ho_ hb_ hg_ hnew_; replace HS := Aside0.mk (Kd.S_elder' HS.out (Kd.R_base ho_) hb_); obtain ⟨AY, cY, rfl⟩ := Kd.R_slice ho_; have HY := Aside0.mk (Kd.R_lower ho_ HO.out.size); replace HO := Aside0.mk (HO.out.step hb_); clear ho_ hb_ hg_ hnew_ hcx hbit) | ((with_reducible refine gate_builtin (b := .append) (xs := #[.tmp 34, .tmp 38]) rfl ?_); at_builtin; refine Kd.S_append (Kd.slice 3 (Kd.int .i64)) (w0 := w) w.heap.size rfl (.tmp 34) (.tmp 38) 22 31 (.slice none 0 0) 24 rfl Try.underlying22 info31 rfl (by decide) (by omega) _ X [(b : Int), (x0 : Int)] [.slice AY ([(b : Int), (x0 : Int)] : List Int).length cY] (fun _ => True) (fun k => some k = (Value.slice AY ([(b : Int), (x0 : Int)] : List Int).length cY).ownBlock) rfl rfl ?aP (fun k hk => (Kd.R_apart' HY.out (Kd.S_typed HS.out) (by decide)).1 k hk.symm) (fun _ _ => trivial) ?aO HO.out.below HO.out.size (by have := HXL.out; omega) ?_; (case aP => exact Kd.M_row (Kd.R_tight rfl HY.out)); (case aO => exact Kd.S_mono HS.out (fun k hk => ⟨trivial, fun e_ => hk.2 e_⟩)); intro v39 w_ ho_ hb_ hg_ hat_; replace HO := Aside0.mk (HO.out.row (Kd.S_R HS.out) (Nat.le_refl _) hg_ (by simp)); replace HS := Aside0.mk ho_; clear ho_ hb_ hg_ hat_))
            go_roundw
            case rel => exact ⟨i + 1, by go_num, by omega, ⟨by rw [HST.out, if_pos rfl]; exact HS.out⟩, HO⟩
            case measure => simp [intOf]; omega
        · have hE : i = row.length := by omega
          subst hE
          go_wp2
          go_roundw
          case rel => exact ⟨b + 1, by go_num, by omega, ⟨by rw [HSU.out]; have := HS.out; rw [List.take_length] at this; exact this⟩, HO⟩
          case measure => simp [intOf]; omega
    · have hE : b = g.length := by omega
      subst hE
      go_wp2
      go_ret
      exact ⟨_, rfl, HS.out, HO.out.below⟩
end Go.Proofs.Ytplcipjlkogadaa.P

namespace Go.Proofs.Ytplcipjlkogadaa.P
open Go.RowKit Go.Proofs.YtplcipjlkogadaaW.PrintWords Go.Proofs.YtplcipjlkogadaaW.PrintLast Go.Proofs.YtplcipjlkogadaaW.PrintMore
attribute [local go_sem] max2_int min2_int max_two min_two max_three min_three max_four min_four
set_option maxHeartbeats 8000000 in
theorem impl_LoopOf_1.calls (g1 g2 : Nat) (a1 a2 : Int) (A : Option Addr) (c : Nat) (l : List Int) (w : World) (hl : l.length ≤ c) (hr : Kd.C (Kd.int .i64) w A l.length l) (h2 : l.length = 2) (hc1 : w.cell? ⟨g1, 0, none⟩ = some (.int .i64 a1)) (hc2 : w.cell? ⟨g2, 0, none⟩ = some (.int .i64 a2)) :
    Calls Try.prog 74 #[.slice A l.length c, .pointer (some ⟨g1, 0, none⟩), .pointer (some ⟨g2, 0, none⟩)] w fun e w' => e = .returned (.bool (decide (l.getD 0 0 = a1) && decide (l.getD 1 0 = a2))) ∧ Below w.heap.size w w' := by
  obtain ⟨x, y, rfl⟩ : ∃ x y, l = [x, y] := by
    match l, h2 with
    | [x, y], _ => exact ⟨x, y, rfl⟩
  obtain ⟨ad, e1, h0⟩ := Kd.at_int hr 0 (by omega) (by simp)
  subst e1
  obtain ⟨ad', e2, h1⟩ := Kd.at_int hr 1 (by omega) (by simp)
  injection e2 with e2
  subst e2
  have hx : rd [x, y] 0 = x := rfl
  have hy : rd [x, y] 1 = y := rfl
  rw [hx] at h0
  rw [hy] at h1
  have hgx : [x, y].getD 0 0 = x := rfl
  have hgy : [x, y].getD 1 0 = y := rfl
  rw [hgx, hgy]
  rw [show ad.add (Int.toNat 0) = ad by cases ad; rfl] at h0
  replace h1 : w.cell? { block := ad.block, off := ad.off + 1 } = some (.int .i64 y) := h1
  clear hr hx hy hgx hgy h2
  simp only [List.length_cons, List.length_nil] at hl ⊢
  by_cases hq : x = a1
  · subst hq
    by_cases hq2 : y = a2
    · subst hq2
      rw [decide_eq_true rfl, decide_eq_true rfl]
      go_enter Try.func74, Try.ntmps74
      go_wp2
      repeat (go_quiet (fail))
      go_wp2
      go_ret
      exact ⟨rfl, pw_below_drewN (Below.refl _ _) _⟩
    · have e2 : (y == a2) = false := beq_eq_false_iff_ne.2 hq2
      rw [decide_eq_true rfl, decide_eq_false hq2]
      go_enter Try.func74, Try.ntmps74
      go_wp2
      repeat (go_quiet (fail))
      go_wp2
      go_ret
      exact ⟨rfl, pw_below_drewN (Below.refl _ _) _⟩
  · have e1 : (x == a1) = false := beq_eq_false_iff_ne.2 hq
    rw [decide_eq_false hq]
    go_enter Try.func74, Try.ntmps74
    go_wp2
    repeat (go_quiet (fail))
    go_wp2
    go_ret
    exact ⟨rfl, pw_below_drewN (Below.refl _ _) _⟩
end Go.Proofs.Ytplcipjlkogadaa.P

namespace Go.Proofs.Ytplcipjlkogadaa.P
open Go.RowKit Go.Proofs.YtplcipjlkogadaaW.PrintWords Go.Proofs.YtplcipjlkogadaaW.PrintLast Go.Proofs.YtplcipjlkogadaaW.PrintMore
attribute [local go_sem] max2_int min2_int max_two min_two max_three min_three max_four min_four
theorem beTo_mem {D : List (List Bool)} {g : List (List Int)} {n : Nat} {e : List Int} (h : e ∈ beTo D g n) : ∃ b y, b < n ∧ y ∈ g.getD b [] ∧ e = [(b : Int), y] ∧ (D.getD b []).getD y.toNat false = true := by
  unfold beTo beRow at h
  simp only [List.mem_flatMap, List.mem_range, List.mem_map, List.mem_filter] at h
  obtain ⟨b, h1, y, ⟨h2, h3⟩, rfl⟩ := h
  exact ⟨b, y, h1, h2, rfl, h3⟩
def isEdge (a1 a2 : Int) (e : List Int) : Bool := decide (e.getD 0 0 = a1) && decide (e.getD 1 0 = a2)
theorem isEdge_mem {D : List (List Bool)} {g : List (List Int)} {n : Nat} {a1 a2 : Int} (h : (beTo D g n).any (isEdge a1 a2) = true) : ∃ b : Nat, b < n ∧ a1 = (b : Int) ∧ a2 ∈ g.getD b [] ∧ (D.getD b []).getD a2.toNat false = true := by
  obtain ⟨e, he, h2⟩ := List.any_eq_true.1 h
  obtain ⟨b, y, h3, h4, rfl, h5⟩ := beTo_mem he
  unfold isEdge at h2
  simp only [Bool.and_eq_true, decide_eq_true_eq] at h2
  obtain ⟨rfl, rfl⟩ : (b : Int) = a1 ∧ y = a2 := h2
  exact ⟨b, h3, rfl, h4, h5⟩
def impl_LoopOf.f (l0_0 : List (List Int)) (a1 a2 : Int) : Option (List Int × Bool) := some (if H.goodG l0_0 && (beTo (H.domF l0_0) l0_0 l0_0.length).any (isEdge a1 a2) then (listTo (H.loopF l0_0 a1.toNat a2.toNat) 12, true) else ([], false))
set_option maxHeartbeats 8000000 in
set_option maxRecDepth 100000 in
theorem impl_LoopOf.calls (A0_0 : Option Addr) (c0_0 : Nat) (l0_0 : List (List Int)) (a1 a2 : Int) (r1 : List Int) (r2 : Bool) (w : World) (hr0_0 : Kd.C (Kd.slice 3 (Kd.int .i64)) w A0_0 l0_0.length l0_0) (hc0_0 : l0_0.length ≤ c0_0) (h : impl_LoopOf.f l0_0 a1 a2 = some (r1, r2)) :
    Calls Try.prog 43 #[.agg #[.slice A0_0 l0_0.length c0_0], .int .i64 a1, .int .i64 a2] w fun e w' => ∃ v0_ : Value, e = .returned (.tuple #[v0_, .bool r2]) ∧ (Kd.int .i64).R 3 w' w.heap.size (fun _ => True) v0_ r1 ∧ Below w.heap.size w w' := by
  replace h := Option.some.inj h
  have HR0 := Aside0.mk hr0_0
  have HC0 := Aside0.mk hc0_0
  clear hr0_0 hc0_0
  have HO := Aside0.mk (H.Own.nil w)
  have HK := Aside0.mk (fun (W : World) (hb : Below w.heap.size w W) => impl_GoodGraph.calls A0_0 c0_0 l0_0 _ W (Kd.C_below HR0.out hb) HC0.out rfl)
  cases hg : H.goodG l0_0 with
  | false =>
    rw [hg, Bool.false_and, if_neg (by simp), Prod.mk.injEq] at h
    obtain ⟨rfl, rfl⟩ := h
    rw [hg] at HK
    clear hg
    go_enter Try.func43, Try.ntmps43
    go_wp2_with (first | ((with_reducible refine gate_dst (N := 3) rfl ?_); refine H.own_box HO.out ?bxg (N := 3) ?bxd (cs := #[Value.slice A0_0 l0_0.length c0_0]) (t := 27) ?bxr ?_; (case bxd => rfl); (case bxg => rfl); (case bxr => first | (go_simp; done) | (go_simp; rfl)); intro gp w_ ho_ hb_; replace HO := Aside0.mk ho_; clear ho_ hb_) | ((with_reducible refine gate_dst (N := 4) rfl ?_); refine H.own_box HO.out ?bxg (N := 4) ?bxd (cs := #[Value.int .i64 a1]) (t := 3) ?bxr ?_; (case bxd => rfl); (case bxg => rfl); (case bxr => first | (go_simp; done) | (go_simp; rfl)); intro g1 w_ ho_ hb_; replace HO := Aside0.mk ho_; clear ho_ hb_) | ((with_reducible refine gate_dst (N := 5) rfl ?_); refine H.own_box HO.out ?bxg (N := 5) ?bxd (cs := #[Value.int .i64 a2]) (t := 3) ?bxr ?_; (case bxd => rfl); (case bxg => rfl); (case bxr => first | (go_simp; done) | (go_simp; rfl)); intro g2 w_ ho_ hb_; replace HO := Aside0.mk ho_; clear ho_ hb_) | ((with_reducible refine gate_dst (N := 11) rfl ?_); refine wpList_load_row rfl 27 (.tmp 3) rfl _ rfl 27 _ (0, 0) _ (HO.out.get 0 rfl) Try.underlying27 rfl (by kernel_rfl) ?_) | (go_at_call 18; refine (HK.out _ HO.out.below).mono ?_; rintro e w' ⟨rfl, hb⟩; replace HO := Aside0.mk (HO.out.step hb); clear hb))
    go_ret2
    exact ⟨_, rfl, Kd.R_nil _ _ _ _ _, HO.out.below⟩
  | true =>
    rw [hg, Bool.true_and] at h
    rw [hg] at HK
    have hr := H.goodG_rows hg
    have hn1 : 1 ≤ l0_0.length := hr.1.1
    have hn2 : l0_0.length ≤ 12 := hr.1.2
    have HG := Aside0.mk hg
    have HE2 := Aside0.mk (fun (e : List Int) (he : e ∈ beTo (H.domF l0_0) l0_0 l0_0.length) => show e.length = 2 by obtain ⟨b, y, _, _, rfl, _⟩ := beTo_mem he; rfl)
    have HBE := Aside0.mk (fun (p : Addr) (W : World) (hb : Below w.heap.size w W) (hp : W.cell? p = some (.slice A0_0 l0_0.length c0_0)) => impl_backEdges.calls p A0_0 c0_0 l0_0 W hp (Kd.C_below HR0.out hb) HG.out)
    have HROW := Aside0.mk (H.goodG_row hg)
    clear hg hr
    have HEM := Aside0.mk (fun (h : (beTo (H.domF l0_0) l0_0 l0_0.length).any (isEdge a1 a2) = true) => isEdge_mem h)
    obtain ⟨BE, hBE⟩ : ∃ BE, beTo (H.domF l0_0) l0_0 l0_0.length = BE := ⟨_, rfl⟩
    rw [hBE] at h HE2 HBE HEM
    clear hBE
    cases ha : BE.any (isEdge a1 a2) with
    | false =>
      rw [ha, if_neg (by simp), Prod.mk.injEq] at h
      obtain ⟨rfl, rfl⟩ := h
      have HA := Aside0.mk ha
      clear ha HEM
      go_enter Try.func43, Try.ntmps43
      go_wp2_with (first | ((with_reducible refine gate_dst (N := 3) rfl ?_); refine H.own_box HO.out ?bxg (N := 3) ?bxd (cs := #[Value.slice A0_0 l0_0.length c0_0]) (t := 27) ?bxr ?_; (case bxd => rfl); (case bxg => rfl); (case bxr => first | (go_simp; done) | (go_simp; rfl)); intro gp w_ ho_ hb_; replace HO := Aside0.mk ho_; clear ho_ hb_) | ((with_reducible refine gate_dst (N := 4) rfl ?_); refine H.own_box HO.out ?bxg (N := 4) ?bxd (cs := #[Value.int .i64 a1]) (t := 3) ?bxr ?_; (case bxd => rfl); (case bxg => rfl); (case bxr => first | (go_simp; done) | (go_simp; rfl)); intro g1 w_ ho_ hb_; replace HO := Aside0.mk ho_; clear ho_ hb_) | ((with_reducible refine gate_dst (N := 5) rfl ?_); refine H.own_box HO.out ?bxg (N := 5) ?bxd (cs := #[Value.int .i64 a2]) (t := 3) ?bxr ?_; (case bxd => rfl); (case bxg => rfl); (case bxr => first | (go_simp; done) | (go_simp; rfl)); intro g2 w_ ho_ hb_; replace HO := Aside0.mk ho_; clear ho_ hb_) | ((with_reducible refine gate_dst (N := 11) rfl ?_); refine wpList_load_row rfl 27 (.tmp 3) rfl _ rfl 27 _ (0, 0) _ (HO.out.get 0 rfl) Try.underlying27 rfl (by kernel_rfl) ?_) | (go_at_call 18; refine (HK.out _ HO.out.below).mono ?_; rintro e w' ⟨rfl, hb⟩; replace HO := Aside0.mk (HO.out.step hb); clear hb) | (go_at_call 70; refine (HBE.out _ _ HO.out.below (HO.out.cell 0 rfl 0)).mono ?_; rintro e w' ⟨vb, rfl, hv, hb⟩; have HVB := Aside0.mk (Kd.S_lower hv HO.out.size); replace HO := Aside0.mk (HO.out.step hb); obtain ⟨AB, cB, eB, _, _⟩ := Kd.S_reads HVB.out; subst eB; clear hv hb) | (go_at_call 57; refine (slices_ContainsFunc_Row2.calls 74 _ _ (isEdge a1 a2) _ _ BE _ (Kd.S_reads' HVB.out).2.2 (Kd.S_reads' HVB.out).2.1 (fun _ _ => by go_simp) (fun A c x W hx hb hl hr => impl_LoopOf_1.calls g1 g2 a1 a2 A c x W hl hr (HE2.out x hx) ((hb.cell (World.block_lt_of_cell? _ _ (HO.out.cell 1 rfl 0))).trans (HO.out.cell 1 rfl 0)) ((hb.cell (World.block_lt_of_cell? _ _ (HO.out.cell 2 rfl 0))).trans (HO.out.cell 2 rfl 0)))).mono ?_; rw [HA.out]; rintro e w' ⟨rfl, hb⟩; replace HO := Aside0.mk (HO.out.step hb); clear hb HVB))
      go_ret2
      exact ⟨_, rfl, Kd.R_nil _ _ _ _ _, HO.out.below⟩
    | true =>
      rw [ha, if_pos rfl, Prod.mk.injEq] at h
      obtain ⟨rfl, rfl⟩ := h
      have HA := Aside0.mk ha
      obtain ⟨fr, hfn, rfl, hmem, _⟩ := HEM.out ha
      have hrow := HROW.out fr a2 hmem
      obtain ⟨dd, rfl⟩ : ∃ k : Nat, a2 = (k : Int) := ⟨a2.toNat, by omega⟩
      rw [Int.toNat_natCast, Int.toNat_natCast]
      have HFN := Aside0.mk hfn
      have hf12 : (fr : Int) < 12 := by omega
      have HHN := Aside0.mk (show dd < l0_0.length by omega)
      have HI := Aside0.mk (show (Try.prog.info? 64).map (·.size) = some 12 by kernel_rfl)
      have HRL := Aside0.mk (fun (b : Nat) (hb : b < l0_0.length) => H.reach_len (wo := (dd : Int)) HG.out (s := (b : Int)) (by omega) (by omega))
      have HRE := Aside0.mk (fun (p : Addr) (b : Nat) (hb : b < l0_0.length) (W : World) (hB : Below w.heap.size w W) (hp : W.cell? p = some (.slice A0_0 l0_0.length c0_0)) => impl_reach.calls p A0_0 c0_0 l0_0 (b : Int) (dd : Int) W hp (Kd.C_below HR0.out hB) HG.out (by omega) (by omega))
      clear ha HEM hmem hrow hfn
      go_enter Try.func43, Try.ntmps43
      go_wp2_with (first | ((with_reducible refine gate_dst (N := 3) rfl ?_); refine H.own_box HO.out ?bxg (N := 3) ?bxd (cs := #[Value.slice A0_0 l0_0.length c0_0]) (t := 27) ?bxr ?_; (case bxd => rfl); (case bxg => rfl); (case bxr => first | (go_simp; done) | (go_simp; rfl)); intro gp w_ ho_ hb_; replace HO := Aside0.mk ho_; clear ho_ hb_) | ((with_reducible refine gate_dst (N := 4) rfl ?_); refine H.own_box HO.out ?bxg (N := 4) ?bxd (cs := #[Value.int .i64 (fr : Int)]) (t := 3) ?bxr ?_; (case bxd => rfl); (case bxg => rfl); (case bxr => first | (go_simp; done) | (go_simp; rfl)); intro g1 w_ ho_ hb_; replace HO := Aside0.mk ho_; clear ho_ hb_) | ((with_reducible refine gate_dst (N := 5) rfl ?_); refine H.own_box HO.out ?bxg (N := 5) ?bxd (cs := #[Value.int .i64 (dd : Int)]) (t := 3) ?bxr ?_; (case bxd => rfl); (case bxg => rfl); (case bxr => first | (go_simp; done) | (go_simp; rfl)); intro g2 w_ ho_ hb_; replace HO := Aside0.mk ho_; clear ho_ hb_) | ((with_reducible refine gate_dst (N := 11) rfl ?_); refine wpList_load_row rfl 27 (.tmp 3) rfl _ rfl 27 _ (0, 0) _ (HO.out.get 0 rfl) Try.underlying27 rfl (by kernel_rfl) ?_) | (go_at_call 18; refine (HK.out _ HO.out.below).mono ?_; rintro e w' ⟨rfl, hb⟩; replace HO := Aside0.mk (HO.out.step hb); clear hb) | (go_at_call 70; refine (HBE.out _ _ HO.out.below (HO.out.cell 0 rfl 0)).mono ?_; rintro e w' ⟨vb, rfl, hv, hb⟩; have HVB := Aside0.mk (Kd.S_lower hv HO.out.size); replace HO := Aside0.mk (HO.out.step hb); obtain ⟨AB, cB, eB, _, _⟩ := Kd.S_reads HVB.out; subst eB; clear hv hb) | (go_at_call 57; refine (slices_ContainsFunc_Row2.calls 74 _ _ (isEdge (fr : Int) (dd : Int)) _ _ BE _ (Kd.S_reads' HVB.out).2.2 (Kd.S_reads' HVB.out).2.1 (fun _ _ => by go_simp) (fun A c x W hx hb hl hr => impl_LoopOf_1.calls g1 g2 (fr : Int) (dd : Int) A c x W hl hr (HE2.out x hx) ((hb.cell (World.block_lt_of_cell? _ _ (HO.out.cell 1 rfl 0))).trans (HO.out.cell 1 rfl 0)) ((hb.cell (World.block_lt_of_cell? _ _ (HO.out.cell 2 rfl 0))).trans (HO.out.cell 2 rfl 0)))).mono ?_; rw [HA.out]; rintro e w' ⟨rfl, hb⟩; replace HO := Aside0.mk (HO.out.step hb); clear hb HVB) | ((with_reducible refine gate_dst (N := 8) rfl ?_); refine H.own_box HO.out ?bxg (N := 8) ?bxd (cs := H.bcells H.none12) (t := 64) ?bxr ?_; (case bxd => rfl); (case bxg => rfl); (case bxr => first | (go_simp; done) | (go_simp; rfl)); intro go w_ ho_ hb_; replace HO := Aside0.mk ho_; clear ho_ hb_) | ((with_reducible refine gate_store (t := 64) (p := 8) rfl ?_); refine H.own_ball HO.out 3 (bs' := H.none12) rfl rfl rfl rfl rfl rfl HI.out rfl ?_; intro w_ ho_ hg_; replace HO := Aside0.mk ho_; have hx1 := HO.out.cell 0 rfl 0; clear ho_ hg_))
      go_loopw [24] (fun v24 wr => ∃ k : Nat, v24 = .int .i64 k ∧ k ≤ l0_0.length ∧ Aside0 (H.Own w wr [(gp, #[Value.slice A0_0 l0_0.length c0_0], 27), (g1, #[Value.int .i64 (fr : Int)], 3), (g2, #[Value.int .i64 (dd : Int)], 3), (go, H.bcells (H.loopTo l0_0 fr dd k), 64)])) (fun v24 _ => l0_0.length - (intOf v24).toNat)
      case atStart => exact ⟨0, rfl, Nat.zero_le _, ⟨by rw [H.loopTo_zero]; exact HO.out⟩⟩
      case round =>
        clear HO hx1
        obtain ⟨k, rfl, hk, HO⟩ := hrel
        by_cases hlt : k < l0_0.length
        · have hkn : (k : Int) < (l0_0.length : Int) := by omega
          have hk12 : (k : Int) < 12 := by omega
          have HKN := Aside0.mk hlt
          have HTL := Aside0.mk (H.loopTo_len l0_0 fr dd k)
          have hx2 := HO.out.cell 2 rfl 0
          by_cases hkd : k = dd
          · subst hkd
            have HPT := Aside0.mk (H.loopTo_put l0_0 fr k (k := k) (v := true) (by unfold H.loopV; rw [decide_eq_true rfl, Bool.true_or]))
            go_wp2_with ((with_reducible refine gate_store (t := 4) (p := 31) rfl ?_); refine H.own_bput HO.out 3 rfl rfl rfl rfl rfl rfl (by kernel_rfl) (by rw [HTL.out]; omega) ?_; intro w_ ho_ hg_; have hx2 := ho_.cell 2 rfl 0; replace HO := Aside0.mk ho_; clear ho_ hg_)
            go_roundw
            case rel => exact ⟨k + 1, by go_num, by omega, ⟨by rw [← HPT.out]; exact HO.out⟩⟩
            case measure => simp [intOf]; omega
          · have hkd1 : ((k : Int) == (dd : Int)) = false := beq_eq_false_iff_ne.2 (by omega)
            have hkd2 : ((k : Int) != (dd : Int)) = true := by rw [bne, hkd1]; rfl
            obtain ⟨rr, hrr⟩ : ∃ rr, H.reachF l0_0 (k : Int) (dd : Int) = rr := ⟨_, rfl⟩
            have hrl := HRL.out k hlt
            have hre := fun p => HRE.out p k hlt
            rw [hrr] at hrl hre
            have HRL2 := Aside0.mk hrl
            have HRE2 := Aside0.mk hre
            obtain ⟨bit, hbit⟩ : ∃ bit, rr.getD fr false = bit := ⟨_, rfl⟩
            have HBIT := Aside0.mk hbit
            have HPT := Aside0.mk (H.loopTo_put l0_0 fr dd (k := k) (v := bit) (by unfold H.loopV; rw [decide_eq_false hkd, Bool.false_or, hrr, hbit]))
            clear hrl hre hrr hbit hkd
            obtain ⟨row, hrow⟩ : ∃ row, H.loopTo l0_0 fr dd k = row := ⟨_, rfl⟩
            rw [hrow] at HO HTL HPT
            clear hrow
            go_wp2_with (first | ((with_reducible refine gate_store (t := 4) (p := 31) rfl ?_); refine H.own_bput HO.out 3 (b := false) rfl rfl rfl rfl rfl rfl (by kernel_rfl) (by rw [HTL.out]; omega) ?_; intro w_ ho_ hg_; replace HO := Aside0.mk ho_; have hx2 := HO.out.cell 2 rfl 0; clear ho_ hg_) | (go_at_call 61; refine (HRE2.out _ _ HO.out.below (HO.out.cell 0 rfl 0)).mono ?_; rintro e w' ⟨rfl, hb⟩; replace HO := Aside0.mk (HO.out.step hb); clear hb hx2) | ((with_reducible refine gate_dst (N := 10) rfl ?_); refine H.own_box HO.out ?bxg (N := 10) ?bxd (cs := H.bcells H.none12) (t := 64) ?bxr ?_; (case bxd => rfl); (case bxg => rfl); (case bxr => first | (go_simp; done) | (go_simp; rfl)); intro gr w_ ho_ hb_; replace HO := Aside0.mk ho_; clear ho_ hb_) | ((with_reducible refine gate_store (t := 64) (p := 10) rfl ?_); refine H.own_ball HO.out 4 (bs' := rr) rfl rfl rfl rfl rfl rfl HI.out HRL2.out ?_; intro w_ ho_ hg_; replace HO := Aside0.mk ho_; have hx1 := HO.out.cell 1 rfl 0; have hxb := HO.out.bat 4 rfl (show fr < rr.length by rw [HRL2.out]; omega); rw [HBIT.out] at hxb; clear ho_ hg_) | ((with_reducible refine gate_store (t := 4) (p := 42) rfl ?_); refine H.own_bput HO.out 3 (b := bit) rfl rfl rfl rfl rfl rfl (by kernel_rfl) (by rw [List.length_set, HTL.out]; omega) ?_; intro w_ ho_ hg_; replace HO := Aside0.mk ho_; clear ho_ hg_))
            go_roundw
            case rel => exact ⟨k + 1, by go_num, by omega, ⟨by rw [← HPT.out]; have := HO.out.take (L := [(gp, #[Value.slice A0_0 l0_0.length c0_0], 27), (g1, #[Value.int .i64 (fr : Int)], 3), (g2, #[Value.int .i64 (dd : Int)], 3), (go, H.bcells ((row.set k false).set k bit), 64)]) (by simp); rw [List.set_set] at this; exact this⟩⟩
            case measure => simp [intOf]; omega
        · have hE : k = l0_0.length := by omega
          subst hE
          have HLE := Aside0.mk (show H.loopTo l0_0 fr dd l0_0.length = H.loopF l0_0 fr dd from rfl)
          have HLL := Aside0.mk (H.loopTo_len l0_0 fr dd l0_0.length)
          rw [HLE.out] at HO HLL
          obtain ⟨row, hrow⟩ : ∃ row, H.loopF l0_0 fr dd = row := ⟨_, rfl⟩
          rw [hrow] at HO HLL
          have HROWE := Aside0.mk hrow
          clear HLE hrow
          go_wp2_with (go_at_call 62; refine (impl_list.calls go 0 row _ (HO.out.brange 3 rfl) HLL.out).mono ?_; rintro e w' ⟨v0, rfl, hv, hb⟩; have HV := Aside0.mk (Kd.R_lower hv HO.out.size); replace HO := Aside0.mk (HO.out.step hb); clear hv hb)
          go_ret2
          exact ⟨_, rfl, by rw [HROWE.out]; exact HV.out, HO.out.below⟩
end Go.Proofs.Ytplcipjlkogadaa.P

namespace Go.Proofs.Ytplcipjlkogadaa.P
open Go.RowKit Go.Proofs.YtplcipjlkogadaaW.PrintWords Go.Proofs.YtplcipjlkogadaaW.PrintLast Go.Proofs.YtplcipjlkogadaaW.PrintMore
attribute [local go_sem] max2_int min2_int max_two min_two max_three min_three max_four min_four
def laws_FnExactLoopOf.good (k : Nat) (l0_0 : List (List Int)) (a1 : Int) (a2 : Int) : Prop := ∃ z0 : Int, ∃ y0_0 : List (List Int), ∃ (s1 : List Int) (s2 : Bool), laws_szGraph.f k l0_0 1048576 = some z0 ∧ 0 ≤ z0 ∧ laws_toGraph.f k l0_0 = some y0_0 ∧ spec_LoopOf.f k y0_0 a1 a2 = some (s1, s2) ∧ impl_LoopOf.f y0_0 a1 a2 = some (s1, s2) ∧ laws_eqIntS.f k s1 s1 = some true ∧ laws_eqGraph.f k y0_0 y0_0 = some true ∧ 1 + (s1.length : Int) ≤ 4611686018427387904 ∧ laws_heldIntS.f k (H.markI s1 1) 1 = some (1 + (s1.length : Int)) ∧ laws_markIntS.f k s1 1 = some (1 + (s1.length : Int), H.markI s1 1) ∧ y0_0.length ≤ 1048576 ∧ 1 + ((H.total y0_0 : Int) : Int) ≤ 4611686018427387904
def laws_FnExactLoopOf.skip0 (k : Nat) (l0_0 : List (List Int)) (a1 : Int) (a2 : Int) : Prop := ∃ z0 : Int, laws_szGraph.f k l0_0 1048576 = some z0 ∧ z0 < 0
def laws_FnExactLoopOf.ok (k : Nat) (l0_0 : List (List Int)) (a1 : Int) (a2 : Int) : Prop := laws_FnExactLoopOf.skip0 k l0_0 a1 a2 ∨ laws_FnExactLoopOf.good k l0_0 a1 a2
set_option maxHeartbeats 8000000 in
set_option maxRecDepth 100000 in
theorem laws_FnExactLoopOf.s0 (k : Nat) (A0_0 : Option Addr) (c0_0 : Nat) (l0_0 : List (List Int)) (a1 : Int) (a2 : Int) (w : World) (hr0_0 : Kd.C (Kd.slice 3 (Kd.int .i64)) w A0_0 l0_0.length l0_0) (hc0_0 : l0_0.length ≤ c0_0) (h : laws_FnExactLoopOf.skip0 k l0_0 a1 a2) :
    Calls Try.prog 11 #[.agg #[.slice A0_0 l0_0.length c0_0], .int .i64 a1, .int .i64 a2] w fun e w' => e = .returned (.bool true) ∧ Below w.heap.size w w' := by
  have HR0_0 := Aside0.mk hr0_0
  have HC0_0 := Aside0.mk hc0_0
  clear hr0_0 hc0_0
  have HO := Aside0.mk (H.Own.nil w)
  unfold laws_FnExactLoopOf.skip0 at h
  obtain ⟨z0, ⟨hsz0, hz0⟩⟩ := h
  have HSZ0 := Aside0.mk hsz0
  clear hsz0
  go_enter Try.func11, Try.ntmps11
  go_wp2_with (first | ((with_reducible refine gate_dst (N := 3) rfl ?_); refine H.own_box HO.out ?hg (N := 3) ?hd (cs := #[Value.slice A0_0 l0_0.length c0_0]) (t := 24) ?hr ?_; (case hd => rfl); (case hg => rfl); (case hr => first | (go_simp; done) | (go_simp; rfl)); intro gb0 w_ ho_ hb_; replace HO := Aside0.mk ho_; clear ho_ hb_) | ((with_reducible refine gate_dst (N := 18) rfl ?_); refine wpList_load_row rfl 24 (.tmp 3) rfl _ rfl 24 _ (0, 0) _ (HO.out.get 0 rfl) Try.underlying24 rfl (by kernel_rfl) ?_) | ((with_reducible refine gate_dst (N := 24) rfl ?_); refine wpList_load_row rfl 24 (.tmp 3) rfl _ rfl 24 _ (0, 0) _ (HO.out.get 0 rfl) Try.underlying24 rfl (by kernel_rfl) ?_) | ((with_reducible refine gate_dst (N := 31) rfl ?_); refine wpList_load_row rfl 24 (.tmp 3) rfl _ rfl 24 _ (0, 0) _ (HO.out.get 0 rfl) Try.underlying24 rfl (by kernel_rfl) ?_) | ((with_reducible refine gate_dst (N := 34) rfl ?_); refine wpList_load_row rfl 27 (.tmp 10) rfl _ rfl 27 _ (0, 0) _ (HO.out.get 1 rfl) Try.underlying27 rfl (by kernel_rfl) ?_) | ((with_reducible refine gate_dst (N := 54) rfl ?_); refine wpList_load_row rfl 27 (.tmp 10) rfl _ rfl 27 _ (0, 0) _ (HO.out.get 1 rfl) Try.underlying27 rfl (by kernel_rfl) ?_) | ((with_reducible refine gate_dst (N := 82) rfl ?_); refine wpList_load_row rfl 24 (.tmp 3) rfl _ rfl 24 _ (0, 0) _ (HO.out.get 0 rfl) Try.underlying24 rfl (by kernel_rfl) ?_))
  refine (laws_szGraph.calls k _ _ l0_0 1048576 z0 _ (Kd.C_below HR0_0.out HO.out.below) HC0_0.out HSZ0.out).mono ?_
  rintro e w_ ⟨rfl, hb⟩
  replace HO := Aside0.mk (HO.out.step hb)
  clear hb
  go_wp2_with (first | ((with_reducible refine gate_dst (N := 3) rfl ?_); refine H.own_box HO.out ?hg (N := 3) ?hd (cs := #[Value.slice A0_0 l0_0.length c0_0]) (t := 24) ?hr ?_; (case hd => rfl); (case hg => rfl); (case hr => first | (go_simp; done) | (go_simp; rfl)); intro gb0 w_ ho_ hb_; replace HO := Aside0.mk ho_; clear ho_ hb_) | ((with_reducible refine gate_dst (N := 18) rfl ?_); refine wpList_load_row rfl 24 (.tmp 3) rfl _ rfl 24 _ (0, 0) _ (HO.out.get 0 rfl) Try.underlying24 rfl (by kernel_rfl) ?_) | ((with_reducible refine gate_dst (N := 24) rfl ?_); refine wpList_load_row rfl 24 (.tmp 3) rfl _ rfl 24 _ (0, 0) _ (HO.out.get 0 rfl) Try.underlying24 rfl (by kernel_rfl) ?_) | ((with_reducible refine gate_dst (N := 31) rfl ?_); refine wpList_load_row rfl 24 (.tmp 3) rfl _ rfl 24 _ (0, 0) _ (HO.out.get 0 rfl) Try.underlying24 rfl (by kernel_rfl) ?_) | ((with_reducible refine gate_dst (N := 34) rfl ?_); refine wpList_load_row rfl 27 (.tmp 10) rfl _ rfl 27 _ (0, 0) _ (HO.out.get 1 rfl) Try.underlying27 rfl (by kernel_rfl) ?_) | ((with_reducible refine gate_dst (N := 54) rfl ?_); refine wpList_load_row rfl 27 (.tmp 10) rfl _ rfl 27 _ (0, 0) _ (HO.out.get 1 rfl) Try.underlying27 rfl (by kernel_rfl) ?_) | ((with_reducible refine gate_dst (N := 82) rfl ?_); refine wpList_load_row rfl 24 (.tmp 3) rfl _ rfl 24 _ (0, 0) _ (HO.out.get 0 rfl) Try.underlying24 rfl (by kernel_rfl) ?_))
  go_ret
  exact ⟨rfl, HO.out.below⟩
set_option maxHeartbeats 8000000 in
set_option maxRecDepth 100000 in
theorem laws_FnExactLoopOf.whole (k : Nat) (A0_0 : Option Addr) (c0_0 : Nat) (l0_0 : List (List Int)) (a1 : Int) (a2 : Int) (w : World) (hr0_0 : Kd.C (Kd.slice 3 (Kd.int .i64)) w A0_0 l0_0.length l0_0) (hc0_0 : l0_0.length ≤ c0_0) (h : laws_FnExactLoopOf.good k l0_0 a1 a2) :
    Calls Try.prog 11 #[.agg #[.slice A0_0 l0_0.length c0_0], .int .i64 a1, .int .i64 a2] w fun e w' => e = .returned (.bool true) ∧ Below w.heap.size w w' := by
  have HR0_0 := Aside0.mk hr0_0
  have HC0_0 := Aside0.mk hc0_0
  clear hr0_0 hc0_0
  have HO := Aside0.mk (H.Own.nil w)
  unfold laws_FnExactLoopOf.good at h
  obtain ⟨z0, y0_0, s1, s2, hsz0, hz0, hto0, hspec, himpl, heqr, heq0, htot, hheld, hmki, hyl0, hb0⟩ := h
  have HSZ0 := Aside0.mk hsz0
  have HTO0 := Aside0.mk hto0
  have HSPEC := Aside0.mk hspec
  have HIMPL := Aside0.mk himpl
  have HEQR := Aside0.mk heqr
  have HEQ0 := Aside0.mk heq0
  have HTOT := Aside0.mk htot
  have HHELD := Aside0.mk hheld
  have HMKI := Aside0.mk hmki
  have HB0 := Aside0.mk hb0
  clear hsz0 hto0 hspec himpl heqr heq0 htot hheld hmki hb0
  obtain ⟨K2, hK2⟩ : ∃ K2 : Int, 1 + (s1.length : Int) = K2 := ⟨_, rfl⟩
  have hk2 : 0 ≤ K2 := by omega
  have HK2 := Aside0.mk hK2
  clear hK2
  have HSZW := Aside0.mk (rfl : w.heap.size = w.heap.size)
  go_enter Try.func11, Try.ntmps11
  go_wp2_with (first | ((with_reducible refine gate_dst (N := 3) rfl ?_); refine H.own_box HO.out ?hg (N := 3) ?hd (cs := #[Value.slice A0_0 l0_0.length c0_0]) (t := 24) ?hr ?_; (case hd => rfl); (case hg => rfl); (case hr => first | (go_simp; done) | (go_simp; rfl)); intro gb0 w_ ho_ hb_; replace HO := Aside0.mk ho_; clear ho_ hb_) | ((with_reducible refine gate_dst (N := 18) rfl ?_); refine wpList_load_row rfl 24 (.tmp 3) rfl _ rfl 24 _ (0, 0) _ (HO.out.get 0 rfl) Try.underlying24 rfl (by kernel_rfl) ?_) | ((with_reducible refine gate_dst (N := 24) rfl ?_); refine wpList_load_row rfl 24 (.tmp 3) rfl _ rfl 24 _ (0, 0) _ (HO.out.get 0 rfl) Try.underlying24 rfl (by kernel_rfl) ?_) | ((with_reducible refine gate_dst (N := 31) rfl ?_); refine wpList_load_row rfl 24 (.tmp 3) rfl _ rfl 24 _ (0, 0) _ (HO.out.get 0 rfl) Try.underlying24 rfl (by kernel_rfl) ?_) | ((with_reducible refine gate_dst (N := 34) rfl ?_); refine wpList_load_row rfl 27 (.tmp 10) rfl _ rfl 27 _ (0, 0) _ (HO.out.get 1 rfl) Try.underlying27 rfl (by kernel_rfl) ?_) | ((with_reducible refine gate_dst (N := 54) rfl ?_); refine wpList_load_row rfl 27 (.tmp 10) rfl _ rfl 27 _ (0, 0) _ (HO.out.get 1 rfl) Try.underlying27 rfl (by kernel_rfl) ?_) | ((with_reducible refine gate_dst (N := 82) rfl ?_); refine wpList_load_row rfl 24 (.tmp 3) rfl _ rfl 24 _ (0, 0) _ (HO.out.get 0 rfl) Try.underlying24 rfl (by kernel_rfl) ?_))
  refine (laws_szGraph.calls k _ _ l0_0 1048576 z0 _ (Kd.C_below HR0_0.out HO.out.below) HC0_0.out HSZ0.out).mono ?_
  rintro e w_ ⟨rfl, hb⟩
  replace HO := Aside0.mk (HO.out.step hb)
  clear hb
  go_wp2_with (first | ((with_reducible refine gate_dst (N := 3) rfl ?_); refine H.own_box HO.out ?hg (N := 3) ?hd (cs := #[Value.slice A0_0 l0_0.length c0_0]) (t := 24) ?hr ?_; (case hd => rfl); (case hg => rfl); (case hr => first | (go_simp; done) | (go_simp; rfl)); intro gb0 w_ ho_ hb_; replace HO := Aside0.mk ho_; clear ho_ hb_) | ((with_reducible refine gate_dst (N := 18) rfl ?_); refine wpList_load_row rfl 24 (.tmp 3) rfl _ rfl 24 _ (0, 0) _ (HO.out.get 0 rfl) Try.underlying24 rfl (by kernel_rfl) ?_) | ((with_reducible refine gate_dst (N := 24) rfl ?_); refine wpList_load_row rfl 24 (.tmp 3) rfl _ rfl 24 _ (0, 0) _ (HO.out.get 0 rfl) Try.underlying24 rfl (by kernel_rfl) ?_) | ((with_reducible refine gate_dst (N := 31) rfl ?_); refine wpList_load_row rfl 24 (.tmp 3) rfl _ rfl 24 _ (0, 0) _ (HO.out.get 0 rfl) Try.underlying24 rfl (by kernel_rfl) ?_) | ((with_reducible refine gate_dst (N := 34) rfl ?_); refine wpList_load_row rfl 27 (.tmp 10) rfl _ rfl 27 _ (0, 0) _ (HO.out.get 1 rfl) Try.underlying27 rfl (by kernel_rfl) ?_) | ((with_reducible refine gate_dst (N := 54) rfl ?_); refine wpList_load_row rfl 27 (.tmp 10) rfl _ rfl 27 _ (0, 0) _ (HO.out.get 1 rfl) Try.underlying27 rfl (by kernel_rfl) ?_) | ((with_reducible refine gate_dst (N := 82) rfl ?_); refine wpList_load_row rfl 24 (.tmp 3) rfl _ rfl 24 _ (0, 0) _ (HO.out.get 0 rfl) Try.underlying24 rfl (by kernel_rfl) ?_))
  refine (laws_toGraph.calls k _ _ l0_0 y0_0 _ (Kd.C_below HR0_0.out HO.out.below) HC0_0.out HTO0.out).mono ?_
  rintro e w_ ⟨vTy0_0, rfl, hTy0_0, hb⟩
  obtain ⟨ATy0_0, cTy0_0, rfl⟩ := Kd.S_slice hTy0_0
  replace HO := Aside0.mk (HO.out.step hb)
  have HTy0_0 := Aside0.mk (H.S_upto hTy0_0)
  clear hb hTy0_0
  go_wp2_with (first | ((with_reducible refine gate_dst (N := 3) rfl ?_); refine H.own_box HO.out ?hg (N := 3) ?hd (cs := #[Value.slice A0_0 l0_0.length c0_0]) (t := 24) ?hr ?_; (case hd => rfl); (case hg => rfl); (case hr => first | (go_simp; done) | (go_simp; rfl)); intro gb0 w_ ho_ hb_; replace HO := Aside0.mk ho_; clear ho_ hb_) | ((with_reducible refine gate_dst (N := 18) rfl ?_); refine wpList_load_row rfl 24 (.tmp 3) rfl _ rfl 24 _ (0, 0) _ (HO.out.get 0 rfl) Try.underlying24 rfl (by kernel_rfl) ?_) | ((with_reducible refine gate_dst (N := 24) rfl ?_); refine wpList_load_row rfl 24 (.tmp 3) rfl _ rfl 24 _ (0, 0) _ (HO.out.get 0 rfl) Try.underlying24 rfl (by kernel_rfl) ?_) | ((with_reducible refine gate_dst (N := 31) rfl ?_); refine wpList_load_row rfl 24 (.tmp 3) rfl _ rfl 24 _ (0, 0) _ (HO.out.get 0 rfl) Try.underlying24 rfl (by kernel_rfl) ?_) | ((with_reducible refine gate_dst (N := 34) rfl ?_); refine wpList_load_row rfl 27 (.tmp 10) rfl _ rfl 27 _ (0, 0) _ (HO.out.get 1 rfl) Try.underlying27 rfl (by kernel_rfl) ?_) | ((with_reducible refine gate_dst (N := 54) rfl ?_); refine wpList_load_row rfl 27 (.tmp 10) rfl _ rfl 27 _ (0, 0) _ (HO.out.get 1 rfl) Try.underlying27 rfl (by kernel_rfl) ?_) | ((with_reducible refine gate_dst (N := 82) rfl ?_); refine wpList_load_row rfl 24 (.tmp 3) rfl _ rfl 24 _ (0, 0) _ (HO.out.get 0 rfl) Try.underlying24 rfl (by kernel_rfl) ?_))
  have HWB := Aside0.mk HO.out.size
  refine (spec_LoopOf.calls k _ _ y0_0 a1 a2 s1 s2 _ (Kd.S_reads' HTy0_0.out).2.2 (Kd.S_reads' HTy0_0.out).2.1 HSPEC.out).mono ?_
  rintro e w_ ⟨vW, rfl, hs, hb⟩
  obtain ⟨AW, cW, rfl⟩ := Kd.R_slice hs
  replace HO := Aside0.mk (HO.out.step hb)
  replace HTy0_0 := Aside0.mk (Kd.S_below HTy0_0.out hb);
  have HW := Aside0.mk (H.R_upto hs)
  clear hs hb
  clear HTy0_0
  go_wp2_with (first | ((with_reducible refine gate_dst (N := 3) rfl ?_); refine H.own_box HO.out ?hg (N := 3) ?hd (cs := #[Value.slice A0_0 l0_0.length c0_0]) (t := 24) ?hr ?_; (case hd => rfl); (case hg => rfl); (case hr => first | (go_simp; done) | (go_simp; rfl)); intro gb0 w_ ho_ hb_; replace HO := Aside0.mk ho_; clear ho_ hb_) | ((with_reducible refine gate_dst (N := 18) rfl ?_); refine wpList_load_row rfl 24 (.tmp 3) rfl _ rfl 24 _ (0, 0) _ (HO.out.get 0 rfl) Try.underlying24 rfl (by kernel_rfl) ?_) | ((with_reducible refine gate_dst (N := 24) rfl ?_); refine wpList_load_row rfl 24 (.tmp 3) rfl _ rfl 24 _ (0, 0) _ (HO.out.get 0 rfl) Try.underlying24 rfl (by kernel_rfl) ?_) | ((with_reducible refine gate_dst (N := 31) rfl ?_); refine wpList_load_row rfl 24 (.tmp 3) rfl _ rfl 24 _ (0, 0) _ (HO.out.get 0 rfl) Try.underlying24 rfl (by kernel_rfl) ?_) | ((with_reducible refine gate_dst (N := 34) rfl ?_); refine wpList_load_row rfl 27 (.tmp 10) rfl _ rfl 27 _ (0, 0) _ (HO.out.get 1 rfl) Try.underlying27 rfl (by kernel_rfl) ?_) | ((with_reducible refine gate_dst (N := 54) rfl ?_); refine wpList_load_row rfl 27 (.tmp 10) rfl _ rfl 27 _ (0, 0) _ (HO.out.get 1 rfl) Try.underlying27 rfl (by kernel_rfl) ?_) | ((with_reducible refine gate_dst (N := 82) rfl ?_); refine wpList_load_row rfl 24 (.tmp 3) rfl _ rfl 24 _ (0, 0) _ (HO.out.get 0 rfl) Try.underlying24 rfl (by kernel_rfl) ?_) | ((with_reducible refine gate_dst (N := 10) rfl ?_); refine H.own_box HO.out ?hg (N := 10) ?hd (cs := #[Value.slice none 0 0]) (t := 27) ?hr ?_; (case hd => rfl); (case hg => rfl); (case hr => first | (go_simp; done) | (go_simp; rfl)); intro gx0 w_ ho_ hb_; replace HW := Aside0.mk (Kd.R_below HW.out hb_); replace HLE := Aside0.mk (Nat.le_trans HLE.out hb_.size); replace HO := Aside0.mk ho_; clear ho_ hb_) | ((with_reducible refine gate_store (t := 27) (p := 10) rfl ?_); refine H.own_store HO.out 1 rfl rfl rfl rfl rfl (u := .agg #[Value.slice AXy0_0 y0_0.length cXy0_0]) (seg := [Value.slice AXy0_0 y0_0.length cXy0_0]) rfl rfl (by kernel_rfl) (by simp [Value.oneCell']) (by simp) (cs' := #[Value.slice AXy0_0 y0_0.length cXy0_0]) rfl ?_; intro w_ ho_ hg_; replace HW := Aside0.mk (HO.out.keep 1 rfl HW.out hg_ (by decide)); replace HLE := Aside0.mk (Nat.le_trans HLE.out hg_.size); replace HO := Aside0.mk ho_; clear ho_ hg_))
  obtain ⟨N1, hN1⟩ : ∃ N1, _ = N1 := ⟨w_.heap.size, rfl⟩
  have HN1 := Aside0.mk (show w.heap.size ≤ N1 by rw [← hN1]; exact HO.out.size)
  replace HW := Aside0.mk (Kd.R_mono (ok' := fun k_ => w.heap.size ≤ k_ ∧ k_ < N1) (H.R_upto (Kd.R_lower HW.out HWB.out)) (fun k_ hk_ => by rw [← hN1]; exact hk_))
  clear HWB
  refine (laws_toGraph.calls k _ _ l0_0 y0_0 _ (Kd.C_below HR0_0.out HO.out.below) HC0_0.out HTO0.out).mono ?_
  rintro e w_ ⟨vXy0_0, rfl, hXy0_0, hb⟩
  obtain ⟨AXy0_0, cXy0_0, rfl⟩ := Kd.S_slice hXy0_0
  have HXy0_0 := Aside0.mk (H.S_upto (Kd.S_lower hXy0_0 (show N1 ≤ _ from by rw [← hN1]; exact Nat.le_refl _)))
  replace HO := Aside0.mk (HO.out.step hb)
  replace HW := Aside0.mk (Kd.R_below HW.out hb);
  have HLE := Aside0.mk (show N1 ≤ _ from Nat.le_trans (Nat.le_of_eq hN1.symm) hb.size)
  clear hN1
  clear hb hXy0_0
  go_wp2_with (first | ((with_reducible refine gate_dst (N := 3) rfl ?_); refine H.own_box HO.out ?hg (N := 3) ?hd (cs := #[Value.slice A0_0 l0_0.length c0_0]) (t := 24) ?hr ?_; (case hd => rfl); (case hg => rfl); (case hr => first | (go_simp; done) | (go_simp; rfl)); intro gb0 w_ ho_ hb_; replace HO := Aside0.mk ho_; clear ho_ hb_) | ((with_reducible refine gate_dst (N := 18) rfl ?_); refine wpList_load_row rfl 24 (.tmp 3) rfl _ rfl 24 _ (0, 0) _ (HO.out.get 0 rfl) Try.underlying24 rfl (by kernel_rfl) ?_) | ((with_reducible refine gate_dst (N := 24) rfl ?_); refine wpList_load_row rfl 24 (.tmp 3) rfl _ rfl 24 _ (0, 0) _ (HO.out.get 0 rfl) Try.underlying24 rfl (by kernel_rfl) ?_) | ((with_reducible refine gate_dst (N := 31) rfl ?_); refine wpList_load_row rfl 24 (.tmp 3) rfl _ rfl 24 _ (0, 0) _ (HO.out.get 0 rfl) Try.underlying24 rfl (by kernel_rfl) ?_) | ((with_reducible refine gate_dst (N := 34) rfl ?_); refine wpList_load_row rfl 27 (.tmp 10) rfl _ rfl 27 _ (0, 0) _ (HO.out.get 1 rfl) Try.underlying27 rfl (by kernel_rfl) ?_) | ((with_reducible refine gate_dst (N := 54) rfl ?_); refine wpList_load_row rfl 27 (.tmp 10) rfl _ rfl 27 _ (0, 0) _ (HO.out.get 1 rfl) Try.underlying27 rfl (by kernel_rfl) ?_) | ((with_reducible refine gate_dst (N := 82) rfl ?_); refine wpList_load_row rfl 24 (.tmp 3) rfl _ rfl 24 _ (0, 0) _ (HO.out.get 0 rfl) Try.underlying24 rfl (by kernel_rfl) ?_) | ((with_reducible refine gate_dst (N := 10) rfl ?_); refine H.own_box HO.out ?hg (N := 10) ?hd (cs := #[Value.slice none 0 0]) (t := 27) ?hr ?_; (case hd => rfl); (case hg => rfl); (case hr => first | (go_simp; done) | (go_simp; rfl)); intro gx0 w_ ho_ hb_; replace HW := Aside0.mk (Kd.R_below HW.out hb_); replace HXy0_0 := Aside0.mk (Kd.S_below HXy0_0.out hb_); replace HLE := Aside0.mk (Nat.le_trans HLE.out hb_.size); replace HO := Aside0.mk ho_; clear ho_ hb_) | ((with_reducible refine gate_store (t := 27) (p := 10) rfl ?_); refine H.own_store HO.out 1 rfl rfl rfl rfl rfl (u := .agg #[Value.slice AXy0_0 y0_0.length cXy0_0]) (seg := [Value.slice AXy0_0 y0_0.length cXy0_0]) rfl rfl (by kernel_rfl) (by simp [Value.oneCell']) (by simp) (cs' := #[Value.slice AXy0_0 y0_0.length cXy0_0]) rfl ?_; intro w_ ho_ hg_; replace HW := Aside0.mk (HO.out.keep 1 rfl HW.out hg_ (by decide)); replace HXy0_0 := Aside0.mk (HO.out.keepS 1 rfl HXy0_0.out hg_ (by decide)); replace HLE := Aside0.mk (Nat.le_trans HLE.out hg_.size); replace HO := Aside0.mk ho_; clear ho_ hg_))
  obtain ⟨N2, hN2⟩ : ∃ N2, _ = N2 := ⟨w_.heap.size, rfl⟩
  replace HXy0_0 := Aside0.mk (Kd.S_mono (ok' := fun k_ => N1 ≤ k_ ∧ k_ < N2) (H.S_upto HXy0_0.out) (fun k_ hk_ => by rw [← hN2]; exact hk_))
  have HLT := Aside0.mk HO.out.lt
  rw [hN2] at HLT
  have HN2 := Aside0.mk (show w.heap.size ≤ N2 by rw [← hN2]; exact HO.out.size)
  have HN12 := Aside0.mk (show N1 ≤ N2 by rw [← hN2]; exact HLE.out)
  refine (impl_LoopOf.calls _ _ y0_0 a1 a2 s1 s2 _ (Kd.S_reads' HXy0_0.out).2.2 (Kd.S_reads' HXy0_0.out).2.1 HIMPL.out).mono ?_
  rintro e w_ ⟨vG, rfl, hs, hb⟩
  obtain ⟨AG, cG, rfl⟩ := Kd.R_slice hs
  replace HO := Aside0.mk (HO.out.step hb)
  replace HW := Aside0.mk (Kd.R_below HW.out hb)
  replace HXy0_0 := Aside0.mk (Kd.S_below HXy0_0.out hb);
  have HG := Aside0.mk (H.R_upto hs)
  rw [hN2] at HG
  obtain ⟨N3, hN3⟩ : ∃ N3, w_.heap.size = N3 := ⟨_, rfl⟩
  rw [hN3] at HG
  clear hs hb hN2 hN3
  go_wp2_with (first | ((with_reducible refine gate_dst (N := 3) rfl ?_); refine H.own_box HO.out ?hg (N := 3) ?hd (cs := #[Value.slice A0_0 l0_0.length c0_0]) (t := 24) ?hr ?_; (case hd => rfl); (case hg => rfl); (case hr => first | (go_simp; done) | (go_simp; rfl)); intro gb0 w_ ho_ hb_; replace HO := Aside0.mk ho_; clear ho_ hb_) | ((with_reducible refine gate_dst (N := 18) rfl ?_); refine wpList_load_row rfl 24 (.tmp 3) rfl _ rfl 24 _ (0, 0) _ (HO.out.get 0 rfl) Try.underlying24 rfl (by kernel_rfl) ?_) | ((with_reducible refine gate_dst (N := 24) rfl ?_); refine wpList_load_row rfl 24 (.tmp 3) rfl _ rfl 24 _ (0, 0) _ (HO.out.get 0 rfl) Try.underlying24 rfl (by kernel_rfl) ?_) | ((with_reducible refine gate_dst (N := 31) rfl ?_); refine wpList_load_row rfl 24 (.tmp 3) rfl _ rfl 24 _ (0, 0) _ (HO.out.get 0 rfl) Try.underlying24 rfl (by kernel_rfl) ?_) | ((with_reducible refine gate_dst (N := 34) rfl ?_); refine wpList_load_row rfl 27 (.tmp 10) rfl _ rfl 27 _ (0, 0) _ (HO.out.get 1 rfl) Try.underlying27 rfl (by kernel_rfl) ?_) | ((with_reducible refine gate_dst (N := 54) rfl ?_); refine wpList_load_row rfl 27 (.tmp 10) rfl _ rfl 27 _ (0, 0) _ (HO.out.get 1 rfl) Try.underlying27 rfl (by kernel_rfl) ?_) | ((with_reducible refine gate_dst (N := 82) rfl ?_); refine wpList_load_row rfl 24 (.tmp 3) rfl _ rfl 24 _ (0, 0) _ (HO.out.get 0 rfl) Try.underlying24 rfl (by kernel_rfl) ?_))
  refine (laws_eqIntS.calls k _ _ s1 _ _ s1 true _ (Kd.R_reads' HG.out).2.2 (Kd.R_reads' HG.out).2.1 (Kd.R_reads' HW.out).2.2 (Kd.R_reads' HW.out).2.1 HEQR.out).mono ?_
  rintro e w_ ⟨rfl, hd⟩
  replace HO := Aside0.mk (HO.out.step hd.below)
  replace HW := Aside0.mk (Kd.R_below HW.out hd.below)
  replace HXy0_0 := Aside0.mk (Kd.S_below HXy0_0.out hd.below)
  replace HG := Aside0.mk (Kd.R_below HG.out hd.below);
  clear hd
  go_wp2_with (first | ((with_reducible refine gate_dst (N := 3) rfl ?_); refine H.own_box HO.out ?hg (N := 3) ?hd (cs := #[Value.slice A0_0 l0_0.length c0_0]) (t := 24) ?hr ?_; (case hd => rfl); (case hg => rfl); (case hr => first | (go_simp; done) | (go_simp; rfl)); intro gb0 w_ ho_ hb_; replace HO := Aside0.mk ho_; clear ho_ hb_) | ((with_reducible refine gate_dst (N := 18) rfl ?_); refine wpList_load_row rfl 24 (.tmp 3) rfl _ rfl 24 _ (0, 0) _ (HO.out.get 0 rfl) Try.underlying24 rfl (by kernel_rfl) ?_) | ((with_reducible refine gate_dst (N := 24) rfl ?_); refine wpList_load_row rfl 24 (.tmp 3) rfl _ rfl 24 _ (0, 0) _ (HO.out.get 0 rfl) Try.underlying24 rfl (by kernel_rfl) ?_) | ((with_reducible refine gate_dst (N := 31) rfl ?_); refine wpList_load_row rfl 24 (.tmp 3) rfl _ rfl 24 _ (0, 0) _ (HO.out.get 0 rfl) Try.underlying24 rfl (by kernel_rfl) ?_) | ((with_reducible refine gate_dst (N := 34) rfl ?_); refine wpList_load_row rfl 27 (.tmp 10) rfl _ rfl 27 _ (0, 0) _ (HO.out.get 1 rfl) Try.underlying27 rfl (by kernel_rfl) ?_) | ((with_reducible refine gate_dst (N := 54) rfl ?_); refine wpList_load_row rfl 27 (.tmp 10) rfl _ rfl 27 _ (0, 0) _ (HO.out.get 1 rfl) Try.underlying27 rfl (by kernel_rfl) ?_) | ((with_reducible refine gate_dst (N := 82) rfl ?_); refine wpList_load_row rfl 24 (.tmp 3) rfl _ rfl 24 _ (0, 0) _ (HO.out.get 0 rfl) Try.underlying24 rfl (by kernel_rfl) ?_))
  replace HO := Aside0.mk HO.out.drew
  replace HW := Aside0.mk (Kd.R_drew HW.out)
  replace HXy0_0 := Aside0.mk (Kd.S_drew HXy0_0.out)
  replace HG := Aside0.mk (Kd.R_drew HG.out)
  refine start_ (n := 5) (S := fun w' => w'.rangeAt gx0 0 [Value.slice AXy0_0 y0_0.length cXy0_0] ∧ w'.rangeAt gb0 0 [Value.slice A0_0 l0_0.length c0_0]) (ds := []) #[false, false, false, false, false] (by kernel_rfl) rfl rfl ⟨(HO.out.range 1 rfl), (HO.out.range 0 rfl)⟩ (fun hHeld => ?_)
  refine take_ (i := 0) (N := some 49) (v := .agg #[Value.slice AXy0_0 y0_0.length cXy0_0]) (a' := ?_) #[true, false, false, false, false] rfl rfl (by kernel_rfl) (fun _ _ _ h => h) (yieldsIf_load_mid (by rfl) 27 (.tmp 10) rfl gx0 0 rfl [Value.slice AXy0_0 y0_0.length cXy0_0] _ (fun W h => h.1) Try.underlying27 rfl (by kernel_rfl)) hHeld ?_ ?_
  rotate_left
  · simp only [Act.put, List.setIfInBounds_toArray, List.set_cons_zero, List.set_cons_succ, i64_w, i32_w]
    rfl
  refine take_ (i := 1) (N := some 50) (v := .agg #[Value.slice A0_0 l0_0.length c0_0]) (a' := ?_) #[true, true, false, false, false] rfl rfl (by kernel_rfl) (fun _ _ _ h => h) (yieldsIf_load_mid (by rfl) 24 (.tmp 3) rfl gb0 0 rfl [Value.slice A0_0 l0_0.length c0_0] _ (fun W h => h.2) Try.underlying24 rfl (by kernel_rfl)) hHeld ?_ ?_
  rotate_left
  · simp only [Act.put, List.setIfInBounds_toArray, List.set_cons_zero, List.set_cons_succ, i64_w, i32_w]
    rfl
  refine one_ (i := 2) (N := some 51) #[true, true, true, false, false] rfl rfl (by kernel_rfl) (by decide) (fun K hK => ?_)
  refine goes_ Try.func17 (by kernel_rfl) rfl #[.agg #[.slice A0_0 l0_0.length c0_0]] (by rfl) rfl rfl (by simp only [List.map_toArray, List.map_cons, List.map_nil]; rfl) ?_
  with_reducible refine (laws_toGraph.calls k _ _ l0_0 y0_0 _ (Kd.C_below HR0_0.out HO.out.below) HC0_0.out HTO0.out).mono ?_
  rintro e w_ ⟨vEy0_0, rfl, hEy0_0, hb⟩
  refine ⟨_, rfl, ?_⟩
  obtain ⟨AEy0_0, cEy0_0, rfl⟩ := Kd.S_slice hEy0_0
  replace HO := Aside0.mk (HO.out.step hb)
  replace HW := Aside0.mk (Kd.R_below HW.out hb)
  replace HXy0_0 := Aside0.mk (Kd.S_below HXy0_0.out hb)
  replace HG := Aside0.mk (Kd.R_below HG.out hb);
  have HEy0_0 := Aside0.mk hEy0_0
  clear hb hEy0_0
  refine hK.out _ _ ⟨(HO.out.range 1 rfl), (HO.out.range 0 rfl)⟩ (fun hHeld => ?_)
  clear hK K
  refine norm_ (a' := ?_) ?_ ?_
  rotate_left
  · show Act.put _ (some 51) _ = _
    simp only [Act.put, List.setIfInBounds_toArray, List.set_cons_zero, List.set_cons_succ, i64_w, i32_w]
    rfl
  refine one_ (i := 3) (N := some 52) #[true, true, true, true, false] rfl rfl (by kernel_rfl) (by decide) (fun K hK => ?_)
  refine goes_ Try.func19 (by kernel_rfl) rfl #[.agg #[Value.slice AXy0_0 y0_0.length cXy0_0], .agg #[Value.slice AEy0_0 y0_0.length cEy0_0]] (by rfl) rfl rfl (by simp only [List.map_toArray, List.map_cons, List.map_nil]; rfl) ?_
  with_reducible refine (laws_eqGraph.calls k _ _ y0_0 _ _ y0_0 true _ (Kd.S_reads' HXy0_0.out).2.2 (Kd.S_reads' HXy0_0.out).2.1 (Kd.S_reads' HEy0_0.out).2.2 (Kd.S_reads' HEy0_0.out).2.1 HEQ0.out).mono ?_
  rintro e w_ ⟨rfl, hb⟩
  refine ⟨_, rfl, ?_⟩
  replace HO := Aside0.mk (HO.out.step hb)
  replace HW := Aside0.mk (Kd.R_below HW.out hb)
  replace HXy0_0 := Aside0.mk (Kd.S_below HXy0_0.out hb)
  replace HG := Aside0.mk (Kd.R_below HG.out hb);
  clear hb
  refine hK.out _ _ ⟨(HO.out.range 1 rfl), (HO.out.range 0 rfl)⟩ (fun hHeld => ?_)
  clear hK K
  refine norm_ (a' := ?_) ?_ ?_
  rotate_left
  · show Act.put _ (some 52) _ = _
    simp only [Act.put, List.setIfInBounds_toArray, List.set_cons_zero, List.set_cons_succ, i64_w, i32_w]
    rfl
  refine pure_ (i := 4) (N := some 53) (v := ?_) (a' := ?_) #[true, true, true, true, true] rfl rfl (by kernel_rfl) (fun _ _ _ h => h) (Or.inl ⟨by rfl, ?_⟩) ?_ ?_
  rotate_left
  · intro w'
    go_simp
    with_reducible rfl
  rotate_left
  · simp only [Act.put, List.setIfInBounds_toArray, List.set_cons_zero, List.set_cons_succ, i64_w, i32_w]
    rfl
  refine done_ (by kernel_rfl) ?_
  clear HEy0_0
  go_wp2_with (first | ((with_reducible refine gate_dst (N := 3) rfl ?_); refine H.own_box HO.out ?hg (N := 3) ?hd (cs := #[Value.slice A0_0 l0_0.length c0_0]) (t := 24) ?hr ?_; (case hd => rfl); (case hg => rfl); (case hr => first | (go_simp; done) | (go_simp; rfl)); intro gb0 w_ ho_ hb_; replace HO := Aside0.mk ho_; clear ho_ hb_) | ((with_reducible refine gate_dst (N := 18) rfl ?_); refine wpList_load_row rfl 24 (.tmp 3) rfl _ rfl 24 _ (0, 0) _ (HO.out.get 0 rfl) Try.underlying24 rfl (by kernel_rfl) ?_) | ((with_reducible refine gate_dst (N := 24) rfl ?_); refine wpList_load_row rfl 24 (.tmp 3) rfl _ rfl 24 _ (0, 0) _ (HO.out.get 0 rfl) Try.underlying24 rfl (by kernel_rfl) ?_) | ((with_reducible refine gate_dst (N := 31) rfl ?_); refine wpList_load_row rfl 24 (.tmp 3) rfl _ rfl 24 _ (0, 0) _ (HO.out.get 0 rfl) Try.underlying24 rfl (by kernel_rfl) ?_) | ((with_reducible refine gate_dst (N := 34) rfl ?_); refine wpList_load_row rfl 27 (.tmp 10) rfl _ rfl 27 _ (0, 0) _ (HO.out.get 1 rfl) Try.underlying27 rfl (by kernel_rfl) ?_) | ((with_reducible refine gate_dst (N := 54) rfl ?_); refine wpList_load_row rfl 27 (.tmp 10) rfl _ rfl 27 _ (0, 0) _ (HO.out.get 1 rfl) Try.underlying27 rfl (by kernel_rfl) ?_) | ((with_reducible refine gate_dst (N := 82) rfl ?_); refine wpList_load_row rfl 24 (.tmp 3) rfl _ rfl 24 _ (0, 0) _ (HO.out.get 0 rfl) Try.underlying24 rfl (by kernel_rfl) ?_))
  have hm0 : (0 : Int) ≤ 1 := by decide
  have HB := Aside0.mk HB0.out
  obtain ⟨M1, hM1⟩ : ∃ M1 : Int, 1 + (H.total y0_0 : Int) = M1 := ⟨_, rfl⟩
  have hmb1 : M1 ≤ 4611686018427387904 := by have := HB.out; omega
  have hm1 : 0 ≤ M1 := by omega
  refine (laws_markGraph.tame N1 N2 _ y0_0.length _ 1 _ (H.Rooms.of_S HXy0_0.out (Nat.le_refl _) (fun k_ hk_ _ => hk_.2)) hm0 (by rw [H.sum_total _ _ (Nat.le_refl _), List.take_length]; omega) (by omega)).mono ?_
  rintro e w_ ⟨he, ht⟩
  rw [H.sum_total _ _ (Nat.le_refl _), List.take_length, hM1] at he
  subst he
  replace HO := Aside0.mk (HO.out.tame ht HN1.out (by simp))
  replace HW := Aside0.mk (H.R_tame HW.out ht (.inl (Nat.le_refl _)))
  clear HXy0_0
  replace HG := Aside0.mk (H.R_tame HG.out ht (.inr (Nat.le_refl _)))
  clear ht hM1
  go_wp2_with (first | ((with_reducible refine gate_dst (N := 3) rfl ?_); refine H.own_box HO.out ?hg (N := 3) ?hd (cs := #[Value.slice A0_0 l0_0.length c0_0]) (t := 24) ?hr ?_; (case hd => rfl); (case hg => rfl); (case hr => first | (go_simp; done) | (go_simp; rfl)); intro gb0 w_ ho_ hb_; replace HO := Aside0.mk ho_; clear ho_ hb_) | ((with_reducible refine gate_dst (N := 18) rfl ?_); refine wpList_load_row rfl 24 (.tmp 3) rfl _ rfl 24 _ (0, 0) _ (HO.out.get 0 rfl) Try.underlying24 rfl (by kernel_rfl) ?_) | ((with_reducible refine gate_dst (N := 24) rfl ?_); refine wpList_load_row rfl 24 (.tmp 3) rfl _ rfl 24 _ (0, 0) _ (HO.out.get 0 rfl) Try.underlying24 rfl (by kernel_rfl) ?_) | ((with_reducible refine gate_dst (N := 31) rfl ?_); refine wpList_load_row rfl 24 (.tmp 3) rfl _ rfl 24 _ (0, 0) _ (HO.out.get 0 rfl) Try.underlying24 rfl (by kernel_rfl) ?_) | ((with_reducible refine gate_dst (N := 34) rfl ?_); refine wpList_load_row rfl 27 (.tmp 10) rfl _ rfl 27 _ (0, 0) _ (HO.out.get 1 rfl) Try.underlying27 rfl (by kernel_rfl) ?_) | ((with_reducible refine gate_dst (N := 54) rfl ?_); refine wpList_load_row rfl 27 (.tmp 10) rfl _ rfl 27 _ (0, 0) _ (HO.out.get 1 rfl) Try.underlying27 rfl (by kernel_rfl) ?_) | ((with_reducible refine gate_dst (N := 82) rfl ?_); refine wpList_load_row rfl 24 (.tmp 3) rfl _ rfl 24 _ (0, 0) _ (HO.out.get 0 rfl) Try.underlying24 rfl (by kernel_rfl) ?_))
  refine (laws_eqIntS.calls k _ _ s1 _ _ s1 true _ (Kd.R_reads' HG.out).2.2 (Kd.R_reads' HG.out).2.1 (Kd.R_reads' HW.out).2.2 (Kd.R_reads' HW.out).2.1 HEQR.out).mono ?_
  rintro e w_ ⟨rfl, hd⟩
  replace HO := Aside0.mk (HO.out.step hd.below)
  replace HW := Aside0.mk (Kd.R_below HW.out hd.below)
  replace HG := Aside0.mk (Kd.R_below HG.out hd.below);
  clear hd
  go_wp2_with (first | ((with_reducible refine gate_dst (N := 3) rfl ?_); refine H.own_box HO.out ?hg (N := 3) ?hd (cs := #[Value.slice A0_0 l0_0.length c0_0]) (t := 24) ?hr ?_; (case hd => rfl); (case hg => rfl); (case hr => first | (go_simp; done) | (go_simp; rfl)); intro gb0 w_ ho_ hb_; replace HO := Aside0.mk ho_; clear ho_ hb_) | ((with_reducible refine gate_dst (N := 18) rfl ?_); refine wpList_load_row rfl 24 (.tmp 3) rfl _ rfl 24 _ (0, 0) _ (HO.out.get 0 rfl) Try.underlying24 rfl (by kernel_rfl) ?_) | ((with_reducible refine gate_dst (N := 24) rfl ?_); refine wpList_load_row rfl 24 (.tmp 3) rfl _ rfl 24 _ (0, 0) _ (HO.out.get 0 rfl) Try.underlying24 rfl (by kernel_rfl) ?_) | ((with_reducible refine gate_dst (N := 31) rfl ?_); refine wpList_load_row rfl 24 (.tmp 3) rfl _ rfl 24 _ (0, 0) _ (HO.out.get 0 rfl) Try.underlying24 rfl (by kernel_rfl) ?_) | ((with_reducible refine gate_dst (N := 34) rfl ?_); refine wpList_load_row rfl 27 (.tmp 10) rfl _ rfl 27 _ (0, 0) _ (HO.out.get 1 rfl) Try.underlying27 rfl (by kernel_rfl) ?_) | ((with_reducible refine gate_dst (N := 54) rfl ?_); refine wpList_load_row rfl 27 (.tmp 10) rfl _ rfl 27 _ (0, 0) _ (HO.out.get 1 rfl) Try.underlying27 rfl (by kernel_rfl) ?_) | ((with_reducible refine gate_dst (N := 82) rfl ?_); refine wpList_load_row rfl 24 (.tmp 3) rfl _ rfl 24 _ (0, 0) _ (HO.out.get 0 rfl) Try.underlying24 rfl (by kernel_rfl) ?_))
  refine (laws_markIntS.calls k (fun k_ => N2 ≤ k_ ∧ k_ < N3) _ s1 1 _ _ w _ HO.out.below (Kd.R_lower HG.out HN2.out) HMKI.out).mono ?_
  rintro e w_ ⟨he, hs, hb, hk⟩
  rw [HK2.out] at he
  subst he
  replace HO := Aside0.mk (HO.out.kept hk hb (fun x hx hp => by have := HLT.out x hx; omega))
  replace HW := Aside0.mk (H.R_kept2 HW.out hk (.inl HN12.out))
  replace HG := Aside0.mk hs
  clear hs hb hk
  have HG' : Aside0 (∀ W (ok : Nat → Prop), (Kd.int .i64).R 3 W w.heap.size ok (.slice AG s1.length cG) (H.markI s1 1) → (Kd.int .i64).C W AG (H.markI s1 1).length (H.markI s1 1) ∧ (H.markI s1 1).length ≤ cG) := ⟨fun W ok h => by have h2 := Kd.R_reads' h; exact ⟨h2.2.2, by rw [← h2.1]; exact h2.2.1⟩⟩
  go_wp2_with (first | ((with_reducible refine gate_dst (N := 3) rfl ?_); refine H.own_box HO.out ?hg (N := 3) ?hd (cs := #[Value.slice A0_0 l0_0.length c0_0]) (t := 24) ?hr ?_; (case hd => rfl); (case hg => rfl); (case hr => first | (go_simp; done) | (go_simp; rfl)); intro gb0 w_ ho_ hb_; replace HO := Aside0.mk ho_; clear ho_ hb_) | ((with_reducible refine gate_dst (N := 18) rfl ?_); refine wpList_load_row rfl 24 (.tmp 3) rfl _ rfl 24 _ (0, 0) _ (HO.out.get 0 rfl) Try.underlying24 rfl (by kernel_rfl) ?_) | ((with_reducible refine gate_dst (N := 24) rfl ?_); refine wpList_load_row rfl 24 (.tmp 3) rfl _ rfl 24 _ (0, 0) _ (HO.out.get 0 rfl) Try.underlying24 rfl (by kernel_rfl) ?_) | ((with_reducible refine gate_dst (N := 31) rfl ?_); refine wpList_load_row rfl 24 (.tmp 3) rfl _ rfl 24 _ (0, 0) _ (HO.out.get 0 rfl) Try.underlying24 rfl (by kernel_rfl) ?_) | ((with_reducible refine gate_dst (N := 34) rfl ?_); refine wpList_load_row rfl 27 (.tmp 10) rfl _ rfl 27 _ (0, 0) _ (HO.out.get 1 rfl) Try.underlying27 rfl (by kernel_rfl) ?_) | ((with_reducible refine gate_dst (N := 54) rfl ?_); refine wpList_load_row rfl 27 (.tmp 10) rfl _ rfl 27 _ (0, 0) _ (HO.out.get 1 rfl) Try.underlying27 rfl (by kernel_rfl) ?_) | ((with_reducible refine gate_dst (N := 82) rfl ?_); refine wpList_load_row rfl 24 (.tmp 3) rfl _ rfl 24 _ (0, 0) _ (HO.out.get 0 rfl) Try.underlying24 rfl (by kernel_rfl) ?_))
  refine (calls_of_args (by rw [H.markI_len]) (laws_heldIntS.calls k AG cG (H.markI s1 1) 1 _ _ (HG'.out _ _ HG.out).1 (HG'.out _ _ HG.out).2 HHELD.out)).mono ?_
  rintro e w_ ⟨he, hd⟩
  rw [HK2.out] at he
  subst he
  replace HO := Aside0.mk (HO.out.step hd.below)
  replace HW := Aside0.mk (Kd.R_below HW.out hd.below)
  replace HG := Aside0.mk (Kd.R_below HG.out hd.below);
  clear hd
  go_wp2_with (first | ((with_reducible refine gate_dst (N := 3) rfl ?_); refine H.own_box HO.out ?hg (N := 3) ?hd (cs := #[Value.slice A0_0 l0_0.length c0_0]) (t := 24) ?hr ?_; (case hd => rfl); (case hg => rfl); (case hr => first | (go_simp; done) | (go_simp; rfl)); intro gb0 w_ ho_ hb_; replace HO := Aside0.mk ho_; clear ho_ hb_) | ((with_reducible refine gate_dst (N := 18) rfl ?_); refine wpList_load_row rfl 24 (.tmp 3) rfl _ rfl 24 _ (0, 0) _ (HO.out.get 0 rfl) Try.underlying24 rfl (by kernel_rfl) ?_) | ((with_reducible refine gate_dst (N := 24) rfl ?_); refine wpList_load_row rfl 24 (.tmp 3) rfl _ rfl 24 _ (0, 0) _ (HO.out.get 0 rfl) Try.underlying24 rfl (by kernel_rfl) ?_) | ((with_reducible refine gate_dst (N := 31) rfl ?_); refine wpList_load_row rfl 24 (.tmp 3) rfl _ rfl 24 _ (0, 0) _ (HO.out.get 0 rfl) Try.underlying24 rfl (by kernel_rfl) ?_) | ((with_reducible refine gate_dst (N := 34) rfl ?_); refine wpList_load_row rfl 27 (.tmp 10) rfl _ rfl 27 _ (0, 0) _ (HO.out.get 1 rfl) Try.underlying27 rfl (by kernel_rfl) ?_) | ((with_reducible refine gate_dst (N := 54) rfl ?_); refine wpList_load_row rfl 27 (.tmp 10) rfl _ rfl 27 _ (0, 0) _ (HO.out.get 1 rfl) Try.underlying27 rfl (by kernel_rfl) ?_) | ((with_reducible refine gate_dst (N := 82) rfl ?_); refine wpList_load_row rfl 24 (.tmp 3) rfl _ rfl 24 _ (0, 0) _ (HO.out.get 0 rfl) Try.underlying24 rfl (by kernel_rfl) ?_))
  refine (laws_toGraph.calls k _ _ l0_0 y0_0 _ (Kd.C_below HR0_0.out HO.out.below) HC0_0.out HTO0.out).mono ?_
  rintro e w_ ⟨vVy0_0, rfl, hVy0_0, hb⟩
  obtain ⟨AVy0_0, cVy0_0, rfl⟩ := Kd.S_slice hVy0_0
  replace HO := Aside0.mk (HO.out.step hb)
  replace HW := Aside0.mk (Kd.R_below HW.out hb)
  replace HG := Aside0.mk (Kd.R_below HG.out hb);
  have HVy0_0 := Aside0.mk (H.S_upto hVy0_0)
  clear hb hVy0_0
  go_wp2_with (first | ((with_reducible refine gate_dst (N := 3) rfl ?_); refine H.own_box HO.out ?hg (N := 3) ?hd (cs := #[Value.slice A0_0 l0_0.length c0_0]) (t := 24) ?hr ?_; (case hd => rfl); (case hg => rfl); (case hr => first | (go_simp; done) | (go_simp; rfl)); intro gb0 w_ ho_ hb_; replace HO := Aside0.mk ho_; clear ho_ hb_) | ((with_reducible refine gate_dst (N := 18) rfl ?_); refine wpList_load_row rfl 24 (.tmp 3) rfl _ rfl 24 _ (0, 0) _ (HO.out.get 0 rfl) Try.underlying24 rfl (by kernel_rfl) ?_) | ((with_reducible refine gate_dst (N := 24) rfl ?_); refine wpList_load_row rfl 24 (.tmp 3) rfl _ rfl 24 _ (0, 0) _ (HO.out.get 0 rfl) Try.underlying24 rfl (by kernel_rfl) ?_) | ((with_reducible refine gate_dst (N := 31) rfl ?_); refine wpList_load_row rfl 24 (.tmp 3) rfl _ rfl 24 _ (0, 0) _ (HO.out.get 0 rfl) Try.underlying24 rfl (by kernel_rfl) ?_) | ((with_reducible refine gate_dst (N := 34) rfl ?_); refine wpList_load_row rfl 27 (.tmp 10) rfl _ rfl 27 _ (0, 0) _ (HO.out.get 1 rfl) Try.underlying27 rfl (by kernel_rfl) ?_) | ((with_reducible refine gate_dst (N := 54) rfl ?_); refine wpList_load_row rfl 27 (.tmp 10) rfl _ rfl 27 _ (0, 0) _ (HO.out.get 1 rfl) Try.underlying27 rfl (by kernel_rfl) ?_) | ((with_reducible refine gate_dst (N := 82) rfl ?_); refine wpList_load_row rfl 24 (.tmp 3) rfl _ rfl 24 _ (0, 0) _ (HO.out.get 0 rfl) Try.underlying24 rfl (by kernel_rfl) ?_))
  refine (impl_LoopOf.calls _ _ y0_0 a1 a2 s1 s2 _ (Kd.S_reads' HVy0_0.out).2.2 (Kd.S_reads' HVy0_0.out).2.1 HIMPL.out).mono ?_
  rintro e w_ ⟨vH, rfl, hs, hb⟩
  obtain ⟨AH, cH, rfl⟩ := Kd.R_slice hs
  replace HO := Aside0.mk (HO.out.step hb)
  replace HW := Aside0.mk (Kd.R_below HW.out hb)
  replace HG := Aside0.mk (Kd.R_below HG.out hb)
  replace HVy0_0 := Aside0.mk (Kd.S_below HVy0_0.out hb);
  have HH := Aside0.mk hs
  clear hs hb
  clear HVy0_0
  go_wp2_with (first | ((with_reducible refine gate_dst (N := 3) rfl ?_); refine H.own_box HO.out ?hg (N := 3) ?hd (cs := #[Value.slice A0_0 l0_0.length c0_0]) (t := 24) ?hr ?_; (case hd => rfl); (case hg => rfl); (case hr => first | (go_simp; done) | (go_simp; rfl)); intro gb0 w_ ho_ hb_; replace HO := Aside0.mk ho_; clear ho_ hb_) | ((with_reducible refine gate_dst (N := 18) rfl ?_); refine wpList_load_row rfl 24 (.tmp 3) rfl _ rfl 24 _ (0, 0) _ (HO.out.get 0 rfl) Try.underlying24 rfl (by kernel_rfl) ?_) | ((with_reducible refine gate_dst (N := 24) rfl ?_); refine wpList_load_row rfl 24 (.tmp 3) rfl _ rfl 24 _ (0, 0) _ (HO.out.get 0 rfl) Try.underlying24 rfl (by kernel_rfl) ?_) | ((with_reducible refine gate_dst (N := 31) rfl ?_); refine wpList_load_row rfl 24 (.tmp 3) rfl _ rfl 24 _ (0, 0) _ (HO.out.get 0 rfl) Try.underlying24 rfl (by kernel_rfl) ?_) | ((with_reducible refine gate_dst (N := 34) rfl ?_); refine wpList_load_row rfl 27 (.tmp 10) rfl _ rfl 27 _ (0, 0) _ (HO.out.get 1 rfl) Try.underlying27 rfl (by kernel_rfl) ?_) | ((with_reducible refine gate_dst (N := 54) rfl ?_); refine wpList_load_row rfl 27 (.tmp 10) rfl _ rfl 27 _ (0, 0) _ (HO.out.get 1 rfl) Try.underlying27 rfl (by kernel_rfl) ?_) | ((with_reducible refine gate_dst (N := 82) rfl ?_); refine wpList_load_row rfl 24 (.tmp 3) rfl _ rfl 24 _ (0, 0) _ (HO.out.get 0 rfl) Try.underlying24 rfl (by kernel_rfl) ?_))
  refine (laws_eqIntS.calls k _ _ s1 _ _ s1 true _ (Kd.R_reads' HH.out).2.2 (Kd.R_reads' HH.out).2.1 (Kd.R_reads' HW.out).2.2 (Kd.R_reads' HW.out).2.1 HEQR.out).mono ?_
  rintro e w_ ⟨rfl, hd⟩
  replace HO := Aside0.mk (HO.out.step hd.below)
  replace HW := Aside0.mk (Kd.R_below HW.out hd.below)
  replace HG := Aside0.mk (Kd.R_below HG.out hd.below)
  replace HH := Aside0.mk (Kd.R_below HH.out hd.below);
  clear hd
  go_wp2_with (first | ((with_reducible refine gate_dst (N := 3) rfl ?_); refine H.own_box HO.out ?hg (N := 3) ?hd (cs := #[Value.slice A0_0 l0_0.length c0_0]) (t := 24) ?hr ?_; (case hd => rfl); (case hg => rfl); (case hr => first | (go_simp; done) | (go_simp; rfl)); intro gb0 w_ ho_ hb_; replace HO := Aside0.mk ho_; clear ho_ hb_) | ((with_reducible refine gate_dst (N := 18) rfl ?_); refine wpList_load_row rfl 24 (.tmp 3) rfl _ rfl 24 _ (0, 0) _ (HO.out.get 0 rfl) Try.underlying24 rfl (by kernel_rfl) ?_) | ((with_reducible refine gate_dst (N := 24) rfl ?_); refine wpList_load_row rfl 24 (.tmp 3) rfl _ rfl 24 _ (0, 0) _ (HO.out.get 0 rfl) Try.underlying24 rfl (by kernel_rfl) ?_) | ((with_reducible refine gate_dst (N := 31) rfl ?_); refine wpList_load_row rfl 24 (.tmp 3) rfl _ rfl 24 _ (0, 0) _ (HO.out.get 0 rfl) Try.underlying24 rfl (by kernel_rfl) ?_) | ((with_reducible refine gate_dst (N := 34) rfl ?_); refine wpList_load_row rfl 27 (.tmp 10) rfl _ rfl 27 _ (0, 0) _ (HO.out.get 1 rfl) Try.underlying27 rfl (by kernel_rfl) ?_) | ((with_reducible refine gate_dst (N := 54) rfl ?_); refine wpList_load_row rfl 27 (.tmp 10) rfl _ rfl 27 _ (0, 0) _ (HO.out.get 1 rfl) Try.underlying27 rfl (by kernel_rfl) ?_) | ((with_reducible refine gate_dst (N := 82) rfl ?_); refine wpList_load_row rfl 24 (.tmp 3) rfl _ rfl 24 _ (0, 0) _ (HO.out.get 0 rfl) Try.underlying24 rfl (by kernel_rfl) ?_))
  refine (calls_of_args (by rw [H.markI_len]) (laws_heldIntS.calls k AG cG (H.markI s1 1) 1 _ _ (HG'.out _ _ HG.out).1 (HG'.out _ _ HG.out).2 HHELD.out)).mono ?_
  rintro e w_ ⟨he, hd⟩
  rw [HK2.out] at he
  subst he
  replace HO := Aside0.mk (HO.out.step hd.below)
  replace HW := Aside0.mk (Kd.R_below HW.out hd.below)
  replace HG := Aside0.mk (Kd.R_below HG.out hd.below)
  replace HH := Aside0.mk (Kd.R_below HH.out hd.below);
  clear hd
  go_wp2_with (first | ((with_reducible refine gate_dst (N := 3) rfl ?_); refine H.own_box HO.out ?hg (N := 3) ?hd (cs := #[Value.slice A0_0 l0_0.length c0_0]) (t := 24) ?hr ?_; (case hd => rfl); (case hg => rfl); (case hr => first | (go_simp; done) | (go_simp; rfl)); intro gb0 w_ ho_ hb_; replace HO := Aside0.mk ho_; clear ho_ hb_) | ((with_reducible refine gate_dst (N := 18) rfl ?_); refine wpList_load_row rfl 24 (.tmp 3) rfl _ rfl 24 _ (0, 0) _ (HO.out.get 0 rfl) Try.underlying24 rfl (by kernel_rfl) ?_) | ((with_reducible refine gate_dst (N := 24) rfl ?_); refine wpList_load_row rfl 24 (.tmp 3) rfl _ rfl 24 _ (0, 0) _ (HO.out.get 0 rfl) Try.underlying24 rfl (by kernel_rfl) ?_) | ((with_reducible refine gate_dst (N := 31) rfl ?_); refine wpList_load_row rfl 24 (.tmp 3) rfl _ rfl 24 _ (0, 0) _ (HO.out.get 0 rfl) Try.underlying24 rfl (by kernel_rfl) ?_) | ((with_reducible refine gate_dst (N := 34) rfl ?_); refine wpList_load_row rfl 27 (.tmp 10) rfl _ rfl 27 _ (0, 0) _ (HO.out.get 1 rfl) Try.underlying27 rfl (by kernel_rfl) ?_) | ((with_reducible refine gate_dst (N := 54) rfl ?_); refine wpList_load_row rfl 27 (.tmp 10) rfl _ rfl 27 _ (0, 0) _ (HO.out.get 1 rfl) Try.underlying27 rfl (by kernel_rfl) ?_) | ((with_reducible refine gate_dst (N := 82) rfl ?_); refine wpList_load_row rfl 24 (.tmp 3) rfl _ rfl 24 _ (0, 0) _ (HO.out.get 0 rfl) Try.underlying24 rfl (by kernel_rfl) ?_))
  go_ret
  exact ⟨rfl, HO.out.below⟩
theorem laws_FnExactLoopOf.calls (k : Nat) (A0_0 : Option Addr) (c0_0 : Nat) (l0_0 : List (List Int)) (a1 : Int) (a2 : Int) (w : World) (hr0_0 : Kd.C (Kd.slice 3 (Kd.int .i64)) w A0_0 l0_0.length l0_0) (hc0_0 : l0_0.length ≤ c0_0) (h : laws_FnExactLoopOf.ok k l0_0 a1 a2) :
    Calls Try.prog 11 #[.agg #[.slice A0_0 l0_0.length c0_0], .int .i64 a1, .int .i64 a2] w fun e w' => e = .returned (.bool true) ∧ Below w.heap.size w w' := by
  unfold laws_FnExactLoopOf.ok at h
  rcases h with h | h
  · exact laws_FnExactLoopOf.s0 k A0_0 c0_0 l0_0 a1 a2 w hr0_0 hc0_0 h
  · exact laws_FnExactLoopOf.whole k A0_0 c0_0 l0_0 a1 a2 w hr0_0 hc0_0 h
end Go.Proofs.Ytplcipjlkogadaa.P

namespace Go.Proofs.Ytplcipjlkogadaa.Q
open Go.RowKit Go.Proofs.Ytplcipjlkogadaa.P Go.Proofs.Ytplcipjlkogadaa.H Go.Proofs.YtplcipjlkogadaaW.PrintWords
theorem loopOf_of (l0_0 : List (List Int)) (a1 : Int) (a2 : Int) (hl0 : Len (Len I64) l0_0) (core : Small l0_0 → ∃ (s1 : List Int) (s2 : Bool), Ev (fun k => spec_LoopOf.f k l0_0 a1 a2) (s1, s2) ∧ impl_LoopOf.f l0_0 a1 a2 = some (s1, s2) ∧ s1.length ≤ 1048576) : ∃ k, laws_FnExactLoopOf.ok k l0_0 a1 a2 := by
  unfold laws_FnExactLoopOf.ok
  obtain ⟨z0, ⟨Kz0, hz0⟩, hcase0⟩ := szGraph_ev l0_0 1048576 (by decide) (by decide) hl0
  rcases hcase0 with hneg0 | ⟨h00, h10', hs0⟩
  case inl =>
    exact ⟨Kz0, .inl (by unfold laws_FnExactLoopOf.skip0; exact ⟨z0, hz0 _ (by omega), hneg0⟩)⟩
  obtain ⟨s1, s2, ⟨Ksp, hsp⟩, him, hsm⟩ := core hs0
  obtain ⟨Keq, heq⟩ := eqIntS_ev s1 hsm
  obtain ⟨Khd, hhd⟩ := heldI_ev s1 1 (by decide) (by omega)
  obtain ⟨Kmk, hmk⟩ := markI_ev s1 1 (by decide) (by omega)
  obtain ⟨Kt0, ht0⟩ := toGraph_ev l0_0 hs0
  obtain ⟨Ke0, he0⟩ := eqGraph_ev l0_0 hs0
  have hty0 := total_small hs0
  have hln0 := hs0.1
  refine ⟨Kz0 + Ksp + Keq + Khd + Kmk + Kt0 + Ke0, .inr (?_)⟩
  unfold laws_FnExactLoopOf.good
  exact ⟨z0, l0_0, s1, s2, hz0 _ (by omega), h00, ht0 _ (by omega), hsp _ (by omega), him, heq _ (by omega), he0 _ (by omega), by omega, hhd _ (by omega), hmk _ (by omega), hln0, by omega⟩
end Go.Proofs.Ytplcipjlkogadaa.Q

namespace Go.Proofs.Ytplcipjlkogadaa.Q
open Go.RowKit Go.Proofs.Ytplcipjlkogadaa.P Go.Proofs.Ytplcipjlkogadaa.H Go.Proofs.YtplcipjlkogadaaW.PrintWords
structure SndB (g : List (List Int)) (fr t : Int) (acc : List Int) : Prop where
  srt : Srt acc
  snd : ∀ y ∈ acc, y = t ∨ Bk g fr t y
section
variable {g : List (List Int)} {fr t : Int}
theorem SndB.len (hG : goodG g = true) (hf : 0 ≤ fr ∧ fr < (g.length : Int)) (ht : 0 ≤ t ∧ t < (g.length : Int)) {acc : List Int} (h : SndB g fr t acc) : acc.length ≤ 12 := srt_len12 h.srt (fun y hy => by
  have hr := goodG_rows hG
  rcases h.snd y hy with h | h
  · omega
  · have := h.rng hf.1 hf.2; omega)
theorem SndB.put {acc : List Int} {y : Int} (h : SndB g fr t acc) (hy : y = t ∨ Bk g fr t y) : SndB g fr t (putL acc y) := ⟨putL_srt y acc h.srt, fun z hz => by
  rcases (putL_mem y acc z).1 hz with e | e
  · exact h.snd z e
  · rw [e]; exact hy⟩
theorem loop_row (hG : goodG g = true) (hf : 0 ≤ fr ∧ fr < (g.length : Int)) (ht : 0 ≤ t ∧ t < (g.length : Int)) {i : Nat} (hi : i < g.length) (n0 : Int) (row : List Int) (hrow : row = g.getD i []) :
    ∀ (d m : Nat) (acc : List Int), m + d = row.length → SndB g fr t acc → ∃ acc', SndB g fr t acc' ∧ (∀ y ∈ acc, y ∈ acc') ∧ (∀ x ∈ row.drop m, x ≠ t → x ∈ acc → (i : Int) ∈ acc') ∧
      ∀ r, Ev (fun k => spec_LoopOf.l1 k t acc' n0 g (g.length : Int) ((i : Int) + 1) g) r → Ev (fun k => spec_LoopOf.l2 k t acc n0 (i : Int) g (g.length : Int) (i : Int) row (row.length : Int) (m : Int) g) r := by
  have hr := goodG_rows hG
  intro d
  induction d with
  | zero =>
    intro m acc hm h
    refine ⟨acc, h, fun _ h => h, fun y hy => by rw [List.drop_of_length_le (by omega)] at hy; simp at hy, fun r hr => ?_⟩
    refine Ev.step (fun k => ?_) hr
    simp only [spec_LoopOf.l2]
    rw [if_neg (by omega), w64 (by omega) (by omega)]
  | succ d ih =>
    intro m acc hm h
    have hml : m < row.length := by omega
    have hsm := (goodG_small hG).at hi
    rw [← hrow] at hsm
    have hdrop := drop_eq hml
    have hval : rd row (m : Int) = row.getD m 0 := rfl
    have hmem : row.getD m 0 ∈ row := by
      rw [List.getD_eq_getElem?_getD, List.getElem?_eq_getElem hml]
      exact List.getElem_mem hml
    have hlen := h.len hG hf ht
    have hhas := has_ev acc (row.getD m 0) (by omega)
    by_cases e : row.getD m 0 = t
    · obtain ⟨acc', h1, h2, h3, h4⟩ := ih (m + 1) acc (by omega) h
      refine ⟨acc', h1, h2, fun y hy hw ha => ?_, fun r hr => ?_⟩
      · rw [hdrop] at hy
        rcases List.mem_cons.1 hy with q | q
        · exact absurd (q.trans e) hw
        · exact h3 y q hw ha
      · refine Ev.step (fun k => ?_) (h4 r hr)
        simp only [spec_LoopOf.l2]
        rw [if_pos (by omega), if_pos (by omega), if_pos (by omega), hval, if_pos e, w64 (by omega) (by omega)]
        rfl
    · by_cases ha : row.getD m 0 ∈ acc
      · have hb : Bk g fr t (row.getD m 0) := by
          rcases h.snd _ ha with h | h
          · exact absurd h e
          · exact h
        have hbi : Bk g fr t (i : Int) := .back hb e (by rw [Int.toNat_natCast, ← hrow]; exact hmem) (by omega) (by omega)
        obtain ⟨acc', h1, h2, h3, h4⟩ := ih (m + 1) (putL acc (i : Int)) (by omega) (h.put (.inr hbi))
        have hin : (i : Int) ∈ acc' := h2 _ ((putL_mem _ _ _).2 (.inr rfl))
        refine ⟨acc', h1, fun y hy => h2 y ((putL_mem _ _ _).2 (.inl hy)), fun y hy hw hya => hin, fun r hr => ?_⟩
        have hh := h4 r hr
        rw [show ((m + 1 : Nat) : Int) = (m : Int) + 1 from rfl] at hh
        refine Ev.step (fun k => ?_) (hhas.bind (f := fun k v => if v = true then (spec_l1Put.f k acc (i : Int)).bind fun w => spec_LoopOf.l2 k t w n0 (i : Int) g (g.length : Int) (i : Int) row (row.length : Int) ((m : Int) + 1) g else spec_LoopOf.l2 k t acc n0 (i : Int) g (g.length : Int) (i : Int) row (row.length : Int) ((m : Int) + 1) g) ?_)
        · simp only [spec_LoopOf.l2]
          rw [if_pos (by omega), if_pos (by omega), if_pos (by omega), hval, if_neg e, w64 (by omega) (by omega)]
        · rw [decide_eq_true ha]
          exact Ev.congr (fun k => by rw [if_pos rfl]) ((put_ev acc (i : Int) (by omega)).bind (f := fun k v => spec_LoopOf.l2 k t v n0 (i : Int) g (g.length : Int) (i : Int) row (row.length : Int) ((m : Int) + 1) g) hh)
      · obtain ⟨acc', h1, h2, h3, h4⟩ := ih (m + 1) acc (by omega) h
        refine ⟨acc', h1, h2, fun y hy hw hya => ?_, fun r hr => ?_⟩
        · rw [hdrop] at hy
          rcases List.mem_cons.1 hy with q | q
          · rw [q] at hya; exact absurd hya ha
          · exact h3 y q hw hya
        · have hh := h4 r hr
          rw [show ((m + 1 : Nat) : Int) = (m : Int) + 1 from rfl] at hh
          refine Ev.step (fun k => ?_) (hhas.bind (f := fun k v => if v = true then (spec_l1Put.f k acc (i : Int)).bind fun w => spec_LoopOf.l2 k t w n0 (i : Int) g (g.length : Int) (i : Int) row (row.length : Int) ((m : Int) + 1) g else spec_LoopOf.l2 k t acc n0 (i : Int) g (g.length : Int) (i : Int) row (row.length : Int) ((m : Int) + 1) g) ?_)
          · simp only [spec_LoopOf.l2]
            rw [if_pos (by omega), if_pos (by omega), if_pos (by omega), hval, if_neg e, w64 (by omega) (by omega)]
          · rw [decide_eq_false ha]
            exact Ev.congr (fun k => by rw [if_neg (by simp)]) hh
theorem loop_pass (hG : goodG g = true) (hf : 0 ≤ fr ∧ fr < (g.length : Int)) (ht : 0 ≤ t ∧ t < (g.length : Int)) (n0 : Int) :
    ∀ (d i : Nat) (acc : List Int), i + d = g.length → SndB g fr t acc → ∃ acc', SndB g fr t acc' ∧ (∀ y ∈ acc, y ∈ acc') ∧ (∀ j : Nat, i ≤ j → j < g.length → ∀ x ∈ g.getD j [], x ≠ t → x ∈ acc → (j : Int) ∈ acc') ∧
      ∀ r, Ev (fun k => if (acc'.length : Int) = n0 then some (acc', true) else spec_LoopOf.l0 k t acc' g) r → Ev (fun k => spec_LoopOf.l1 k t acc n0 g (g.length : Int) (i : Int) g) r := by
  have hr := goodG_rows hG
  intro d
  induction d with
  | zero =>
    intro i acc hi h
    refine ⟨acc, h, fun _ h => h, fun j h1 h2 => by omega, fun r hr => ?_⟩
    refine Ev.step (fun k => ?_) hr
    simp only [spec_LoopOf.l1]
    rw [if_neg (by omega)]
  | succ d ih =>
    intro i acc hi h
    have hil : i < g.length := by omega
    have er : rd_L1 g (i : Int) = g.getD i [] := rfl
    obtain ⟨a1, q1, q2, q3, q4⟩ := loop_row hG hf ht hil n0 (g.getD i []) rfl (g.getD i []).length 0 acc (by omega) h
    obtain ⟨acc', h1, h2, h3, h4⟩ := ih (i + 1) a1 (by omega) q1
    refine ⟨acc', h1, fun y hy => h2 y (q2 y hy), fun j j1 j2 y hy hw ha => ?_, fun r hr => ?_⟩
    · by_cases ej : j = i
      · subst ej
        exact h2 _ (q3 y (by rw [List.drop_zero]; exact hy) hw ha)
      · exact h3 j (by omega) j2 y hy hw (q2 _ ha)
    · refine Ev.step (fun k => ?_) (q4 r (h4 r hr))
      simp only [spec_LoopOf.l1]
      rw [if_pos (by omega), if_pos (by omega), if_pos (by omega), er]
      rfl
end
theorem loopL_mem {g : List (List Int)} (hG : goodG g = true) {fr t : Nat} (hf : fr < g.length) (ht : t < g.length) (y : Int) : y ∈ listTo (loopF g fr t) 12 ↔ (y = (t : Int) ∨ Bk g (fr : Int) (t : Int) y) := by
  have hr := goodG_rows hG
  rw [listTo_mem]
  unfold loopF loopTo
  constructor
  · rintro ⟨j, h1, rfl, h2⟩
    rw [rowF_get h1, Bool.and_eq_true, decide_eq_true_eq] at h2
    rcases (loopV_iff hG hf h2.1).1 h2.2 with h | h
    · exact .inl (by omega)
    · exact .inr h
  · intro h
    have hy : 0 ≤ y ∧ y < (g.length : Int) := by
      rcases h with h | h
      · omega
      · exact h.rng (by omega) (by omega)
    obtain ⟨j, rfl⟩ : ∃ j : Nat, y = (j : Int) := ⟨y.toNat, by omega⟩
    refine ⟨j, by omega, rfl, ?_⟩
    rw [rowF_get (by omega), Bool.and_eq_true, decide_eq_true_eq]
    refine ⟨by omega, (loopV_iff hG hf (by omega)).2 ?_⟩
    rcases h with h | h
    · exact .inl (by omega)
    · exact .inr h
theorem loop_all {g : List (List Int)} (hG : goodG g = true) {fr t : Nat} (hf : fr < g.length) (ht : t < g.length) : ∀ (m : Nat) (acc : List Int), SndB g (fr : Int) (t : Int) acc → (fr : Int) ∈ acc → (t : Int) ∈ acc → 13 ≤ acc.length + m → Ev (fun k => spec_LoopOf.l0 k (t : Int) acc g) (listTo (loopF g fr t) 12, true) := by
  intro m
  induction m with
  | zero => intro acc h _ _ hm; have := h.len hG (by omega) (by omega); omega
  | succ m ih =>
    intro acc h h0 h00 hm
    obtain ⟨acc', h1, h2, h3, h4⟩ := loop_pass hG (fr := (fr : Int)) (t := (t : Int)) (by omega) (by omega) (acc.length : Int) g.length 0 acc (by omega) h
    refine Ev.step (fun k => by simp only [spec_LoopOf.l0]; rfl) (h4 _ ?_)
    have hsub := srt_sub_len h.srt h1.srt h2
    by_cases e : acc'.length = acc.length
    · have eq := hsub.2 e.symm
      subst eq
      refine Ev.congr (fun k => by rw [if_pos rfl]) ?_
      have : acc = listTo (loopF g fr t) 12 := by
        refine srt_ext h.srt (listTo_srt _ _) (fun y => ?_)
        rw [loopL_mem hG hf ht]
        constructor
        · exact h.snd y
        · rintro (hy | hy)
          · rw [hy]; exact h00
          · induction hy with
            | self => exact h0
            | @back k x hx hxw hm hk0 hk1 ih2 =>
              have := h3 k.toNat (Nat.zero_le _) (by omega) x hm hxw ih2
              rwa [show ((k.toNat : Nat) : Int) = k by omega] at this
      rw [this]
      exact Ev.now _
    · refine Ev.congr (fun k => by rw [if_neg (by omega)]) (ih acc' h1 (h2 _ h0) (h2 _ h00) (by omega))
theorem edge_iff {g : List (List Int)} (hG : goodG g = true) {b t : Nat} (hb : b < g.length) (ht : t < g.length) : (beTo (domF g) g g.length).any (isEdge (b : Int) (t : Int)) = (decide ((t : Int) ∈ g.getD b []) && decide ((t : Int) ∈ (domL g).getD b [])) := by
  have hr := goodG_rows hG
  have hbit : ((domF g).getD b []).getD t false = decide ((t : Int) ∈ (domL g).getD b []) := by
    rw [Bool.eq_iff_iff, decide_eq_true_eq, domL_bit g hb (by omega)]
    unfold domF
    rw [matF_row hb, rowF_get (by omega)]
  rw [Bool.eq_iff_iff, Bool.and_eq_true, ← hbit, decide_eq_true_eq]
  constructor
  · intro h
    obtain ⟨b', h1, h2, h3, h4⟩ := isEdge_mem h
    obtain rfl : b' = b := by omega
    rw [Int.toNat_natCast] at h4
    exact ⟨h3, h4⟩
  · rintro ⟨h1, h2⟩
    refine List.any_eq_true.2 ⟨[(b : Int), (t : Int)], ?_, by unfold isEdge; rw [Bool.and_eq_true]; exact ⟨decide_eq_true rfl, decide_eq_true rfl⟩⟩
    unfold beTo beRow
    simp only [List.mem_flatMap, List.mem_range, List.mem_map, List.mem_filter]
    exact ⟨b, hb, (t : Int), ⟨h1, by rw [Int.toNat_natCast]; exact h2⟩, rfl⟩
theorem edge_none {g : List (List Int)} (hG : goodG g = true) {a1 a2 : Int} (h : a1 < 0 ∨ a1 ≥ (g.length : Int) ∨ a2 < 0 ∨ a2 ≥ (g.length : Int)) : (beTo (domF g) g g.length).any (isEdge a1 a2) = false := by
  have hr := goodG_rows hG
  rw [Bool.eq_false_iff]
  intro h2
  obtain ⟨b, h1, rfl, h3, h4⟩ := isEdge_mem h2
  have := goodG_row hG b a2 h3
  omega
theorem loopOf_core (g : List (List Int)) (a1 a2 : Int) (hg : Small g) : ∃ (s1 : List Int) (s2 : Bool), Ev (fun k => spec_LoopOf.f k g a1 a2) (s1, s2) ∧ impl_LoopOf.f g a1 a2 = some (s1, s2) ∧ s1.length ≤ 1048576 := by
  unfold impl_LoopOf.f spec_LoopOf.f
  have hj : Ev (fun k => spec_LoopOf.j0 k a1 a2 true g) ([], false) := Ev.step (f := fun _ => some ([], false)) (fun k => by simp only [spec_LoopOf.j0]; rw [if_pos trivial]) (Ev.now _)
  cases hG : goodG g with
  | false =>
    refine ⟨[], false, (specGoodGraph_ev g hg).bind ?_, by rw [Bool.false_and, if_neg (by simp)], by simp⟩
    rw [hG]
    exact Ev.congr (fun k => by rw [if_neg (by simp)]) hj
  | true =>
    by_cases h0 : a1 < 0
    · refine ⟨[], false, (specGoodGraph_ev g hg).bind ?_, by rw [edge_none hG (.inl h0)]; simp, by simp⟩
      rw [hG]
      exact Ev.congr (fun k => by rw [if_pos rfl, if_pos h0]) hj
    · by_cases h1 : a1 ≥ (g.length : Int)
      · refine ⟨[], false, (specGoodGraph_ev g hg).bind ?_, by rw [edge_none hG (.inr (.inl h1))]; simp, by simp⟩
        rw [hG]
        exact Ev.congr (fun k => by rw [if_pos rfl, if_neg h0, if_pos h1]) hj
      · by_cases h2 : a2 < 0
        · refine ⟨[], false, (specGoodGraph_ev g hg).bind ?_, by rw [edge_none hG (.inr (.inr (.inl h2)))]; simp, by simp⟩
          rw [hG]
          exact Ev.congr (fun k => by rw [if_pos rfl, if_neg h0, if_neg h1, if_pos h2]) hj
        · by_cases h3 : a2 ≥ (g.length : Int)
          · refine ⟨[], false, (specGoodGraph_ev g hg).bind ?_, by rw [edge_none hG (.inr (.inr (.inr h3)))]; simp, by simp⟩
            rw [hG]
            exact Ev.congr (fun k => by rw [if_pos rfl, if_neg h0, if_neg h1, if_neg h2, if_pos h3]) hj
          · obtain ⟨fr, rfl⟩ : ∃ k : Nat, a1 = (k : Int) := ⟨a1.toNat, by omega⟩
            obtain ⟨t, rfl⟩ : ∃ k : Nat, a2 = (k : Int) := ⟨a2.toNat, by omega⟩
            have hf : fr < g.length := by omega
            have ht : t < g.length := by omega
            have hsm := (goodG_small hG).at hf
            have he := edge_iff hG hf ht
            have er : rd_L1 g (fr : Int) = g.getD fr [] := rfl
            have er2 : rd_L1 (domL g) (fr : Int) = (domL g).getD fr [] := rfl
            have hd : spec_l10Dominators.f g = some (domL g) := by unfold spec_l10Dominators.f; rw [hG, if_pos rfl]
            have hdl := domL_length g
            have hd12 := domL_len12 (g := g) fr
            rw [Int.toNat_natCast, Int.toNat_natCast]
            by_cases hm : (t : Int) ∈ g.getD fr []
            · by_cases hm2 : (t : Int) ∈ (domL g).getD fr []
              · rw [decide_eq_true hm, decide_eq_true hm2] at he
                refine ⟨_, true, (specGoodGraph_ev g hg).bind ?_, by rw [he]; rfl, listTo_small _⟩
                rw [hG]
                refine Ev.congr (fun k => by rw [if_pos rfl, if_neg h0, if_neg h1, if_neg h2, if_neg h3, if_pos (by omega), if_pos (by omega), er]) ((has_ev (g.getD fr []) (t : Int) (by omega)).bind ?_)
                rw [decide_eq_true hm]
                refine Ev.congr (fun k => by rw [if_pos rfl, hd, Option.bind_some, if_pos (by omega), er2]) ((has_ev ((domL g).getD fr []) (t : Int) (by omega)).bind ?_)
                rw [decide_eq_true hm2]
                refine Ev.step (fun k => ?_) ((put_ev [(t : Int)] (fr : Int) (by simp)).bind (f := fun k v => spec_LoopOf.l0 k (t : Int) v g) ?_)
                · simp only [spec_LoopOf.j0]
                  rw [if_neg (by simp)]
                · have hs : SndB g (fr : Int) (t : Int) (putL [(t : Int)] (fr : Int)) := SndB.put ⟨by simp [Srt], fun y hy => .inl (List.mem_singleton.1 hy)⟩ (.inr .self)
                  exact loop_all hG hf ht 13 _ hs ((putL_mem _ _ _).2 (.inr rfl)) ((putL_mem _ _ _).2 (.inl (by simp))) (by omega)
              · rw [decide_eq_false hm2, Bool.and_false] at he
                refine ⟨[], false, (specGoodGraph_ev g hg).bind ?_, by rw [he]; simp, by simp⟩
                rw [hG]
                refine Ev.congr (fun k => by rw [if_pos rfl, if_neg h0, if_neg h1, if_neg h2, if_neg h3, if_pos (by omega), if_pos (by omega), er]) ((has_ev (g.getD fr []) (t : Int) (by omega)).bind ?_)
                rw [decide_eq_true hm]
                refine Ev.congr (fun k => by rw [if_pos rfl, hd, Option.bind_some, if_pos (by omega), er2]) ((has_ev ((domL g).getD fr []) (t : Int) (by omega)).bind ?_)
                rw [decide_eq_false hm2]
                exact hj
            · rw [decide_eq_false hm, Bool.false_and] at he
              refine ⟨[], false, (specGoodGraph_ev g hg).bind ?_, by rw [he]; simp, by simp⟩
              rw [hG]
              refine Ev.congr (fun k => by rw [if_pos rfl, if_neg h0, if_neg h1, if_neg h2, if_neg h3, if_pos (by omega), if_pos (by omega), er]) ((has_ev (g.getD fr []) (t : Int) (by omega)).bind ?_)
              rw [decide_eq_false hm]
              exact Ev.congr (fun k => by rw [if_neg (by simp)]) hj
theorem loopOf_law (g : List (List Int)) (a1 a2 : Int) (hn : g.length ≤ 9223372036854775807) (hl : Len (Len I64) g) (h1 : I64 a1) (h2 : I64 a2) : ∃ k, laws_FnExactLoopOf.ok k g a1 a2 := loopOf_of g a1 a2 hl (fun hg => loopOf_core g a1 a2 hg)
end Go.Proofs.Ytplcipjlkogadaa.Q
