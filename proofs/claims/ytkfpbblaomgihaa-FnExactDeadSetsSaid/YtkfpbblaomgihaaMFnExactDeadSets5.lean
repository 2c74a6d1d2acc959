import Derived.Test.YtkfpbblaomgihaaMFnExactDeadSets1
import Derived.Test.YtkfpbblaomgihaaMFnExactDeadSets2
import Derived.Test.YtkfpbblaomgihaaMFnExactDeadSets3
import Derived.Test.YtkfpbblaomgihaaMFnExactDeadSets4
set_option linter.unusedVariables false
set_option linter.unusedSimpArgs false
namespace Go.Proofs.Ytkfpbblaomgihaa.P
open Go.RowKit Go.Proofs.YtkfpbblaomgihaaW.PrintWords Go.Proofs.YtkfpbblaomgihaaW.PrintLast Go.Proofs.YtkfpbblaomgihaaW.PrintMore
attribute [local go_sem] max2_int min2_int max_two min_two max_three min_three max_four min_four
theorem eqN (W : World) (X Y : List Bool) (hX : X.length = 8) (hY : Y.length = 8) : (Op.equalIn 10000 78 (.agg (H.bcells X)) (.agg (H.bcells Y))).run Try.prog W = .ok (decide (X = Y)) W := by
  match X, hX, Y, hY with
  | [_, _, _, _, _, _, _, _], _, [_, _, _, _, _, _, _, _], _ => exact eq8 W _ _ _ _ _ _ _ _ _ _ _ _ _ _ _ _
theorem goodF_len {g : List (List Int)} {b : List S56} (h : goodF g b = true) : b.length = g.length ∧ 1 ≤ b.length ∧ b.length ≤ 12 := by
  unfold goodF H.goodG at h
  simp only [Bool.and_eq_true, decide_eq_true_eq] at h
  omega
theorem goodF_next {g : List (List Int)} {b : List S56} (h : goodF g b = true) {t : Nat} (ht : t < b.length) : ∀ k ∈ g.getD t [], 0 ≤ k ∧ k < (b.length : Int) := by
  have hl := goodF_len h
  unfold goodF H.goodG at h
  simp only [Bool.and_eq_true, decide_eq_true_eq] at h
  have h8 := List.all_eq_true.1 h.1.1.2 (g.getD t []) (by rw [List.getD_eq_getElem?_getD, List.getElem?_eq_getElem (by omega)]; exact List.getElem_mem _)
  intro k hk
  have := upB_mem h8 k hk
  omega
theorem goodF_blk {g : List (List Int)} {b : List S56} (h : goodF g b = true) {t : Nat} (ht : t < b.length) : H.upB (b.getD t z56).f0 0 7 0 = true ∧ H.upB (b.getD t z56).f1 0 7 0 = true := by
  unfold goodF at h
  simp only [Bool.and_eq_true, decide_eq_true_eq] at h
  have h8 := List.all_eq_true.1 h.2 (b.getD t z56) (by rw [List.getD_eq_getElem?_getD, List.getElem?_eq_getElem ht]; exact List.getElem_mem ht)
  unfold okBlock at h8
  simpa using h8
def nextF (g : List (List Int)) (b : List S56) (M : List (List Bool)) (t : Nat) : List Bool := thrU (thrS (outF g M t) (b.getD t z56).f1) (b.getD t z56).f0
theorem nextF_len {g : List (List Int)} {b : List S56} (h : goodF g b = true) {M : List (List Bool)} (hM : H.Mat 8 M) (hl : M.length = b.length) {t : Nat} (ht : t < b.length) : (nextF g b M t).length = 8 := by
  unfold nextF
  rw [thrU_len, thrS_len]
  exact outF_len _ _ _ hM (by rw [hl]; exact goodF_next h ht)
def passF (g : List (List Int)) (b : List S56) : Nat → List (List Bool) → Nat → Bool → List (List Bool) × Bool
  | 0, M, _, ag => (M, ag)
  | d + 1, M, t, ag => if nextF g b M t = M.getD t [] then passF g b d M (t + 1) ag else passF g b d (M.set t (nextF g b M t)) (t + 1) true
def liveL (g : List (List Int)) (b : List S56) : Nat → List (List Bool) → Option (List (List Bool))
  | 0, _ => none
  | k + 1, M => if (passF g b b.length M 0 false).2 then liveL g b k (passF g b b.length M 0 false).1 else some (passF g b b.length M 0 false).1
set_option maxHeartbeats 8000000 in
set_option maxRecDepth 100000 in
theorem impl_live.calls (k : Nat) (p : Addr) (A0 : Option Addr) (c0 : Nat) (g : List (List Int)) (A1 : Option Addr) (c1 : Nat) (bl : List S56) (R : List (List Bool)) (w : World)
    (hp0 : w.cell? p = some (.slice A0 g.length c0)) (hp1 : w.cell? ⟨p.block, p.off + 1, none⟩ = some (.slice A1 bl.length c1))
    (hr0 : Kd.C (Kd.slice 3 (Kd.int .i64)) w A0 g.length g) (hr1 : Kd.C k56 w A1 bl.length bl) (hg : goodF g bl = true) (h : liveL g bl k (List.replicate bl.length (List.replicate 8 false)) = some R) :
    Calls Try.prog 66 #[.pointer (some p)] w fun e w' => ∃ gm, e = .returned (.slice (some ⟨gm, 0, none⟩) bl.length bl.length) ∧ R.length = bl.length ∧ H.Mat 8 R ∧ H.Own w w' [(gm, H.bcells R.flatten, 78)] := by
  have hlen := goodF_len hg
  have hn1 := hr1.2.1
  have HP0 := Aside0.mk hp0
  have HP1 := Aside0.mk hp1
  have HR0 := Aside0.mk hr0
  have HR1 := Aside0.mk hr1
  have HG := Aside0.mk hg
  have HLEN := Aside0.mk hlen
  have HL := Aside0.mk h
  clear hp0 hr0 hr1 hg h
  have hl1 : 1 ≤ bl.length := hlen.2.1
  have hl2 : bl.length ≤ 12 := hlen.2.2
  clear hlen
  have HO := Aside0.mk (H.Own.nil w)
  have hmk : ∀ W : World, (Instr.makeSlice 76 (.int .i64 (bl.length : Int)) (.int .i64 (bl.length : Int))).run Try.prog W = .ok (.slice (some ⟨W.heap.size, 0, none⟩) bl.length bl.length) (W.alloc (.cells (H.bcells (List.replicate bl.length (List.replicate 8 false)).flatten) 78)) := fun W => make_names W bl.length (by omega)
  go_enter Try.func66, Try.ntmps66
  go_wp2_with ((with_reducible refine gate_dst (N := 12) rfl ?_); refine H.own_make HO.out ?hg (N := 12) ?hd (n := bl.length) (cs := H.bcells (List.replicate bl.length (List.replicate 8 false)).flatten) (t := 78) ?hr ?_; (case hd => rfl); (case hg => rfl); (case hr => first | (go_simp; done) | (go_simp; rfl)); intro gs w_ ho_ hb_; clear hmk; replace HO := Aside0.mk ho_; clear ho_ hb_)
  clear hp1
  go_loopg [4] k (fun kq v4 wr => ∃ (ag : Bool) (M : List (List Bool)), v4 = .bool ag ∧ Aside0 (M.length = bl.length) ∧ Aside0 (H.Mat 8 M) ∧ Aside0 (if ag then liveL g bl kq M = some R else M = R) ∧ Aside0 (kq ≤ k) ∧ Aside0 (H.Own w wr [(gs, H.bcells M.flatten, 78)]))
  case atStart => exact ⟨true, _, rfl, ⟨by simp⟩, ⟨H.Mat.rep _ _⟩, ⟨by rw [if_pos rfl]; exact HL.out⟩, ⟨Nat.le_refl _⟩, HO⟩
  case round =>
    clear HO HL
    obtain ⟨ag, M, rfl, HML, HMM, HA, HK, HO⟩ := hrel
    cases ag with
    | false =>
      have hA := HA.out
      rw [if_neg (by simp)] at hA
      subst hA
      go_wp2
      go_ret
      exact ⟨gs, rfl, HML.out, HMM.out, HO.out⟩
    | true =>
      have hA := HA.out
      rw [if_pos rfl] at hA
      cases gk with
      | zero => exact absurd hA (by simp [liveL])
      | succ k1 =>
        have HA' := Aside0.mk hA
        clear hA HA
        have hx1 := HO.out.old HP1.out
        go_wp2
        go_loopw [19, 4] (fun v19 v4 wr => ∃ (t : Nat) (M2 : List (List Bool)) (ag2 : Bool), v19 = .int .i64 t ∧ v4 = .bool ag2 ∧ t ≤ bl.length ∧ Aside0 (M2.length = bl.length) ∧ Aside0 (H.Mat 8 M2) ∧ Aside0 (passF g bl (bl.length - t) M2 t ag2 = passF g bl bl.length M 0 false) ∧ Aside0 (H.Own w wr [(gs, H.bcells M2.flatten, 78)])) (fun v19 _ _ => bl.length - (intOf v19).toNat)
        case atStart => exact ⟨0, M, false, rfl, rfl, Nat.zero_le _, HML, HMM, ⟨rfl⟩, HO⟩
        case round =>
          clear HO hx1 HML HMM
          obtain ⟨t, M2, ag2, rfl, rfl, ht, HML, HMM, HE, HO⟩ := hrel
          by_cases hlt : t < bl.length
          · obtain ⟨adb, A3, c3', B3, d3, e3, h0, h1, h2, h3, h4, h5⟩ := at_T56 HR1.out (t : Int) (by omega) (by omega)
            cases e3
            rw [Int.toNat_natCast] at h0 h1
            have hxb : rd_T56 bl (t : Int) = bl.getD t z56 := rfl
            rw [hxb] at h0 h1 h2 h3 h4 h5
            have hokb := goodF_blk HG.out hlt
            have hnx := goodF_next HG.out hlt
            have hX1L := nextF_len HG.out HMM.out HML.out hlt
            have hE := HE.out
            obtain ⟨d, hd⟩ : ∃ d, bl.length - t = d + 1 := ⟨bl.length - t - 1, by omega⟩
            rw [hd, passF] at hE
            have HLT := Aside0.mk hlt
            have hrow : (M2.getD t []).length = 8 := HMM.out.row (by rw [HML.out]; exact hlt)
            have HOUT : Aside0 (∀ W, H.Own w W [(gs, H.bcells M2.flatten, 78)] → Calls Try.prog 63 #[.pointer (some p), .slice (some ⟨gs, 0, none⟩) bl.length bl.length, .int .i64 t] W fun e w' => e = .returned (.agg (H.bcells (outF g M2 t))) ∧ Below W.heap.size W w') := ⟨fun W hO => by
              have := impl_out.calls p A0 c0 g gs M2 t W (hO.old HP0.out) (Kd.C_below HR0.out hO.below) (hO.get 0 rfl) HMM.out (by have := HLEN.out.1; have := HLT.out; omega) (by rw [HML.out]; exact hnx)
              rw [HML.out] at this
              exact this⟩
            have HTHR : Aside0 (∀ W L, H.Own w W L → Calls Try.prog 62 #[.pointer (some (adb.add (t * 2))), .agg (H.bcells (outF g M2 t))] W fun e w' => e = .returned (.agg (H.bcells (nextF g bl M2 t))) ∧ Below W.heap.size W w') := ⟨fun W L hO => impl_through.calls (adb.add (t * 2)) A3 c3' _ B3 d3 _ (outF g M2 t) W (hO.old h0) (hO.old h1) (Kd.C_below h3 hO.below) (Kd.C_below h5 hO.below) (upB_mem hokb.1) (upB_mem hokb.2) (outF_len _ _ _ HMM.out (by rw [HML.out]; exact hnx))⟩
            have HROW := Aside0.mk hrow
            clear h0 h1 h2 h3 h4 h5 hxb hokb hnx hrow
            obtain ⟨X0, hX0⟩ : ∃ X0, outF g M2 t = X0 := ⟨_, rfl⟩
            rw [hX0] at HOUT HTHR
            clear hX0
            obtain ⟨X1, hX1⟩ : ∃ X1, nextF g bl M2 t = X1 := ⟨_, rfl⟩
            rw [hX1] at HTHR hE hX1L
            clear hX1
            have HX1L := Aside0.mk hX1L
            have HE' := Aside0.mk hE
            have HD := Aside0.mk hd
            clear hE hd hX1L HE
            go_wp2
            replace HO := Aside0.mk HO.out.drew
            refine start_ (n := 13) (S := fun w' => w'.cell? ⟨p.block, p.off + 1, none⟩ = some (.slice (some adb) bl.length c1)) (ds := []) #[false, false, false, false, false, false, false, false, false, false, false, false, false] (by kernel_rfl) rfl rfl ((HO.out.old HP1.out)) (fun hHeld => ?_)
            refine pure_ (i := 0) (N := some 22) (v := ?_) (a' := ?_) #[true, false, false, false, false, false, false, false, false, false, false, false, false] rfl rfl (by kernel_rfl) (fun _ _ _ h => h) (Or.inl ⟨by rfl, ?_⟩) ?_ ?_
            rotate_left
            · intro w'
              go_simp
              with_reducible rfl
            rotate_left
            · simp only [Act.put, List.setIfInBounds_toArray, List.set_cons_zero, List.set_cons_succ, i64_w, i32_w]
              rfl
            refine pure_ (i := 1) (N := some 23) (v := ?_) (a' := ?_) #[true, true, false, false, false, false, false, false, false, false, false, false, false] rfl rfl (by kernel_rfl) (fun _ _ _ h => h) (Or.inl ⟨by rfl, ?_⟩) ?_ ?_
            rotate_left
            · intro w'
              go_simp
              with_reducible rfl
            rotate_left
            · simp only [Act.put, List.setIfInBounds_toArray, List.set_cons_zero, List.set_cons_succ, i64_w, i32_w]
              rfl
            refine pure_ (i := 2) (N := some 24) (v := ?_) (a' := ?_) #[true, true, true, false, false, false, false, false, false, false, false, false, false] rfl rfl (by kernel_rfl) (fun _ _ _ h => h) (Or.inl ⟨by rfl, ?_⟩) ?_ ?_
            rotate_left
            · intro w'
              go_simp
              with_reducible rfl
            rotate_left
            · simp only [Act.put, List.setIfInBounds_toArray, List.set_cons_zero, List.set_cons_succ, i64_w, i32_w]
              rfl
            refine pure_ (i := 4) (N := some 26) (v := ?_) (a' := ?_) #[true, true, true, false, true, false, false, false, false, false, false, false, false] rfl rfl (by kernel_rfl) (fun _ _ _ h => h) (Or.inl ⟨by rfl, ?_⟩) ?_ ?_
            rotate_left
            · intro w'
              go_simp
              with_reducible rfl
            rotate_left
            · simp only [Act.put, List.setIfInBounds_toArray, List.set_cons_zero, List.set_cons_succ, i64_w, i32_w]
              rfl
            refine pure_ (i := 6) (N := some 28) (v := ?_) (a' := ?_) #[true, true, true, false, true, false, true, false, false, false, false, false, false] rfl rfl (by kernel_rfl) (fun _ _ _ h => h) (Or.inl ⟨by rfl, ?_⟩) ?_ ?_
            rotate_left
            · intro w'
              go_simp
              with_reducible rfl
            rotate_left
            · simp only [Act.put, List.setIfInBounds_toArray, List.set_cons_zero, List.set_cons_succ, i64_w, i32_w]
              rfl
            refine pure_ (i := 7) (N := some 29) (v := ?_) (a' := ?_) #[true, true, true, false, true, false, true, true, false, false, false, false, false] rfl rfl (by kernel_rfl) (fun _ _ _ h => h) (Or.inl ⟨by rfl, ?_⟩) ?_ ?_
            rotate_left
            · intro w'
              go_simp
              with_reducible rfl
            rotate_left
            · simp only [Act.put, List.setIfInBounds_toArray, List.set_cons_zero, List.set_cons_succ, i64_w, i32_w]
              rfl
            refine pure_ (i := 8) (N := some 30) (v := ?_) (a' := ?_) #[true, true, true, false, true, false, true, true, true, false, false, false, false] rfl rfl (by kernel_rfl) (fun _ _ _ h => h) (Or.inl ⟨by rfl, ?_⟩) ?_ ?_
            rotate_left
            · intro w'
              go_simp
              with_reducible rfl
            rotate_left
            · simp only [Act.put, List.setIfInBounds_toArray, List.set_cons_zero, List.set_cons_succ, i64_w, i32_w]
              rfl
            refine take_ (i := 3) (N := some 25) (v := ?_) (a' := ?_) #[true, true, true, true, true, false, true, true, true, false, false, false, false] rfl rfl (by kernel_rfl) (fun _ _ _ h => h) (Or.inl ⟨by rfl, ?_⟩) hHeld ?_ ?_
            rotate_left
            · intro w' s0
              go_simp
              with_reducible rfl
            rotate_left
            · simp only [Act.put, List.setIfInBounds_toArray, List.set_cons_zero, List.set_cons_succ, i64_w, i32_w]
              rfl
            refine pure_ (i := 5) (N := some 27) (v := ?_) (a' := ?_) #[true, true, true, true, true, true, true, true, true, false, false, false, false] rfl rfl (by kernel_rfl) (fun _ _ _ h => h) (Or.inl ⟨by rfl, ?_⟩) ?_ ?_
            rotate_left
            · intro w'
              go_simp
              with_reducible rfl
            rotate_left
            · simp only [Act.put, List.setIfInBounds_toArray, List.set_cons_zero, List.set_cons_succ, i64_w, i32_w]
              rfl
            refine join_ (σ := Nat) 1 #[true, true, true, true, true, true, true, true, true, true, true, true, false] (fun s => [(31, .agg (H.bcells X0)), (32, .agg (H.bcells X1)), (6, .pointer (some ⟨s, 0, none⟩))]) (fun s w1 => w1.cell? ⟨p.block, p.off + 1, none⟩ = some (.slice (some adb) bl.length c1) ∧ Aside0 (H.Own w w1 [(gs, H.bcells M2.flatten, 78), (s, H.bcells (List.replicate 8 false), 78)])) ?_ ?_
            rotate_left
            · intro hCont
              refine two_ (i := 9) (j := 11) (Ni := some 31) (Nj := some 6) #[true, true, true, true, true, true, true, true, true, true, false, false, false] #[true, true, true, true, true, true, true, true, true, false, false, true, false] rfl rfl rfl rfl (by kernel_rfl) (by decide) (by decide) (fun K hK => ?_) (fun K hK => ?_)
              · skip
                refine goes_ Try.func63 (by kernel_rfl) rfl #[.pointer (some p), .slice (some ⟨gs, 0, none⟩) bl.length bl.length, .int .i64 t] (by rfl) rfl rfl (by simp only [List.map_toArray, List.map_cons, List.map_nil]; rfl) ?_
                with_reducible refine (HOUT.out _ (HO.out.take (by simp))).mono ?_
                rintro e w3 ⟨rfl, hb⟩
                refine ⟨_, rfl, ?_⟩
                replace HO := Aside0.mk (HO.out.step hb)
                clear hb
                refine hK.out _ _ ((HO.out.old HP1.out)) (fun hHeld => ?_)
                clear hK K
                refine norm_ (a' := ?_) ?_ ?_
                rotate_left
                · show Act.put _ (some 31) _ = _
                  simp only [Act.put, List.setIfInBounds_toArray, List.set_cons_zero, List.set_cons_succ, i64_w, i32_w]
                  rfl
                refine two_ (i := 10) (j := 11) (Ni := some 32) (Nj := some 6) #[true, true, true, true, true, true, true, true, true, true, true, false, false] #[true, true, true, true, true, true, true, true, true, true, false, true, false] rfl rfl rfl rfl (by kernel_rfl) (by decide) (by decide) (fun K hK => ?_) (fun K hK => ?_)
                · skip
                  refine goes_ Try.func62 (by kernel_rfl) rfl #[.pointer (some (adb.add (t * 2))), .agg (H.bcells X0)] (by rfl) rfl rfl (by simp only [List.map_toArray, List.map_cons, List.map_nil]; rfl) ?_
                  with_reducible refine (HTHR.out _ _ HO.out).mono ?_
                  rintro e w3 ⟨rfl, hb⟩
                  refine ⟨_, rfl, ?_⟩
                  replace HO := Aside0.mk (HO.out.step hb)
                  clear hb
                  refine hK.out _ _ ((HO.out.old HP1.out)) (fun hHeld => ?_)
                  clear hK K
                  refine norm_ (a' := ?_) ?_ ?_
                  rotate_left
                  · show Act.put _ (some 32) _ = _
                    simp only [Act.put, List.setIfInBounds_toArray, List.set_cons_zero, List.set_cons_succ, i64_w, i32_w]
                    rfl
                  refine one_ (i := 11) (N := some 6) #[true, true, true, true, true, true, true, true, true, true, true, true, false] rfl rfl (by kernel_rfl) (by decide) (fun K hK => ?_)
                  refine H.own_box_step HO.out (by rfl) (cs := H.bcells (List.replicate 8 false)) (t := 78) ?_ ?_
                  · first | (go_simp; done) | (go_simp; rfl)
                  intro gx w_ ho_ hb_
                  replace HO := Aside0.mk ho_
                  clear ho_ hb_
                  refine hK.out _ _ ((HO.out.old HP1.out)) (fun hHeld => ?_)
                  clear hK K
                  refine norm_ (a' := ?_) ?_ ?_
                  rotate_left
                  · show Act.put _ (some 6) _ = _
                    simp only [Act.put, List.setIfInBounds_toArray, List.set_cons_zero, List.set_cons_succ, i64_w, i32_w]
                    rfl
                  exact norm_ (by simp only [putAll, Act.put, List.setIfInBounds_toArray, List.set_cons_zero, List.set_cons_succ]) (hCont gx _ ⟨HO.out.old HP1.out, HO⟩)
                · skip
                  refine H.own_box_step HO.out (by rfl) (cs := H.bcells (List.replicate 8 false)) (t := 78) ?_ ?_
                  · first | (go_simp; done) | (go_simp; rfl)
                  intro gx w_ ho_ hb_
                  replace HO := Aside0.mk ho_
                  clear ho_ hb_
                  refine hK.out _ _ ((HO.out.old HP1.out)) (fun hHeld => ?_)
                  clear hK K
                  refine norm_ (a' := ?_) ?_ ?_
                  rotate_left
                  · show Act.put _ (some 6) _ = _
                    simp only [Act.put, List.setIfInBounds_toArray, List.set_cons_zero, List.set_cons_succ, i64_w, i32_w]
                    rfl
                  refine one_ (i := 10) (N := some 32) #[true, true, true, true, true, true, true, true, true, true, true, true, false] rfl rfl (by kernel_rfl) (by decide) (fun K hK => ?_)
                  refine goes_ Try.func62 (by kernel_rfl) rfl #[.pointer (some (adb.add (t * 2))), .agg (H.bcells X0)] (by rfl) rfl rfl (by simp only [List.map_toArray, List.map_cons, List.map_nil]; rfl) ?_
                  with_reducible refine (HTHR.out _ _ HO.out).mono ?_
                  rintro e w3 ⟨rfl, hb⟩
                  refine ⟨_, rfl, ?_⟩
                  replace HO := Aside0.mk (HO.out.step hb)
                  clear hb
                  refine hK.out _ _ ((HO.out.old HP1.out)) (fun hHeld => ?_)
                  clear hK K
                  refine norm_ (a' := ?_) ?_ ?_
                  rotate_left
                  · show Act.put _ (some 32) _ = _
                    simp only [Act.put, List.setIfInBounds_toArray, List.set_cons_zero, List.set_cons_succ, i64_w, i32_w]
                    rfl
                  exact norm_ (by simp only [putAll, Act.put, List.setIfInBounds_toArray, List.set_cons_zero, List.set_cons_succ]) (hCont gx _ ⟨HO.out.old HP1.out, HO⟩)
              · skip
                refine H.own_box_step HO.out (by rfl) (cs := H.bcells (List.replicate 8 false)) (t := 78) ?_ ?_
                · first | (go_simp; done) | (go_simp; rfl)
                intro gx w_ ho_ hb_
                replace HO := Aside0.mk ho_
                clear ho_ hb_
                refine hK.out _ _ ((HO.out.old HP1.out)) (fun hHeld => ?_)
                clear hK K
                refine norm_ (a' := ?_) ?_ ?_
                rotate_left
                · show Act.put _ (some 6) _ = _
                  simp only [Act.put, List.setIfInBounds_toArray, List.set_cons_zero, List.set_cons_succ, i64_w, i32_w]
                  rfl
                refine one_ (i := 9) (N := some 31) #[true, true, true, true, true, true, true, true, true, true, false, true, false] rfl rfl (by kernel_rfl) (by decide) (fun K hK => ?_)
                refine goes_ Try.func63 (by kernel_rfl) rfl #[.pointer (some p), .slice (some ⟨gs, 0, none⟩) bl.length bl.length, .int .i64 t] (by rfl) rfl rfl (by simp only [List.map_toArray, List.map_cons, List.map_nil]; rfl) ?_
                with_reducible refine (HOUT.out _ (HO.out.take (by simp))).mono ?_
                rintro e w3 ⟨rfl, hb⟩
                refine ⟨_, rfl, ?_⟩
                replace HO := Aside0.mk (HO.out.step hb)
                clear hb
                refine hK.out _ _ ((HO.out.old HP1.out)) (fun hHeld => ?_)
                clear hK K
                refine norm_ (a' := ?_) ?_ ?_
                rotate_left
                · show Act.put _ (some 31) _ = _
                  simp only [Act.put, List.setIfInBounds_toArray, List.set_cons_zero, List.set_cons_succ, i64_w, i32_w]
                  rfl
                refine one_ (i := 10) (N := some 32) #[true, true, true, true, true, true, true, true, true, true, true, true, false] rfl rfl (by kernel_rfl) (by decide) (fun K hK => ?_)
                refine goes_ Try.func62 (by kernel_rfl) rfl #[.pointer (some (adb.add (t * 2))), .agg (H.bcells X0)] (by rfl) rfl rfl (by simp only [List.map_toArray, List.map_cons, List.map_nil]; rfl) ?_
                with_reducible refine (HTHR.out _ _ HO.out).mono ?_
                rintro e w3 ⟨rfl, hb⟩
                refine ⟨_, rfl, ?_⟩
                replace HO := Aside0.mk (HO.out.step hb)
                clear hb
                refine hK.out _ _ ((HO.out.old HP1.out)) (fun hHeld => ?_)
                clear hK K
                refine norm_ (a' := ?_) ?_ ?_
                rotate_left
                · show Act.put _ (some 32) _ = _
                  simp only [Act.put, List.setIfInBounds_toArray, List.set_cons_zero, List.set_cons_succ, i64_w, i32_w]
                  rfl
                exact norm_ (by simp only [putAll, Act.put, List.setIfInBounds_toArray, List.set_cons_zero, List.set_cons_succ]) (hCont gx _ ⟨HO.out.old HP1.out, HO⟩)
            rintro gx w1 ⟨hHeld, HO⟩
            refine norm_ (a' := ?_) ?_ ?_
            rotate_left
            · simp only [putAll, Act.put, List.setIfInBounds_toArray, List.set_cons_zero, List.set_cons_succ]
              rfl
            refine one_ (i := 12) (N := none) #[true, true, true, true, true, true, true, true, true, true, true, true, true] rfl rfl (by kernel_rfl) (by decide) (fun K hK => ?_)
            refine H.own_ball_step HO.out (by rfl) 1 (bs' := X1) rfl rfl rfl rfl rfl (by kernel_rfl) HX1L.out ?_
            intro w_ ho_ hg_
            replace HO := Aside0.mk ho_
            clear ho_ hg_
            refine hK.out _ _ ((HO.out.old HP1.out)) (fun hHeld => ?_)
            clear hK K
            refine done_ (by kernel_rfl) ?_
            clear HOUT HTHR
            obtain ⟨row, hrow⟩ : ∃ row, M2.getD t [] = row := ⟨_, rfl⟩
            have hRL := HROW.out
            rw [hrow] at hRL
            have HRL := Aside0.mk hRL
            have HRW := Aside0.mk hrow
            have hE := HE'.out
            rw [hrow] at hE
            have heq := fun W => eqN W X1 row HX1L.out hRL
            have hi78 : (Try.prog.info? 78).map (·.size) = some 8 := by kernel_rfl
            have HI := Aside0.mk hi78
            have htl : (t : Int) < (bl.length : Int) := by omega
            clear hRL HROW hrow hi78 HE'
            obtain ⟨dd, hdd⟩ : ∃ dd, decide (X1 = row) = dd := ⟨_, rfl⟩
            rw [hdd] at heq
            have HDD := Aside0.mk hdd
            have HE2 := Aside0.mk hE
            clear hdd hE
            go_wp2
            replace HO := Aside0.mk HO.out.drew
            refine start_ (n := 6) (S := fun w' => w'.rangeAt gx 0 (X1.map Value.bool) ∧ w'.rangeAt gs (t * 8) (row.map Value.bool)) (ds := []) #[false, false, false, false, false, false] (by kernel_rfl) rfl rfl ⟨(HO.out.brange 1 rfl), (by rw [← HRW.out]; exact HO.out.mrange 0 (n := 8) rfl HMM.out (by rw [HML.out]; exact HLT.out))⟩ (fun hHeld => ?_)
            refine pure_ (i := 1) (N := some 34) (v := ?_) (a' := ?_) #[false, true, false, false, false, false] rfl rfl (by kernel_rfl) (fun _ _ _ h => h) (Or.inl ⟨by rfl, ?_⟩) ?_ ?_
            rotate_left
            · intro w'
              go_simp
              with_reducible rfl
            rotate_left
            · simp only [Act.put, List.setIfInBounds_toArray, List.set_cons_zero, List.set_cons_succ, i64_w, i32_w]
              rfl
            refine pure_ (i := 2) (N := some 35) (v := ?_) (a' := ?_) #[false, true, true, false, false, false] rfl rfl (by kernel_rfl) (fun _ _ _ h => h) (Or.inl ⟨by rfl, ?_⟩) ?_ ?_
            rotate_left
            · intro w'
              go_simp
              with_reducible rfl
            rotate_left
            · simp only [Act.put, List.setIfInBounds_toArray, List.set_cons_zero, List.set_cons_succ, i64_w, i32_w]
              rfl
            refine pure_ (i := 3) (N := some 36) (v := ?_) (a' := ?_) #[false, true, true, true, false, false] rfl rfl (by kernel_rfl) (fun _ _ _ h => h) (Or.inl ⟨by rfl, ?_⟩) ?_ ?_
            rotate_left
            · intro w'
              go_simp
              with_reducible rfl
            rotate_left
            · simp only [Act.put, List.setIfInBounds_toArray, List.set_cons_zero, List.set_cons_succ, i64_w, i32_w]
              rfl
            refine take_ (i := 0) (N := some 33) (v := .agg (H.bcells X1)) (a' := ?_) #[true, true, true, true, false, false] rfl rfl (by kernel_rfl) (fun _ _ _ h => h) (yieldsIf_load_mid (by rfl) 78 (.tmp 6) rfl gx 0 rfl (X1.map Value.bool) _ (fun W h => h.1) Try.underlying78 rfl (by rw [List.length_map, HX1L.out]; exact HI.out)) hHeld ?_ ?_
            rotate_left
            · simp only [Act.put, List.setIfInBounds_toArray, List.set_cons_zero, List.set_cons_succ, i64_w, i32_w]
              rfl
            refine take_ (i := 4) (N := some 37) (v := .agg (H.bcells row)) (a' := ?_) #[true, true, true, true, true, false] rfl rfl (by kernel_rfl) (fun _ _ _ h => h) (yieldsIf_load_mid (by rfl) 78 (.tmp 36) rfl gs (t * 8) rfl (row.map Value.bool) _ (fun W h => h.2) Try.underlying78 rfl (by rw [List.length_map, HRL.out]; exact HI.out)) hHeld ?_ ?_
            rotate_left
            · simp only [Act.put, List.setIfInBounds_toArray, List.set_cons_zero, List.set_cons_succ, i64_w, i32_w]
              rfl
            refine pure_ (i := 5) (N := some 38) (v := ?_) (a' := ?_) #[true, true, true, true, true, true] rfl rfl (by kernel_rfl) (fun _ _ _ h => h) (Or.inl ⟨by rfl, ?_⟩) ?_ ?_
            rotate_left
            · intro w'
              go_simp
              with_reducible rfl
            rotate_left
            · simp only [Act.put, List.setIfInBounds_toArray, List.set_cons_zero, List.set_cons_succ, i64_w, i32_w]
              rfl
            refine done_ (by kernel_rfl) ?_
            clear heq
            have hE := HE2.out
            cases dd with
            | true =>
              have hd := of_decide_eq_true HDD.out
              rw [if_pos hd] at hE
              have HE3 := Aside0.mk hE
              clear hE hd
              go_wp2
              go_roundw
              case rel => exact ⟨t + 1, M2, ag2, by go_num, rfl, by omega, HML, HMM, ⟨by have := HD.out; rw [show bl.length - (t + 1) = d by omega]; exact HE3.out⟩, ⟨HO.out.take (by simp)⟩⟩
              case measure => simp [intOf]; omega
            | false =>
              have hd := of_decide_eq_false HDD.out
              rw [if_neg hd] at hE
              have HE3 := Aside0.mk hE
              clear hE hd
              go_wp2_with (first | ((with_reducible refine gate_dst (N := 41) rfl ?_); refine wpList_load_row rfl 78 (.tmp 6) rfl _ rfl 78 _ (0, 0) _ (HO.out.get 1 rfl) Try.underlying78 rfl (by rw [H.bcells_size, HX1L.out]; exact HI.out) ?_) | ((with_reducible refine gate_store (t := 78) (p := 42) rfl ?_); refine H.own_mrow HO.out 0 (n := 8) (r := X1) rfl HMM.out rfl rfl rfl rfl rfl (by kernel_rfl) (by rw [HML.out]; exact HLT.out) HX1L.out ?_; intro w_ ho_ hg_; replace HO := Aside0.mk ho_; clear ho_ hg_))
              go_roundw
              case rel => exact ⟨t + 1, M2.set t X1, true, by go_num, rfl, by omega, ⟨by rw [List.length_set]; exact HML.out⟩, ⟨HMM.out.set t HX1L.out⟩, ⟨by have := HD.out; rw [show bl.length - (t + 1) = d by omega]; exact HE3.out⟩, ⟨HO.out.take (by simp)⟩⟩
              case measure => simp [intOf]; omega
          · have hE : t = bl.length := by omega
            subst hE
            have hE := HE.out
            rw [Nat.sub_self, passF] at hE
            have hA := HA'.out
            rw [liveL, ← hE] at hA
            have HA := Aside0.mk hA
            clear hA hE HE
            go_wp2
            go_roundg k1
            case measure => have := HK.out; omega
            case rel => exact ⟨ag2, M2, rfl, HML, HMM, ⟨by have := HA.out; cases ag2 <;> simpa using this⟩, ⟨by have := HK.out; omega⟩, HO⟩
end Go.Proofs.Ytkfpbblaomgihaa.P

namespace Go.Proofs.Ytkfpbblaomgihaa.P
open Go.RowKit Go.Proofs.YtkfpbblaomgihaaW.PrintWords Go.Proofs.YtkfpbblaomgihaaW.PrintLast Go.Proofs.YtkfpbblaomgihaaW.PrintMore
attribute [local go_sem] max2_int min2_int max_two min_two max_three min_three max_four min_four
def listTo (bs : List Bool) (i : Nat) : List Int := ((List.range i).filter (fun j => bs.getD j false)).map (fun j : Nat => (j : Int))
theorem listTo_len (bs : List Bool) (i : Nat) : (listTo bs i).length ≤ i := by
  unfold listTo
  rw [List.length_map]
  exact Nat.le_trans (List.length_filter_le _ _) (by rw [List.length_range]; exact Nat.le_refl _)
theorem listTo_step (bs : List Bool) (i : Nat) : listTo bs (i + 1) = if bs.getD i false then listTo bs i ++ [(i : Int)] else listTo bs i := by
  unfold listTo
  rw [List.range_succ, List.filter_append, List.map_append]
  cases h : bs.getD i false with
  | true =>
    rw [if_pos rfl]
    congr 1
    rw [List.filter_cons, h, if_pos rfl]
    rfl
  | false =>
    rw [if_neg (by simp), List.filter_cons, h, if_neg (by simp)]
    simp
set_option maxHeartbeats 8000000 in
set_option maxRecDepth 100000 in
theorem impl_list.calls (gb off : Nat) (bs : List Bool) (w : World) (hr : w.rangeAt gb off (bs.map Value.bool)) (hb : bs.length = 8) :
    Calls Try.prog 79 #[.pointer (some ⟨gb, off, none⟩)] w fun e w' => ∃ v0_ : Value, e = .returned v0_ ∧ Kd.R (Kd.int .i64) 3 w' w.heap.size (fun _ => True) v0_ (listTo bs 8) ∧ Below w.heap.size w w' := by
  have HR := Aside0.mk hr
  have HL := Aside0.mk hb
  clear hr hb
  have HO := Aside0.mk (H.Own.nil w)
  go_enter Try.func79, Try.ntmps79
  go_wp2_with ((with_reducible refine gate_dst (N := 6) rfl ?_); refine Kd.R_lit (Kd.int .i64) (w0 := w) w.heap.size 3 ?hg (N := 6) ?hd (xs := ([] : List Int)) (inner := []) (ok := fun _ => True) (okp := fun _ => True) ?hr ?hp (fun _ hk => hk) trivial HO.out.below HO.out.size (by simp) ?_; (case hd => rfl); (case hg => rfl); (case hr => first | (go_simp; done) | (go_simp; rfl)); (case hp => exact Reps.none _ _); intro vo w_ ho_ hb_ hg_ hnew_; replace HO := Aside0.mk (HO.out.grown hg_ (fun k hk => by cases hk)); have HV := Aside0.mk ho_; clear ho_ hb_ hg_ hnew_)
  go_loopw [8, 3] (fun v8 v3 wr => ∃ i : Nat, v8 = .int .i64 i ∧ i ≤ 8 ∧ Aside0 (Kd.R (Kd.int .i64) 3 wr w.heap.size (fun _ => True) v3 (listTo bs i)) ∧ Aside0 (H.Own w wr [])) (fun v8 _ _ => 8 - (intOf v8).toNat)
  case atStart => exact ⟨0, rfl, Nat.zero_le _, HV, HO⟩
  case round =>
    clear HO HV
    obtain ⟨i, rfl, hi, HV, HO⟩ := hrel
    by_cases hlt : i < 8
    · have hc0 : w.cell? ⟨gb, off + i, none⟩ = some (.bool (bs.getD i false)) := HR.out i _ (by rw [List.getElem?_map, H.getD_some false (by rw [HL.out]; exact hlt)]; rfl)
      have hc := HO.out.old hc0
      have hst := listTo_step bs i
      have hi8 : (i : Int) < 8 := by omega
      clear hc0
      cases hbi : bs.getD i false with
      | true =>
        rw [hbi] at hc hst
        rw [if_pos rfl] at hst
        have HST := Aside0.mk hst
        clear hbi hst
        go_wp2
        go_quiet (fail)
        have HLL := Aside0.mk (listTo_len bs i)
        generalize hq_ : World.drewN wr _ = wq; have hd_ : Drawn0 wr wq := ⟨_, hq_.symm⟩; clear hq_; replace HO := Aside0.mk (HO.out.drawn hd_); replace HV := Aside0.mk (Kd.R_below HV.out hd_.below); clear hd_
        go_wp2_with ((with_reducible refine gate_builtin (b := .append) (xs := #[.tmp 15, .tmp 17]) rfl ?_); at_builtin; refine Kd.R_append (Kd.int .i64) (w0 := w) w.heap.size rfl (.tmp 15) (.tmp 17) 37 3 (.int .i64 0) 8 rfl Try.underlying37 info3 rfl (by decide) (by omega) u3 (listTo bs i) (i : Int) [.int .i64 (i : Int)] (fun _ => True) (fun _ => False) rfl rfl ?aP (fun _ hk => hk.elim) ?aF ?aO ?aB ?aS ?aL ?_; (case aP => exact rfl); (case aF => exact fun _ _ => trivial); (case aO => exact HV.out); (case aB => exact HO.out.below); (case aS => exact HO.out.size); (case aL => have := HLL.out; omega); intro v1 w_ ho_ hb_ hg_ hat_; replace HO := Aside0.mk (HO.out.row HV.out (Nat.le_refl _) hg_ (by simp)); replace HV := Aside0.mk ho_; clear ho_ hb_ hg_ hat_)
        go_roundw
        case rel => exact ⟨i + 1, by go_num, by omega, ⟨by rw [HST.out]; exact HV.out⟩, HO⟩
        case measure => simp [intOf]; omega
      | false =>
        rw [hbi] at hc hst
        rw [if_neg (by simp)] at hst
        have HST := Aside0.mk hst
        clear hbi hst
        go_wp2
        go_quiet (fail)
        generalize hq_ : World.drewN wr _ = wq; have hd_ : Drawn0 wr wq := ⟨_, hq_.symm⟩; clear hq_; replace HO := Aside0.mk (HO.out.drawn hd_); replace HV := Aside0.mk (Kd.R_below HV.out hd_.below); clear hd_
        go_wp2
        go_roundw
        case rel => exact ⟨i + 1, by go_num, by omega, ⟨by rw [HST.out]; exact HV.out⟩, HO⟩
        case measure => simp [intOf]; omega
    · have hE : i = 8 := by omega
      subst hE
      go_wp2
      go_ret
      exact ⟨_, rfl, HV.out, HO.out.below⟩
end Go.Proofs.Ytkfpbblaomgihaa.P

namespace Go.Proofs.Ytkfpbblaomgihaa.P
open Go.RowKit Go.Proofs.YtkfpbblaomgihaaW.PrintWords Go.Proofs.YtkfpbblaomgihaaW.PrintLast Go.Proofs.YtkfpbblaomgihaaW.PrintMore
attribute [local go_sem] max2_int min2_int max_two min_two max_three min_three max_four min_four
def listsF (M : List (List Bool)) : List (List Int) := M.map (fun r => listTo r 8)
set_option maxHeartbeats 8000000 in
set_option maxRecDepth 100000 in
theorem impl_lists.calls (gm : Nat) (M : List (List Bool)) (w : World) (hm : w.heap[gm]? = some (.cells (H.bcells M.flatten) 78 (0, 0))) (hM : H.Mat 8 M) (h1 : 1 ≤ M.length) (h12 : M.length ≤ 12) :
    Calls Try.prog 65 #[.slice (some ⟨gm, 0, none⟩) M.length M.length] w fun e w' => ∃ v0_ : Value, e = .returned v0_ ∧ Kd.S (Kd.slice 3 (Kd.int .i64)) 37 w' w.heap.size (fun _ => True) v0_ (listsF M) ∧ Below w.heap.size w w' := by
  have HM := Aside0.mk hm
  have HMat := Aside0.mk hM
  clear hm hM
  have HO := Aside0.mk (H.Own.nil w)
  go_enter Try.func65, Try.ntmps65
  go_wp2_with ((with_reducible refine gate_dst (N := 7) rfl ?_); refine Kd.S_make (Kd.slice 3 (Kd.int .i64)) (w0 := w) w.heap.size 37 rfl (N := 7) rfl 22 _ _ rfl (M.length : Int) rfl rfl Try.underlying22 (.slice none 0 0) 24 info37 rfl (by decide) (by omega) [] (ok := fun _ => True) (okp := fun _ => True) ⟨_, rfl, Kd.R_nil _ _ _ _ _⟩ (fun _ hk => hk) trivial (by omega) (by simp only [Int.toNat_natCast]; omega) HO.out.below HO.out.size ?_; intro vs w_ ho_ hb_ hg_ hnew_; replace HO := Aside0.mk (HO.out.grown hg_ (fun k hk => by cases hk)); have HS := Aside0.mk ho_; clear ho_ hb_ hg_ hnew_)
  rw [Int.toNat_natCast] at HS
  obtain ⟨gs, cs, rfl, _, _, _⟩ := Kd.S_form HS.out (by simp; omega)
  rw [List.length_replicate] at HS ⊢
  go_loopw [10] (fun v10 wr => ∃ i : Nat, v10 = .int .i64 i ∧ i ≤ M.length ∧ Aside0 (Kd.S (Kd.slice 3 (Kd.int .i64)) 37 wr w.heap.size (fun _ => True) (.slice (some ⟨gs, 0, none⟩) M.length cs) (H.fillP (fun r => listTo r 8) [] M i)) ∧ Aside0 (H.Own w wr [])) (fun v10 _ => M.length - (intOf v10).toNat)
  case atStart => exact ⟨0, rfl, Nat.zero_le _, ⟨by rw [H.fillP_zero]; exact HS.out⟩, HO⟩
  case round =>
    clear HO HS
    obtain ⟨i, rfl, hi, HS, HO⟩ := hrel
    by_cases hlt : i < M.length
    · have HI := Aside0.mk hlt
      have HST := Aside0.mk (H.fillP_step (f := fun r => listTo r 8) (d := []) [] hlt)
      go_wp2_with (first | (go_at_call 79; refine (impl_list.calls gm (i * 8) (M.getD i []) _ (H.blk_mrange (blk_below HM.out HO.out.below) HMat.out HI.out) (HMat.out.row HI.out)).mono ?_; rintro e w' ⟨v0, rfl, hv, hb⟩; have HV := Aside0.mk hv; replace HS := Aside0.mk (Kd.S_mono (ok' := fun k => some k ≠ v0.ownBlock) (Kd.S_elder' HS.out (Kd.R_base hv) hb) (fun _ hk => hk.2)); replace HV := Aside0.mk (Kd.R_lower hv HO.out.size); replace HO := Aside0.mk (HO.out.step hb); clear hv hb) | ((with_reducible refine gate_store (t := 37) (p := 19) rfl ?_); refine H.own_rowput HO.out HS.out HV.out (Nat.le_refl _) rfl rfl rfl rfl rfl (by kernel_rfl) HI.out (by simp) ?_; intro w_ ho_ hs_ hg_; replace HO := Aside0.mk ho_; replace HS := Aside0.mk hs_; clear HV ho_ hs_ hg_))
      go_roundw
      case rel => exact ⟨i + 1, by go_num, by omega, ⟨by rw [← HST.out]; exact HS.out⟩, HO⟩
      case measure => simp [intOf]; omega
    · have hE : i = M.length := by omega
      subst hE
      go_wp2
      go_ret
      exact ⟨_, rfl, by rw [H.fillP_end] at HS; exact HS.out, HO.out.below⟩
end Go.Proofs.Ytkfpbblaomgihaa.P

namespace Go.Proofs.Ytkfpbblaomgihaa.Q
open Go.RowKit Go.Proofs.Ytkfpbblaomgihaa.P Go.Proofs.Ytkfpbblaomgihaa.H Go.Proofs.YtkfpbblaomgihaaW.PrintWords
theorem srt_sub_len : ∀ {b a : List Int}, Srt a → Srt b → (∀ y ∈ a, y ∈ b) → a.length ≤ b.length ∧ (a.length = b.length → a = b)
  | [], a, _, _, h => by
    have : a = [] := List.eq_nil_iff_forall_not_mem.2 (fun y hy => by have := h y hy; simp at this)
    subst this
    simp
  | y :: b, [], _, _, _ => by simp
  | y :: b, x :: a, ha, hb, h => by
    have ha' := List.pairwise_cons.1 ha
    have hb' := List.pairwise_cons.1 hb
    by_cases e : x = y
    · subst e
      have ih := srt_sub_len (b := b) (a := a) ha'.2 hb'.2 (fun z hz => by
        rcases List.mem_cons.1 (h z (by simp [hz])) with e | e
        · have := ha'.1 z hz; omega
        · exact e)
      refine ⟨by simp only [List.length_cons]; omega, fun hl => ?_⟩
      rw [ih.2 (by simp only [List.length_cons] at hl; omega)]
    · have hx : x ∈ b := by
        rcases List.mem_cons.1 (h x (by simp)) with e2 | e2
        · exact absurd e2 e
        · exact e2
      have hxy := hb'.1 x hx
      have ih := srt_sub_len (b := b) (a := x :: a) ha hb'.2 (fun z hz => by
        rcases List.mem_cons.1 (h z hz) with e2 | e2
        · rcases List.mem_cons.1 hz with e3 | e3
          · omega
          · have := ha'.1 z e3; omega
        · exact e2)
      have := ih.1
      exact ⟨by simp only [List.length_cons] at *; omega, fun hl => by simp only [List.length_cons] at *; omega⟩
theorem listTo_mem (bs : List Bool) (n : Nat) (y : Int) : y ∈ listTo bs n ↔ ∃ j, j < n ∧ y = (j : Int) ∧ bs.getD j false = true := by
  unfold listTo
  simp only [List.mem_map, List.mem_filter, List.mem_range]
  constructor
  · rintro ⟨j, ⟨h1, h2⟩, rfl⟩
    exact ⟨j, h1, rfl, h2⟩
  · rintro ⟨j, h1, rfl, h2⟩
    exact ⟨j, ⟨h1, h2⟩, rfl⟩
theorem listTo_srt (bs : List Bool) : ∀ n, Srt (listTo bs n)
  | 0 => by simp [listTo, Srt]
  | n + 1 => by
    rw [listTo_step]
    split
    · unfold Srt
      rw [List.pairwise_append]
      refine ⟨listTo_srt bs n, by simp, fun x hx y hy => ?_⟩
      obtain ⟨j, h1, rfl, _⟩ := (listTo_mem bs n x).1 hx
      rw [List.mem_singleton.1 hy]
      omega
    · exact listTo_srt bs n
theorem listTo_setOf {l : List Int} (h : Srt l) (h7 : In7 l) : listTo (setOf l) 8 = l := by
  refine srt_ext (listTo_srt _ _) h (fun y => ?_)
  rw [listTo_mem]
  constructor
  · rintro ⟨j, hj, rfl, hb⟩
    rw [setOf_bit h7 hj] at hb
    exact of_decide_eq_true hb
  · intro hy
    have := h7 y hy
    refine ⟨y.toNat, by omega, by omega, ?_⟩
    rw [setOf_bit h7 (by omega), show ((y.toNat : Nat) : Int) = y by omega]
    exact decide_eq_true hy
def NextM (g : List (List Int)) (b : List S56) (L : List (List Int)) (t : Nat) (y : Int) : Prop := y ∈ (b.getD t z56).f0 ∨ (OutM g L t y ∧ y ∉ (b.getD t z56).f1)
def SubL (L L' : List (List Int)) : Prop := ∀ t, ∀ y ∈ L.getD t [], y ∈ L'.getD t []
theorem SubL.next {g : List (List Int)} {b : List S56} {L L' : List (List Int)} (h : SubL L L') {t : Nat} {y : Int} (hy : NextM g b L t y) : NextM g b L' t y := by
  rcases hy with hy | ⟨⟨k, hk, hy⟩, hn⟩
  · exact .inl hy
  · exact .inr ⟨⟨k, hk, h _ _ hy⟩, hn⟩
def PreFixed (g : List (List Int)) (b : List S56) (X : List (List Int)) : Prop := ∀ t, t < b.length → ∀ y, NextM g b X t y → y ∈ X.getD t []
structure Liv (g : List (List Int)) (b : List S56) (L : List (List Int)) : Prop where
  len : L.length = b.length
  srt : ∀ r ∈ L, Srt r
  in7 : ∀ r ∈ L, In7 r
  inc : ∀ t, t < b.length → ∀ y ∈ L.getD t [], NextM g b L t y
  least : ∀ X, PreFixed g b X → SubL L X
theorem getD_mem' {L : List (List Int)} {t : Nat} (h : t < L.length) : L.getD t [] ∈ L := by
  rw [List.getD_eq_getElem?_getD, List.getElem?_eq_getElem h]
  exact List.getElem_mem h
theorem getD_set_self {α : Type} {L : List α} {t : Nat} (d o : α) (h : t < L.length) : (L.set t o).getD t d = o := by
  rw [List.getD_eq_getElem?_getD, List.getElem?_set_self h]
  rfl
theorem getD_set_ne {α : Type} {L : List α} {t i : Nat} (d o : α) (h : t ≠ i) : (L.set t o).getD i d = L.getD i d := by
  rw [List.getD_eq_getElem?_getD, List.getElem?_set_ne h, List.getD_eq_getElem?_getD]
theorem total_set : ∀ (L : List (List Int)) (t : Nat) (o : List Int), t < L.length → total (L.set t o) + (L.getD t []).length = total L + o.length
  | [], t, o, h => by simp at h
  | x :: L, 0, o, _ => by simp only [List.set_cons_zero, total, List.getD_cons_zero]; omega
  | x :: L, t + 1, o, h => by
    have ih := total_set L t o (by simpa using h)
    simp only [List.set_cons_succ, total, List.getD_cons_succ]
    omega
theorem total_le8 : ∀ (L : List (List Int)), (∀ r ∈ L, r.length ≤ 8) → total L ≤ L.length * 8
  | [], _ => by simp [total]
  | x :: L, h => by
    have := total_le8 L (fun r hr => h r (by simp [hr]))
    have := h x (by simp)
    rw [total, List.length_cons, Nat.succ_mul]
    omega
section
variable {g : List (List Int)} {b : List S56} (hG : goodF g b = true)
theorem good_facts (hG : goodF g b = true) : Small g ∧ SmallI b := by
  have hl := goodF_len hG
  have hrow : ∀ l : List Int, ∀ hi : Int, hi ≤ 12 → upB l 0 hi 0 = true → l.length ≤ 1048576 := by
    intro l hi h12 h
    have h1 := upB_srt h
    have h2 := upB_mem h
    rcases srt_len l 0 h1 h2 with e | e
    · omega
    · rw [e]; simp
  have h := hG
  unfold goodF goodG at h
  simp only [Bool.and_eq_true, decide_eq_true_eq, List.all_eq_true] at h
  refine ⟨⟨by omega, fun l hl' => hrow l _ (by omega) (h.1.1.2 l hl')⟩, by omega, fun x hx => ?_⟩
  have := h.2 x hx
  unfold okBlock at this
  simp only [Bool.and_eq_true] at this
  exact ⟨hrow _ 7 (by decide) this.1, hrow _ 7 (by decide) this.2⟩
theorem Liv.small {L : List (List Int)} (hG : goodF g b = true) (h : Liv g b L) : Small L := ⟨by have := goodF_len hG; have := h.len; omega, fun l hl => by have := srt_len7 (h.srt l hl) (h.in7 l hl); omega⟩
theorem step_ev {L : List (List Int)} (hG : goodF g b = true) (h : Liv g b L) {t : Nat} (ht : t < b.length) :
    ∃ o, Ev (fun k => spec_l12In.f k g b L (t : Int)) o ∧ Srt o ∧ In7 o ∧ (∀ y, y ∈ o ↔ NextM g b L t y) ∧ nextF g b (L.map setOf) t = setOf o ∧ (∀ y ∈ L.getD t [], y ∈ o) := by
  have hl := goodF_len hG
  have hf := good_facts hG
  have hb := goodF_blk hG ht
  have hk : ∀ k ∈ g.getD t [], 0 ≤ k ∧ k < (L.length : Int) := by rw [h.len]; exact goodF_next hG ht
  obtain ⟨o, h1, h2, h3, h4⟩ := spec_in_ev g L b t hf.1 (h.small hG) hf.2 (by omega) ht hk h.in7 (upB_srt hb.1) (upB_mem hb.1)
  refine ⟨o, h1, h2, h3, h4, ?_, fun y hy => (h4 y).2 (h.inc t ht y hy)⟩
  exact (fixed_one g L (b.getD t z56) t hk h.in7 (upB_mem hb.1) (upB_mem hb.2) o o h2 h3 h2 h3 h4).2 rfl
theorem Liv.put {L : List (List Int)} (h : Liv g b L) {t : Nat} (ht : t < b.length) {o : List Int} (h1 : Srt o) (h2 : In7 o) (h3 : ∀ y, y ∈ o ↔ NextM g b L t y) (h4 : ∀ y ∈ L.getD t [], y ∈ o) : Liv g b (L.set t o) ∧ SubL L (L.set t o) := by
  have htl : t < L.length := by rw [h.len]; exact ht
  have hs : SubL L (L.set t o) := by
    intro i y hy
    by_cases e : t = i
    · subst e
      rw [getD_set_self [] o htl]
      exact h4 y hy
    · rw [getD_set_ne [] o e]
      exact hy
  refine ⟨⟨by rw [List.length_set]; exact h.len, fun r hr => ?_, fun r hr => ?_, fun i hi y hy => ?_, fun X hX i y hy => ?_⟩, hs⟩
  · rcases List.mem_or_eq_of_mem_set hr with hr | rfl
    · exact h.srt r hr
    · exact h1
  · rcases List.mem_or_eq_of_mem_set hr with hr | rfl
    · exact h.in7 r hr
    · exact h2
  · by_cases e : t = i
    · subst e
      rw [getD_set_self [] o htl] at hy
      exact hs.next ((h3 y).1 hy)
    · rw [getD_set_ne [] o e] at hy
      exact hs.next (h.inc i hi y hy)
  · by_cases e : t = i
    · subst e
      rw [getD_set_self [] o htl] at hy
      exact hX t ht y ((h.least X hX).next ((h3 y).1 hy))
    · rw [getD_set_ne [] o e] at hy
      exact h.least X hX i y hy
theorem pass_sim (hG : goodF g b = true) : ∀ (d t : Nat) (L : List (List Int)) (ag : Bool), t + d = b.length → Liv g b L →
    ∃ L' ag', passF g b d (L.map setOf) t ag = (L'.map setOf, ag') ∧ Liv g b L' ∧ total L ≤ total L' ∧ (ag = true → ag' = true) ∧ (ag' = false → L' = L ∧ ∀ i, t ≤ i → i < b.length → ∀ y, NextM g b L i y → y ∈ L.getD i []) ∧ (ag' = true → ag = true ∨ total L < total L') ∧
      ∀ r, Ev (fun k => if ag' = true then spec_l12Live.l0 k L' g b else some L') r → Ev (fun k => spec_l12Live.l1 k L ag (b.length : Int) (t : Int) g b) r := by
  have hgl := goodF_len hG
  intro d
  induction d with
  | zero =>
    intro t L ag ht h
    have ht' : t = b.length := by omega
    subst ht'
    refine ⟨L, ag, rfl, h, Nat.le_refl _, fun e => e, fun e => ⟨rfl, fun i h1 h2 => by omega⟩, fun e => .inl e, fun r hr => ?_⟩
    refine Ev.step (fun k => ?_) hr
    simp only [spec_l12Live.l1]
    rw [if_neg (by omega)]
  | succ d ih =>
    intro t L ag ht h
    have htl : t < b.length := by omega
    have htL : t < L.length := by rw [h.len]; exact htl
    obtain ⟨o, h1, h2, h3, h4, h5, h6⟩ := step_ev hG h htl
    have hrow : (L.map setOf).getD t [] = setOf (L.getD t []) := by
      rw [List.getD_eq_getElem?_getD, List.getElem?_map, List.getElem?_eq_getElem htL, List.getD_eq_getElem?_getD, List.getElem?_eq_getElem htL]
      rfl
    have hLt := getD_mem' htL
    have hsame : nextF g b (L.map setOf) t = (L.map setOf).getD t [] ↔ o = L.getD t [] := by
      rw [h5, hrow]
      constructor
      · intro e
        rw [← listTo_setOf h2 h3, ← listTo_setOf (h.srt _ hLt) (h.in7 _ hLt), e]
      · intro e
        rw [e]
    have hev := same_ev o (L.getD t []) (by have := srt_len7 h2 h3; omega)
    by_cases e : o = L.getD t []
    · have hset : L.set t o = L := by
        rw [e]
        refine List.ext_getElem (by simp) (fun j q1 q2 => ?_)
        rw [List.getElem_set]
        split
        · next q =>
          subst q
          rw [List.getD_eq_getElem?_getD, List.getElem?_eq_getElem q2]
          rfl
        · rfl
      obtain ⟨L', ag', p1, p2, p3, p4, p5, p6, p7⟩ := ih (t + 1) L ag (by omega) h
      refine ⟨L', ag', by rw [passF, if_pos (hsame.2 e)]; exact p1, p2, p3, p4, fun q => ⟨(p5 q).1, fun i i1 i2 y hy => ?_⟩, p6, fun r hr => ?_⟩
      · by_cases ei : i = t
        · subst ei
          rw [← e]
          exact (h4 y).2 hy
        · exact (p5 q).2 i (by omega) i2 y hy
      · have hp := p7 r hr
        refine Ev.step (fun k => ?_) (h1.bind (f := fun k v => if ag = true then spec_l12Live.l1 k (L.set t v) true (b.length : Int) ((t : Int) + 1) g b else (spec_l12Same.f k v (L.getD t [])).bind fun q => spec_l12Live.l1 k (L.set t v) (!q) (b.length : Int) ((t : Int) + 1) g b) ?_)
        · simp only [spec_l12Live.l1]
          rw [if_pos (by omega)]
          simp only [show (0 : Int) ≤ (t : Int) by omega, show (t : Int) < (L.length : Int) by omega, w64 (show -9223372036854775808 ≤ (t : Int) + 1 by omega) (by omega), if_true, Int.toNat_natCast]
          rfl
        · cases ag with
          | true =>
            refine Ev.congr (fun k => by rw [if_pos rfl, hset]) ?_
            exact hp
          | false =>
            refine Ev.congr (fun k => by rw [if_neg (by simp), hset]) ?_
            refine hev.bind ?_
            rw [decide_eq_true e]
            exact hp
    · obtain ⟨q1, q2⟩ := h.put htl h2 h3 h4 h6
      have hlen := srt_sub_len (h.srt _ hLt) h2 h6
      have hlt : (L.getD t []).length < o.length := by
        rcases Nat.lt_or_ge (L.getD t []).length o.length with q | q
        · exact q
        · exact absurd (hlen.2 (by omega)).symm e
      have htot := total_set L t o htL
      have hmap : (L.map setOf).set t (nextF g b (L.map setOf) t) = (L.set t o).map setOf := by rw [h5, List.map_set]
      obtain ⟨L', ag', p1, p2, p3, p4, p5, p6, p7⟩ := ih (t + 1) (L.set t o) true (by omega) q1
      have hag := p4 rfl
      refine ⟨L', ag', by rw [passF, if_neg (fun q => e (hsame.1 q)), hmap]; exact p1, p2, by omega, fun _ => hag, (fun q => by rw [hag] at q; cases q), fun _ => .inr (by omega), fun r hr => ?_⟩
      have hp := p7 r hr
      refine Ev.step (fun k => ?_) (h1.bind (f := fun k v => if ag = true then spec_l12Live.l1 k (L.set t v) true (b.length : Int) ((t : Int) + 1) g b else (spec_l12Same.f k v (L.getD t [])).bind fun q => spec_l12Live.l1 k (L.set t v) (!q) (b.length : Int) ((t : Int) + 1) g b) ?_)
      · simp only [spec_l12Live.l1]
        rw [if_pos (by omega)]
        simp only [show (0 : Int) ≤ (t : Int) by omega, show (t : Int) < (L.length : Int) by omega, w64 (show -9223372036854775808 ≤ (t : Int) + 1 by omega) (by omega), if_true, Int.toNat_natCast]
        rfl
      · cases ag with
        | true => exact Ev.congr (fun k => by rw [if_pos rfl]; rfl) hp
        | false =>
          refine Ev.congr (fun k => by rw [if_neg (by simp)]) (hev.bind ?_)
          rw [decide_eq_false e]
          exact hp
theorem live_ends (hG : goodF g b = true) : ∀ (m : Nat) (L : List (List Int)), Liv g b L → b.length * 8 + 1 ≤ total L + m →
    ∃ L', liveL g b m (L.map setOf) = some (L'.map setOf) ∧ Ev (fun k => spec_l12Live.l0 k L g b) L' ∧ Liv g b L' ∧ PreFixed g b L' := by
  intro m
  induction m with
  | zero =>
    intro L h hm
    have := total_le8 L (fun r hr => srt_len7 (h.srt r hr) (h.in7 r hr))
    rw [h.len] at this
    omega
  | succ m ih =>
    intro L h hm
    obtain ⟨L', ag', p1, p2, p3, p4, p5, p6, p7⟩ := pass_sim hG b.length 0 L false (by omega) h
    cases ag' with
    | true =>
      obtain ⟨L2, q1, q2, q3, q4⟩ := ih L' p2 (by rcases p6 rfl with e | e; cases e; omega)
      refine ⟨L2, by rw [liveL, p1, if_pos rfl]; exact q1, ?_, q3, q4⟩
      refine Ev.step (fun k => by simp only [spec_l12Live.l0]; rfl) (p7 L2 ?_)
      exact Ev.congr (fun k => by rw [if_pos rfl]) q2
    | false =>
      obtain ⟨rfl, hfix⟩ := p5 rfl
      refine ⟨L', by rw [liveL, p1, if_neg (by simp)], ?_, h, fun t ht y hy => hfix t (Nat.zero_le _) ht y hy⟩
      refine Ev.step (fun k => by simp only [spec_l12Live.l0]; rfl) (p7 L' ?_)
      exact Ev.congr (fun k => by rw [if_neg (by simp)]) (Ev.now _)
theorem liv_nil (g : List (List Int)) (b : List S56) : Liv g b (List.replicate b.length []) := by
  have he : ∀ t, (List.replicate b.length ([] : List Int)).getD t [] = [] := by
    intro t
    rw [List.getD_eq_getElem?_getD, List.getElem?_replicate]
    split <;> rfl
  refine ⟨by simp, fun r hr => by rw [List.eq_of_mem_replicate hr]; exact List.Pairwise.nil, fun r hr y hy => by rw [List.eq_of_mem_replicate hr] at hy; simp at hy, fun t ht y hy => by rw [he] at hy; simp at hy, fun X hX t y hy => by rw [he] at hy; simp at hy⟩
theorem live_all (hG : goodF g b = true) : ∃ L, liveL g b 98 (List.replicate b.length (List.replicate 8 false)) = some (L.map setOf) ∧ Ev (fun k => spec_l12Live.f k g b) L ∧ Liv g b L ∧ PreFixed g b L := by
  have hl := goodF_len hG
  obtain ⟨L, h1, h2, h3, h4⟩ := live_ends hG 98 _ (liv_nil g b) (by omega)
  refine ⟨L, ?_, ?_, h3, h4⟩
  · rw [List.map_replicate] at h1
    exact h1
  · unfold spec_l12Live.f
    refine Ev.congr (fun k => by rw [if_pos (by omega), if_pos (by omega), Int.toNat_natCast]) h2
end
theorem listsF_setOf {L : List (List Int)} (h : ∀ r ∈ L, Srt r) (h7 : ∀ r ∈ L, In7 r) : listsF (L.map setOf) = L := by
  unfold listsF
  rw [List.map_map]
  have : ∀ r ∈ L, ((fun r => listTo r 8) ∘ setOf) r = id r := fun r hr => listTo_setOf (h r hr) (h7 r hr)
  rw [List.map_congr_left this, List.map_id]
theorem small_nil : Small [] := ⟨by simp, by simp⟩
end Go.Proofs.Ytkfpbblaomgihaa.Q

namespace Go.Proofs.Ytkfpbblaomgihaa.P
open Go.RowKit Go.Proofs.YtkfpbblaomgihaaW.PrintWords Go.Proofs.YtkfpbblaomgihaaW.PrintLast Go.Proofs.YtkfpbblaomgihaaW.PrintMore
attribute [local go_sem] max2_int min2_int max_two min_two max_three min_three max_four min_four
def blkLen (xs : List S56) (q : Nat) : Nat := if q % 2 = 0 then (xs.getD (q / 2) z56).f0.length else (xs.getD (q / 2) z56).f1.length
theorem blkRooms {W : World} {lo up base : Nat} {ok : Nat → Prop} {v : Value} {xs : List S56} (h : Kd.S k56 56 W base ok v xs) (hlo : lo ≤ base) (hhi : ∀ k, ok k → k < W.heap.size → k < up) : H.Rooms 3 56 2 W lo up v xs.length (blkLen xs) := by
  obtain ⟨A, c, e⟩ := Kd.S_slice h
  refine ⟨A, c, e, fun hm => ?_⟩
  obtain ⟨g, cap, rfl, hg, hlt, cs, hc⟩ := Kd.S_form h hm
  injection e with e1 e2 e3
  subst e1
  refine ⟨g, cs, rfl, hc, fun q hq => ?_⟩
  obtain ⟨oki, c1, hcl, hM, hcc, hfr, hoki, hH⟩ := Kd.S_elem h z56 ((q / 2 : Nat) : Int) (by omega) (by omega)
  obtain ⟨u0, u1, rfl, hR0, hR1⟩ := k56_openM hM
  rw [Int.toNat_natCast] at hR0 hR1 hcc
  have hz : (k56).sz = 2 := rfl
  rw [hz] at hcc
  unfold blkLen
  by_cases hp : q % 2 = 0
  · rw [if_pos hp]
    have hu := hcc 0 u0 rfl
    rw [show q / 2 * 2 + 0 = q by omega, blk_cell hc] at hu
    exact ⟨u0, hu, H.Room.of_R hR0 hlo (fun k hk hlt => hhi k (hoki k hk).1 hlt)⟩
  · rw [if_neg hp]
    have hu := hcc 1 u1 rfl
    rw [show q / 2 * 2 + 1 = q by omega, blk_cell hc] at hu
    exact ⟨u1, hu, H.Room.of_R hR1 hlo (fun k hk hlt => hhi k (hoki k hk).1 hlt)⟩
set_option maxHeartbeats 8000000 in
set_option maxRecDepth 100000 in
theorem laws_markBlockS.tame (lo up : Nat) (v : Value) (m : Nat) (f : Nat → Nat) (a : Int) (w : World) (h : H.Rooms 3 56 2 w lo up v m f) (ha : 0 ≤ a) (hn : a + H.sumN f (m * 2) ≤ 4611686018427387904) (hm : m ≤ 4611686018427387904) :
    Calls Try.prog 68 #[v, .int .i64 a] w fun e w' => e = .returned (.int .i64 (a + H.sumN f (m * 2))) ∧ H.Tame 3 lo up w w' := by
  obtain ⟨A, c, rfl, hA⟩ := h
  by_cases h0 : 0 < m
  · obtain ⟨g, cs, rfl, hb, hc⟩ := hA h0
    have HB := Aside0.mk hb
    have HC := Aside0.mk hc
    clear hA hb hc
    go_enter Try.func68, Try.ntmps68
    go_wp2
    go_loopw [5, 1] (fun v5 v1 wr => ∃ i : Nat, v5 = .int .i64 i ∧ v1 = .int .i64 (a + H.sumN f (i * 2)) ∧ i ≤ m ∧ Aside0 (H.Tame 3 lo up w wr)) (fun v5 _ _ => m - (intOf v5).toNat)
    case atStart => exact ⟨0, rfl, by simp [H.sumN], Nat.zero_le _, ⟨H.Tame.refl _ _ _ _⟩⟩
    case round =>
      obtain ⟨i, rfl, rfl, hi, HT⟩ := hrel
      by_cases hlt : i < m
      · obtain ⟨u, h1, h2⟩ := HC.out (i * 2) (by omega)
        obtain ⟨u', h1', h2'⟩ := HC.out (i * 2 + 1) (by omega)
        have hu : wr.cell? ⟨g, i * 2, none⟩ = some u := (blk_cell ((HT.out.kept _ _ _ HB.out (by decide)).trans HB.out) _).trans h1
        have H2 := Aside0.mk (h2.tame HT.out)
        have HU' := Aside0.mk (fun (W : World) (ht : H.Tame 3 lo up w W) => (show W.cell? ⟨g, i * 2 + 1, none⟩ = some u' from (blk_cell ((ht.kept _ _ _ HB.out (by decide)).trans HB.out) _).trans h1'))
        have H2' := Aside0.mk (fun (W : World) (ht : H.Tame 3 lo up w W) => h2'.tame ht)
        have hs1 : H.sumN f ((i + 1) * 2) = H.sumN f (i * 2) + f (i * 2) + f (i * 2 + 1) := by rw [show (i + 1) * 2 = i * 2 + 1 + 1 by omega]; rfl
        have hs2 := H.sumN_le f (show (i + 1) * 2 ≤ m * 2 by omega)
        have HS1 := Aside0.mk hs1
        have hb1 : 0 ≤ a + (H.sumN f (i * 2) : Int) := by omega
        have HB2 : Aside0 (a + (H.sumN f (i * 2) : Int) + f (i * 2) ≤ 4611686018427387904) := ⟨by omega⟩
        have hb3 : 0 ≤ a + (H.sumN f (i * 2) : Int) + f (i * 2) := by omega
        have HB4 : Aside0 (a + (H.sumN f (i * 2) : Int) + f (i * 2) + f (i * 2 + 1) ≤ 4611686018427387904) := ⟨by omega⟩
        have hlt' : (i : Int) < (m : Int) := by omega
        clear h1 h2 hs1 hs2 h1' h2'
        go_wp2_with (first | (go_at_call 69; ((with_reducible refine (laws_markIntS.tame lo up u (f (i * 2)) _ wr H2.out hb1 HB2.out).mono ?_); rintro e w' ⟨rfl, ht⟩; replace HT := Aside0.mk (HT.out.trans ht); have hu' := HU'.out _ HT.out; clear ht hu)) | (go_at_call 69; ((with_reducible refine (laws_markIntS.tame lo up u' (f (i * 2 + 1)) _ _ (H2'.out _ HT.out) hb3 HB4.out).mono ?_); rintro e w' ⟨rfl, ht⟩; replace HT := Aside0.mk (HT.out.trans ht); clear ht hu')))
        go_roundw
        case rel => exact ⟨i + 1, by go_num, by rw [HS1.out]; congr 1; push_cast; omega, by omega, HT⟩
        case measure => simp [intOf]; omega
      · have hE : i = m := by omega
        subst hE
        go_wp2
        go_ret
        exact ⟨rfl, HT.out⟩
  · obtain rfl : m = 0 := by omega
    go_enter Try.func68, Try.ntmps68
    go_wp2
    go_loopw [5, 1] (fun v5 v1 wr => v5 = .int .i64 0 ∧ v1 = .int .i64 a ∧ Aside0 (H.Tame 3 lo up w wr)) (fun v5 _ _ => 0)
    case atStart => exact ⟨rfl, rfl, ⟨H.Tame.refl _ _ _ _⟩⟩
    case round =>
      obtain ⟨rfl, rfl, HT⟩ := hrel
      go_wp2
      go_ret
      exact ⟨by simp [H.sumN], HT.out⟩
end Go.Proofs.Ytkfpbblaomgihaa.P

namespace Go.Proofs.Ytkfpbblaomgihaa.Q
open Go.RowKit Go.Proofs.Ytkfpbblaomgihaa.P Go.Proofs.Ytkfpbblaomgihaa.H Go.Proofs.YtkfpbblaomgihaaW.PrintWords
theorem blkLen_le {b : List S56} (h : SmallI b) (q : Nat) : blkLen b q ≤ 1048576 := by
  unfold blkLen
  have key : (b.getD (q / 2) z56).f0.length ≤ 1048576 ∧ (b.getD (q / 2) z56).f1.length ≤ 1048576 := by
    by_cases hq : q / 2 < b.length
    · exact h.at hq
    · rw [List.getD_eq_getElem?_getD, List.getElem?_eq_none (by omega)]
      exact ⟨by decide, by decide⟩
  split
  · exact key.1
  · exact key.2
end Go.Proofs.Ytkfpbblaomgihaa.Q

namespace Go.Proofs.Ytkfpbblaomgihaa.P
open Go.RowKit Go.Proofs.YtkfpbblaomgihaaW.PrintWords Go.Proofs.YtkfpbblaomgihaaW.PrintLast Go.Proofs.YtkfpbblaomgihaaW.PrintMore
attribute [local go_sem] max2_int min2_int max_two min_two max_three min_three max_four min_four
set_option maxHeartbeats 8000000 in
set_option maxRecDepth 100000 in
theorem laws_markGraph.tame (lo up : Nat) (v : Value) (m : Nat) (f : Nat → Nat) (a : Int) (w : World) (h : H.Rooms 3 37 1 w lo up v m f) (ha : 0 ≤ a) (hn : a + H.sumN f m ≤ 4611686018427387904) (hm : m ≤ 4611686018427387904) :
    Calls Try.prog 67 #[.agg #[v], .int .i64 a] w fun e w' => e = .returned (.int .i64 (a + H.sumN f m)) ∧ H.Tame 3 lo up w w' := by
  have HR := Aside0.mk h
  have HO := Aside0.mk (H.Own.nil w)
  obtain ⟨A, c, rfl, _⟩ := h
  go_enter Try.func67, Try.ntmps67
  go_wp2_with (first | ((with_reducible refine gate_dst (N := 2) rfl ?_); refine H.own_box HO.out ?hg (N := 2) ?hd (cs := #[.slice A m c]) (t := 30) ?hr ?_; (case hd => rfl); (case hg => rfl); (case hr => first | (go_simp; done) | (go_simp; rfl)); intro gb w1 ho_ hb_; replace HO := Aside0.mk ho_; have hx := ho_.cell 0 rfl 0; have HT := Aside0.mk (H.Tame.of_below (ti := 3) (lo := lo) (hi := up) hb_); clear ho_ hb_) | (go_at_call 29; refine (laws_markIntSS.tame lo up _ m f a _ (HR.out.tame HT.out (by decide)) ha hn hm).mono ?_; rintro e w' ⟨rfl, ht⟩; replace HT := Aside0.mk (HT.out.trans ht); clear ht hx))
  go_ret
  exact ⟨rfl, HT.out⟩
end Go.Proofs.Ytkfpbblaomgihaa.P

namespace Go.Proofs.Ytkfpbblaomgihaa.P
open Go.RowKit Go.Proofs.YtkfpbblaomgihaaW.PrintWords Go.Proofs.YtkfpbblaomgihaaW.PrintLast Go.Proofs.YtkfpbblaomgihaaW.PrintMore
attribute [local go_sem] max2_int min2_int max_two min_two max_three min_three max_four min_four
set_option maxHeartbeats 8000000 in
set_option maxRecDepth 100000 in
theorem laws_markFlow.tame (lo up : Nat) (v v' : Value) (m m' : Nat) (f f' : Nat → Nat) (a : Int) (w : World) (h : H.Rooms 3 37 1 w lo up v m f) (h' : H.Rooms 3 56 2 w lo up v' m' f') (ha : 0 ≤ a) (hn : a + H.sumN f m + H.sumN f' (m' * 2) ≤ 4611686018427387904) (hm : m ≤ 4611686018427387904) (hm' : m' ≤ 4611686018427387904) :
    Calls Try.prog 28 #[.agg #[v, v'], .int .i64 a] w fun e w' => e = .returned (.int .i64 (a + H.sumN f m + H.sumN f' (m' * 2))) ∧ H.Tame 3 lo up w w' := by
  have HR := Aside0.mk h
  have HR' := Aside0.mk h'
  have HO := Aside0.mk (H.Own.nil w)
  have hn1 : a + (H.sumN f m : Int) ≤ 4611686018427387904 := by omega
  have hb1 : 0 ≤ a + (H.sumN f m : Int) := by omega
  obtain ⟨A, c, rfl, _⟩ := h
  obtain ⟨A', c', rfl, _⟩ := h'
  go_enter Try.func28, Try.ntmps28
  go_wp2_with (first | ((with_reducible refine gate_dst (N := 2) rfl ?_); refine H.own_box HO.out ?hg (N := 2) ?hd (cs := #[.slice A m c, .slice A' m' c']) (t := 33) ?hr ?_; (case hd => rfl); (case hg => rfl); (case hr => first | (go_simp; done) | (go_simp; rfl)); intro gb w1 ho_ hb_; replace HO := Aside0.mk ho_; have hx := ho_.cell 0 rfl 0; have HT := Aside0.mk (H.Tame.of_below (ti := 3) (lo := lo) (hi := up) hb_); have HX := Aside0.mk (fun (W : World) (ht : H.Tame 3 lo up w1 W) => blk_cell ((ht.kept _ _ _ (HO.out.get 0 rfl) (by decide)).trans (HO.out.get 0 rfl)) 1); clear ho_ hb_) | (go_at_call 67; refine (laws_markGraph.tame lo up _ m f a _ (HR.out.tame HT.out (by decide)) ha hn1 hm).mono ?_; rintro e w' ⟨rfl, ht⟩; have hx1 := HX.out _ ht; replace HT := Aside0.mk (HT.out.trans ht); clear ht hx) | (go_at_call 68; refine (laws_markBlockS.tame lo up _ m' f' _ _ (HR'.out.tame HT.out (by decide)) hb1 hn hm').mono ?_; rintro e w' ⟨rfl, ht⟩; replace HT := Aside0.mk (HT.out.trans ht); clear ht hx1))
  go_ret
  exact ⟨rfl, HT.out⟩
end Go.Proofs.Ytkfpbblaomgihaa.P

namespace Go.Proofs.Ytkfpbblaomgihaa.P
open Go.RowKit Go.Proofs.YtkfpbblaomgihaaW.PrintWords Go.Proofs.YtkfpbblaomgihaaW.PrintLast Go.Proofs.YtkfpbblaomgihaaW.PrintMore
attribute [local go_sem] max2_int min2_int max_two min_two max_three min_three max_four min_four
mutual
def spec_DeadSets.l0 : Nat → List (List Int) → List (List Int) → List (S56) → Int → Int → List (List Int) → List (S56) → Option ((List (List Int)) × Bool)
  | 0, _, _, _, _, _, _, _ => none
  | k + 1, x4, x5, x17, x18, x19, x607000, x607001 => if x19 < x18 then (if 0 ≤ x19 then (if x19 < (x17.length : Int) then (spec_DeadSets.l1 k x4 x5 x19 ([] : List Int) x17 x18 x19 ((rd_T56 x17 x19).f1) (((rd_T56 x17 x19).f1).length : Int) 0 x607000 x607001) else (none)) else (none)) else (some (x5, true))
def spec_DeadSets.l1 : Nat → List (List Int) → List (List Int) → Int → List Int → List (S56) → Int → Int → List Int → Int → Int → List (List Int) → List (S56) → Option ((List (List Int)) × Bool)
  | 0, _, _, _, _, _, _, _, _, _, _, _, _ => none
  | k + 1, x4, x5, x6, x8, x17, x18, x19, x25, x26, x27, x607000, x607001 => if x27 < x26 then (if 0 ≤ x27 then (if x27 < (x25.length : Int) then ((spec_l12Out.f k x607000 x607001 x4 x6).bind fun t617 => ((spec_l1Has.f k t617 (rd x25 x27)).bind fun t620 => (if t620 = true then (spec_DeadSets.l1 k x4 x5 x6 x8 x17 x18 x19 x25 x26 (wrap64 (x27 + 1)) x607000 x607001) else (if x8.length < 17592186044416 then (spec_DeadSets.l1 k x4 x5 x6 (x8 ++ [rd x25 x27]) x17 x18 x19 x25 x26 (wrap64 (x27 + 1)) x607000 x607001) else (none))))) else (none)) else (none)) else (if x5.length < 5864062014805 then (spec_DeadSets.l0 k x4 (x5 ++ [x8]) x17 x18 (wrap64 (x19 + 1)) x607000 x607001) else (none))
end
def spec_DeadSets.f (k : Nat) (l0_0 : List (List Int)) (l0_1 : List (S56)) : Option ((List (List Int)) × Bool) := (spec_GoodFlow.f k l0_0 l0_1).bind fun t607 => (if t607 = true then ((spec_l12Live.f k l0_0 l0_1).bind fun t608 => (spec_DeadSets.l0 k t608 ([] : List (List Int)) l0_1 (l0_1.length : Int) 0 l0_0 l0_1)) else (some (([] : List (List Int)), false)))
theorem spec_DeadSets.mono_l : ∀ k, (∀ y0 y1 y2 y3 y4 y5 y6, LeO (spec_DeadSets.l0 k y0 y1 y2 y3 y4 y5 y6) (spec_DeadSets.l0 (k + 1) y0 y1 y2 y3 y4 y5 y6)) ∧ (∀ y0 y1 y2 y3 y4 y5 y6 y7 y8 y9 y10 y11, LeO (spec_DeadSets.l1 k y0 y1 y2 y3 y4 y5 y6 y7 y8 y9 y10 y11) (spec_DeadSets.l1 (k + 1) y0 y1 y2 y3 y4 y5 y6 y7 y8 y9 y10 y11))
  | 0 => ⟨fun _ _ _ _ _ _ _ r h => by simp [spec_DeadSets.l0] at h, fun _ _ _ _ _ _ _ _ _ _ _ _ r h => by simp [spec_DeadSets.l1] at h⟩
  | k + 1 => by
    obtain ⟨ih0, ih1⟩ := spec_DeadSets.mono_l k
    refine ⟨?_, ?_⟩
    · intro y0 y1 y2 y3 y4 y5 y6
      unfold spec_DeadSets.l0
      repeat' first
      | (with_reducible exact ih0 _ _ _ _ _ _ _)
      | (with_reducible exact ih1 _ _ _ _ _ _ _ _ _ _ _ _)
      | (with_reducible exact spec_GoodFlow.mono _ _ _)
      | (with_reducible exact spec_l12Live.mono _ _ _)
      | (with_reducible exact spec_l12Out.mono _ _ _ _ _)
      | (with_reducible exact spec_l1Has.mono _ _ _)
      | (with_reducible exact LeO.refl _)
      | (with_reducible exact LeO.none _)
      | (with_reducible refine LeO.ite ?_ ?_)
      | (with_reducible refine LeO.bind ?_ (fun _ => ?_))
      | exact ih0 _ _ _ _ _ _ _
      | exact ih1 _ _ _ _ _ _ _ _ _ _ _ _
      | exact spec_GoodFlow.mono _ _ _
      | exact spec_l12Live.mono _ _ _
      | exact spec_l12Out.mono _ _ _ _ _
      | exact spec_l1Has.mono _ _ _
      | exact LeO.none _
      | refine LeO.ite ?_ ?_
      | refine LeO.bind ?_ (fun _ => ?_)
    · intro y0 y1 y2 y3 y4 y5 y6 y7 y8 y9 y10 y11
      unfold spec_DeadSets.l1
      repeat' first
      | (with_reducible exact ih0 _ _ _ _ _ _ _)
      | (with_reducible exact ih1 _ _ _ _ _ _ _ _ _ _ _ _)
      | (with_reducible exact spec_GoodFlow.mono _ _ _)
      | (with_reducible exact spec_l12Live.mono _ _ _)
      | (with_reducible exact spec_l12Out.mono _ _ _ _ _)
      | (with_reducible exact spec_l1Has.mono _ _ _)
      | (with_reducible exact LeO.refl _)
      | (with_reducible exact LeO.none _)
      | (with_reducible refine LeO.ite ?_ ?_)
      | (with_reducible refine LeO.bind ?_ (fun _ => ?_))
      | exact ih0 _ _ _ _ _ _ _
      | exact ih1 _ _ _ _ _ _ _ _ _ _ _ _
      | exact spec_GoodFlow.mono _ _ _
      | exact spec_l12Live.mono _ _ _
      | exact spec_l12Out.mono _ _ _ _ _
      | exact spec_l1Has.mono _ _ _
      | exact LeO.none _
      | refine LeO.ite ?_ ?_
      | refine LeO.bind ?_ (fun _ => ?_)
theorem spec_DeadSets.mono : ∀ a0 a1 k, LeO (spec_DeadSets.f k a0 a1) (spec_DeadSets.f (k + 1) a0 a1) := by
  intro a0 a1 k
  obtain ⟨ih0, ih1⟩ := spec_DeadSets.mono_l k
  unfold spec_DeadSets.f
  repeat' first
      | (with_reducible exact ih0 _ _ _ _ _ _ _)
      | (with_reducible exact ih1 _ _ _ _ _ _ _ _ _ _ _ _)
      | (with_reducible exact spec_GoodFlow.mono _ _ _)
      | (with_reducible exact spec_l12Live.mono _ _ _)
      | (with_reducible exact spec_l12Out.mono _ _ _ _ _)
      | (with_reducible exact spec_l1Has.mono _ _ _)
      | (with_reducible exact LeO.refl _)
      | (with_reducible exact LeO.none _)
      | (with_reducible refine LeO.ite ?_ ?_)
      | (with_reducible refine LeO.bind ?_ (fun _ => ?_))
      | exact ih0 _ _ _ _ _ _ _
      | exact ih1 _ _ _ _ _ _ _ _ _ _ _ _
      | exact spec_GoodFlow.mono _ _ _
      | exact spec_l12Live.mono _ _ _
      | exact spec_l12Out.mono _ _ _ _ _
      | exact spec_l1Has.mono _ _ _
      | exact LeO.none _
      | refine LeO.ite ?_ ?_
      | refine LeO.bind ?_ (fun _ => ?_)
set_option maxHeartbeats 8000000 in
set_option maxRecDepth 100000 in
theorem spec_DeadSets.calls (k : Nat) (A0_0 : Option Addr) (c0_0 : Nat) (l0_0 : List (List Int)) (A0_1 : Option Addr) (c0_1 : Nat) (l0_1 : List (S56)) (r1 : List (List Int)) (r2 : Bool) (w : World) (hr0_0 : Kd.C (Kd.slice 3 (Kd.int .i64)) w A0_0 l0_0.length l0_0) (hc0_0 : l0_0.length ≤ c0_0) (hr0_1 : Kd.C k56 w A0_1 l0_1.length l0_1) (hc0_1 : l0_1.length ≤ c0_1) (h : spec_DeadSets.f k l0_0 l0_1 = some (r1, r2)) :
    Calls Try.prog 37 #[.agg #[.slice A0_0 l0_0.length c0_0, .slice A0_1 l0_1.length c0_1]] w fun e w' => ∃ v0_ : Value, e = .returned (.tuple #[v0_, .bool r2]) ∧ Kd.S (Kd.slice 3 (Kd.int .i64)) 37 w' w.heap.size (fun _ => True) v0_ r1 ∧ Below w.heap.size w w' := by
  have hu33 := Try.underlying33
  have hu56 := Try.underlying56
  have HR0_0 := Aside0.mk hr0_0
  have HC0_0 := Aside0.mk hc0_0
  clear hr0_0 hc0_0
  have HR0_1 := Aside0.mk hr0_1
  have HC0_1 := Aside0.mk hc0_1
  clear hr0_1 hc0_1
  have HB := Aside0.mk (Below.refl w.heap.size w)
  have H : ((spec_GoodFlow.f k l0_0 l0_1).bind fun t607 => (if t607 = true then ((spec_l12Live.f k l0_0 l0_1).bind fun t608 => (spec_DeadSets.l0 k t608 ([] : List (List Int)) l0_1 (l0_1.length : Int) 0 l0_0 l0_1)) else (some (([] : List (List Int)), false)))) = some (r1, r2) := h
  clear h
  replace H := Option.bind_eq_some_iff.mp H
  obtain ⟨t607, A20, H⟩ := H
  replace H : (if t607 = true then ((spec_l12Live.f k l0_0 l0_1).bind fun t608 => (spec_DeadSets.l0 k t608 ([] : List (List Int)) l0_1 (l0_1.length : Int) 0 l0_0 l0_1)) else (some (([] : List (List Int)), false))) = some (r1, r2) := H
  have A2 := Aside0.mk A20
  clear A20
  by_cases c3 : t607 = true
  · subst c3
    have H1 : ((spec_l12Live.f k l0_0 l0_1).bind fun t608 => (spec_DeadSets.l0 k t608 ([] : List (List Int)) l0_1 (l0_1.length : Int) 0 l0_0 l0_1)) = some (r1, r2) := by rw [if_pos rfl] at H; exact H
    clear H
    have H := H1
    clear H1
    replace H := Option.bind_eq_some_iff.mp H
    obtain ⟨t608, A40, H⟩ := H
    replace H : (spec_DeadSets.l0 k t608 ([] : List (List Int)) l0_1 (l0_1.length : Int) 0 l0_0 l0_1) = some (r1, r2) := H
    have A4 := Aside0.mk A40
    clear A40
    have H' := Aside0.mk H
    clear H
    go_enter Try.func37, Try.ntmps37
    go_wp2_with (first | ((with_reducible refine gate_dst (N := 1) rfl ?_); refine box_event ?hg (N := 1) ?hd (cs := #[.slice A0_0 l0_0.length c0_0, .slice A0_1 l0_1.length c0_1]) (t := 33) ?hr ?_; (case hd => rfl); (case hg => rfl); (case hr => first | (go_simp; done) | (go_simp; rfl)); intro gb606 hg w5 hbox hb; have n0_ := Aside0.mk (below_step (by repeat (first | (with_reducible first | exact HB.out | apply below_alloc | apply pw_below_drewN | apply below_drew1) | exact HB.out)) hb); have n1_ := Aside0.mk (hbox); have n2_ := Aside0.mk ((by rw [hg]; exact (below_size (by repeat (first | (with_reducible first | exact HB.out | apply below_alloc | apply pw_below_drewN | apply below_drew1) | exact HB.out))) : w.heap.size ≤ gb606)); have n3_ := Aside0.mk ((by rw [hg]; exact (below_size (by repeat (first | (with_reducible first | exact HB.out | apply below_alloc | apply pw_below_drewN | apply below_drew1) | exact HB.out))) : w.heap.size ≤ gb606)); clear HB; have HB := n0_; have BK606 := n1_; have GW606 := n2_; have GE606 := n3_; clear n0_ n1_ n2_ n3_; clear hb hbox hg; have hcz6_0 : w5.cell? ⟨gb606, 0, none⟩ = some (.slice A0_0 l0_0.length c0_0) := (blk_cell BK606.out 0).trans rfl; have hcz6_1 : w5.cell? ⟨gb606, 1, none⟩ = some (.slice A0_1 l0_1.length c0_1) := (blk_cell BK606.out 1).trans rfl; have hfz6_0 := blk_frozen BK606.out 0; have hfz6_1 := blk_frozen BK606.out 1) | ((with_reducible refine gate_callee (f := 13) rfl ?_); refine goesL_ (some 12) rfl rfl Try.func13 (by kernel_rfl) rfl #[.agg #[.slice A0_0 l0_0.length c0_0, .slice A0_1 l0_1.length c0_1]] rfl (by (try simp only [List.map_toArray, List.map_cons, List.map_nil]); first | done | rfl | (simp only [List.length_drop, List.length_take]; rfl)) ?_; (with_reducible refine (spec_GoodFlow.calls k _ _ l0_0 _ _ l0_1 true _ ?side1 ?side2 ?side3 ?side4 A2.out).mono ?_); (case side1 => repeat (first | exact (Kd.C_below HR0_0.out HB.out) | (with_reducible refine Kd.C_alloc ?_ _) | (with_reducible refine Kd.C_drewN ?_ _) | (with_reducible refine Kd.C_drew ?_))); (case side2 => exact HC0_0.out); (case side3 => repeat (first | exact (Kd.C_below HR0_1.out HB.out) | (with_reducible refine Kd.C_alloc ?_ _) | (with_reducible refine Kd.C_drewN ?_ _) | (with_reducible refine Kd.C_drew ?_))); (case side4 => exact HC0_1.out); rintro e w7 ⟨rfl, hb⟩; refine ⟨_, rfl, ?_⟩; have n0_ := Aside0.mk (blk_below (g := gb606) (o := .cells #[.slice A0_0 l0_0.length c0_0, .slice A0_1 l0_1.length c0_1] 33 (0, 0)) (by (with_reducible repeat (first | refine blk_drewN ?_ _ | refine blk_drew ?_ | refine blk_alloc ?_ _)); exact BK606.out) hb); have n1_ := Aside0.mk (below_step (by repeat (first | (with_reducible first | exact HB.out | apply below_alloc | apply pw_below_drewN | apply below_drew1 | refine below_set ?_ GE606.out) | exact HB.out)) hb); clear BK606; clear HB; have BK606 := n0_; have HB := n1_; clear n0_ n1_; (try clear hb); (try clear hb2); (try clear hk); (try clear hi); have hcz8_0 : w7.cell? ⟨gb606, 0, none⟩ = some (.slice A0_0 l0_0.length c0_0) := (blk_cell BK606.out 0).trans rfl; have hcz8_1 : w7.cell? ⟨gb606, 1, none⟩ = some (.slice A0_1 l0_1.length c0_1) := (blk_cell BK606.out 1).trans rfl; have hfz8_0 := blk_frozen BK606.out 0; have hfz8_1 := blk_frozen BK606.out 1) | ((with_reducible refine gate_callee (f := 64) rfl ?_); refine goesL_ (some 15) rfl rfl Try.func64 (by kernel_rfl) rfl #[.agg #[.slice A0_0 l0_0.length c0_0, .slice A0_1 l0_1.length c0_1]] rfl (by (try simp only [List.map_toArray, List.map_cons, List.map_nil]); first | done | rfl | (simp only [List.length_drop, List.length_take]; rfl)) ?_; (with_reducible refine (spec_l12Live.calls k _ _ l0_0 _ _ l0_1 t608 _ ?side1 ?side2 ?side3 ?side4 A4.out).mono ?_); (case side1 => repeat (first | exact (Kd.C_below HR0_0.out HB.out) | (with_reducible refine Kd.C_alloc ?_ _) | (with_reducible refine Kd.C_drewN ?_ _) | (with_reducible refine Kd.C_drew ?_))); (case side2 => exact HC0_0.out); (case side3 => repeat (first | exact (Kd.C_below HR0_1.out HB.out) | (with_reducible refine Kd.C_alloc ?_ _) | (with_reducible refine Kd.C_drewN ?_ _) | (with_reducible refine Kd.C_drew ?_))); (case side4 => exact HC0_1.out); rintro e w9 ⟨v609, rfl, ho0, hb⟩; refine ⟨_, rfl, ?_⟩; have n0_ := Aside0.mk (Kd.S_lower ho0 (below_size (by repeat (first | (with_reducible first | exact HB.out | apply below_alloc | apply pw_below_drewN | apply below_drew1 | refine below_set ?_ GE606.out) | exact HB.out)))); have n1_ := Aside0.mk (blk_below (g := gb606) (o := .cells #[.slice A0_0 l0_0.length c0_0, .slice A0_1 l0_1.length c0_1] 33 (0, 0)) (by (with_reducible repeat (first | refine blk_drewN ?_ _ | refine blk_drew ?_ | refine blk_alloc ?_ _)); exact BK606.out) hb); have n2_ := Aside0.mk (below_step (by repeat (first | (with_reducible first | exact HB.out | apply below_alloc | apply pw_below_drewN | apply below_drew1 | refine below_set ?_ GE606.out) | exact HB.out)) hb); clear BK606; clear HB; have HO610 := n0_; have BK606 := n1_; have HB := n2_; clear n0_ n1_ n2_; (try clear hb); (try clear hb2); (try clear hk); (try clear hi); (try clear ho0); have hcz10_0 : w9.cell? ⟨gb606, 0, none⟩ = some (.slice A0_0 l0_0.length c0_0) := (blk_cell BK606.out 0).trans rfl; have hcz10_1 : w9.cell? ⟨gb606, 1, none⟩ = some (.slice A0_1 l0_1.length c0_1) := (blk_cell BK606.out 1).trans rfl; have hfz10_0 := blk_frozen BK606.out 0; have hfz10_1 := blk_frozen BK606.out 1))
    go_loopg [5, 19] k (fun kq v5 v19 w' => ∃ (x5_1 : List (List Int)) (x19_1 : Int), v19 = .int .i64 x19_1 ∧ Aside0 (spec_DeadSets.l0 kq t608 x5_1 l0_1 (l0_1.length : Int) x19_1 l0_0 l0_1 = some (r1, r2)) ∧ Aside0 (kq ≤ k) ∧ Aside0 (Kd.S (Kd.slice 3 (Kd.int .i64)) 37 w' w.heap.size (fun k_ => some k_ ≠ (v5 : Value).ownBlock) v609 t608) ∧ Aside0 (Kd.S (Kd.slice 3 (Kd.int .i64)) 37 w' w.heap.size (fun k_ => some k_ ≠ (v609 : Value).ownBlock) v5 x5_1) ∧ Aside0 (w'.heap[gb606]? = some (.cells #[(.slice A0_0 l0_0.length c0_0), (.slice A0_1 l0_1.length c0_1)] 33 (0, 0))) ∧ Aside0 (Below w.heap.size w w'))
    case atStart => exact ⟨(([] : List (List Int))), (0), (by first | rfl | (simp; done) | (simp [*]; done)), H', ⟨Nat.le_refl _⟩, ⟨by (with_reducible repeat (first | apply Kd.S_alloc | apply Kd.S_drewN | apply Kd.S_drew)); exact Kd.S_mono HO610.out (fun _ hk => (by simp [Value.ownBlock]))⟩, ⟨by first | exact Kd.S_nil _ _ _ _ _ | exact Kd.N_nil _ _ _ _ _ | exact Kd.V_nil _ _ _ _ _ | exact Kd.Q_nil _ _ _ _ _ | exact Kd.R_nil _ _ _ _ _⟩, ⟨by (with_reducible repeat (first | refine blk_drewN ?_ _ | refine blk_drew ?_ | refine blk_alloc ?_ _)); exact BK606.out⟩, ⟨by repeat (first | (with_reducible first | exact HB.out | apply below_alloc | apply pw_below_drewN | apply below_drew1 | refine below_set ?_ GE606.out) | exact HB.out)⟩⟩
    case round =>
      clear H'
      try clear c1
      try clear p2
      try clear c3
      try clear c6
      try clear hcz10_0
      try clear hcz10_1
      try clear hcz6_0
      try clear hcz6_1
      try clear hcz8_0
      try clear hcz8_1
      try clear hfz10_0
      try clear hfz10_1
      try clear hfz6_0
      try clear hfz6_1
      try clear hfz8_0
      try clear hfz8_1
      obtain ⟨x5_1, x19_1, rfl, HA, HK1, HO_4, HO_5, BK606, HB⟩ := hrel
      cases gk with
      | zero => exact absurd HA.out (by simp [spec_DeadSets.l0])
      | succ k1 =>
        have H := HA.out
        clear HA
        simp only [spec_DeadSets.l0] at H
        by_cases c11 : x19_1 < (l0_1.length : Int)
        · rw [if_pos c11] at H
          have c11b0 : decide (x19_1 < (l0_1.length : Int)) = true := decide_eq_true c11
          clear c11
          by_cases c12 : 0 ≤ x19_1
          · rw [if_pos c12] at H
            have c12b0 : decide (0 ≤ x19_1) = true := decide_eq_true c12
            clear c12
            by_cases c13 : x19_1 < (l0_1.length : Int)
            · rw [if_pos c13] at H
              have c13b0 : decide (x19_1 < (l0_1.length : Int)) = true := decide_eq_true c13
              clear c13
              have H' := Aside0.mk H
              clear H
              have p611 : 0 ≤ (x19_1 : Int) := of_decide_eq_true (by first | (with_reducible assumption) | assumption)
              have q611 : x19_1 < (l0_1.length : Int) := of_decide_eq_true (by first | (with_reducible assumption) | assumption)
              obtain ⟨ad611, A611_0, c611_0, A611_1, c611_1, e611, hx611_0, hx611_1, hl611_0, hi611_0, hl611_1, hi611_1⟩ := at_T56 HR0_1.out x19_1 p611 q611
              cases e611
              replace hx611_0 := (HB.out.cell (World.block_lt_of_cell? w _ hx611_0)).trans hx611_0
              replace hx611_1 := (HB.out.cell (World.block_lt_of_cell? w _ hx611_1)).trans hx611_1
              have HR611_0 := Aside0.mk hi611_0
              have HC611_0 := Aside0.mk hl611_0
              clear hi611_0 hl611_0
              have HR611_1 := Aside0.mk hi611_1
              have HC611_1 := Aside0.mk hl611_1
              clear hi611_1 hl611_1
              replace p611 := eq_true p611
              replace q611 := eq_true q611
              go_wp2_with (first | ((with_reducible refine gate_dst (N := 7) rfl ?_); refine box_event ?hg (N := 7) ?hd (cs := #[.slice none 0 0, .slice none 0 0]) (t := 56) ?hr ?_; (case hd => rfl); (case hg => rfl); (case hr => first | (go_simp; done) | (go_simp; rfl)); intro gb612 hg w14 hbox hb; have n0_ := Aside0.mk (Kd.S_below (by (with_reducible repeat (first | apply Kd.S_alloc | apply Kd.S_drewN | apply Kd.S_drew)); exact HO_4.out) hb); have n1_ := Aside0.mk (Kd.S_below (by (with_reducible repeat (first | apply Kd.S_alloc | apply Kd.S_drewN | apply Kd.S_drew)); exact HO_5.out) hb); have n2_ := Aside0.mk (blk_below (g := gb606) (o := .cells #[.slice A0_0 l0_0.length c0_0, .slice (some ad611) l0_1.length c0_1] 33 (0, 0)) (by (with_reducible repeat (first | refine blk_drewN ?_ _ | refine blk_drew ?_ | refine blk_alloc ?_ _)); exact BK606.out) hb); have n3_ := Aside0.mk (below_step (by repeat (first | (with_reducible first | exact HB.out | apply below_alloc | apply pw_below_drewN | apply below_drew1 | refine below_set ?_ GE606.out) | exact HB.out)) hb); have n4_ := Aside0.mk (hbox); have n5_ := Aside0.mk ((by rw [hg]; exact (below_size (by repeat (first | (with_reducible first | exact HB.out | apply below_alloc | apply pw_below_drewN | apply below_drew1 | refine below_set ?_ GE606.out) | exact HB.out))) : w.heap.size ≤ gb612)); have n6_ := Aside0.mk ((by rw [hg]; exact (below_size (by repeat (first | (with_reducible first | exact HB.out | apply below_alloc | apply pw_below_drewN | apply below_drew1 | refine below_set ?_ GE606.out) | exact HB.out))) : w.heap.size ≤ gb612)); have n7_ := Aside0.mk ((by rw [hg]; exact Nat.ne_of_lt (blk_lt (g := gb606) (o := .cells #[.slice A0_0 l0_0.length c0_0, .slice (some ad611) l0_1.length c0_1] 33 (0, 0)) (by (with_reducible repeat (first | refine blk_drewN ?_ _ | refine blk_drew ?_ | refine blk_alloc ?_ _)); exact BK606.out)) : gb606 ≠ gb612)); have n8_ := Aside0.mk ((by rw [hg]; exact Nat.ne_of_gt (blk_lt (g := gb606) (o := .cells #[.slice A0_0 l0_0.length c0_0, .slice (some ad611) l0_1.length c0_1] 33 (0, 0)) (by (with_reducible repeat (first | refine blk_drewN ?_ _ | refine blk_drew ?_ | refine blk_alloc ?_ _)); exact BK606.out)) : gb612 ≠ gb606)); clear HO_4; clear HO_5; clear BK606; clear HB; have HO_4 := n0_; have HO_5 := n1_; have BK606 := n2_; have HB := n3_; have BK612 := n4_; have GW612 := n5_; have GE612 := n6_; have NB606_612 := n7_; have NB612_606 := n8_; clear n0_ n1_ n2_ n3_ n4_ n5_ n6_ n7_ n8_; clear hb hbox hg; have hnb15 := NB612_606.out; have hnc15 := NB606_612.out; have hcz16_0 : w14.cell? ⟨gb612, 0, none⟩ = some (.slice none 0 0) := (blk_cell BK612.out 0).trans rfl; have hcz16_1 : w14.cell? ⟨gb612, 1, none⟩ = some (.slice none 0 0) := (blk_cell BK612.out 1).trans rfl; have hfz16_0 := blk_frozen BK612.out 0; have hfz16_1 := blk_frozen BK612.out 1))
              go_loopg [8, 27] k1 (fun kq v8 v27 w' => ∃ (x8_2 : List Int) (x27_2 : Int), v27 = .int .i64 x27_2 ∧ Aside0 (spec_DeadSets.l1 kq t608 x5_1 x19_1 x8_2 l0_1 (l0_1.length : Int) x19_1 ((rd_T56 l0_1 x19_1).f1) (((rd_T56 l0_1 x19_1).f1).length : Int) x27_2 l0_0 l0_1 = some (r1, r2)) ∧ Aside0 (kq ≤ k1) ∧ Aside0 (Kd.S (Kd.slice 3 (Kd.int .i64)) 37 w' w.heap.size (fun k_ => some k_ ≠ (u5 : Value).ownBlock ∧ some k_ ≠ (v8 : Value).ownBlock) v609 t608) ∧ Aside0 (Kd.S (Kd.slice 3 (Kd.int .i64)) 37 w' w.heap.size (fun k_ => some k_ ≠ (v609 : Value).ownBlock ∧ some k_ ≠ (v8 : Value).ownBlock) u5 x5_1) ∧ Aside0 (Kd.R (Kd.int .i64) 3 w' w.heap.size (fun _ => True) v8 x8_2) ∧ Aside0 (w'.heap[gb606]? = some (.cells #[(.slice A0_0 l0_0.length c0_0), (.slice (some ad611) l0_1.length c0_1)] 33 (0, 0))) ∧ Aside0 (w'.heap[gb612]? = some (.cells #[(.slice A611_0 ((rd_T56 l0_1 x19_1).f0).length c611_0), (.slice A611_1 ((rd_T56 l0_1 x19_1).f1).length c611_1)] 56 (0, 0))) ∧ Aside0 (Below w.heap.size w w'))
              case atStart => exact ⟨(([] : List Int)), (0), (by first | rfl | (simp; done) | (simp [*]; done)), H', ⟨Nat.le_refl _⟩, ⟨by (with_reducible repeat (first | apply Kd.S_alloc | apply Kd.S_drewN | apply Kd.S_drew)); exact Kd.S_mono (Kd.S_far (p := ⟨gb612, 1, none⟩) (Kd.S_far (p := ⟨gb612, 0, none⟩) (Kd.S_types HO_4.out BK612.out (by decide)) (fun _ hk => hk.2) (.slice A611_0 ((rd_T56 l0_1 x19_1).f0).length c611_0)) (fun _ hk => hk.2) (.slice A611_1 ((rd_T56 l0_1 x19_1).f1).length c611_1)) (fun _ hk => ⟨hk.1, (by simp [Value.ownBlock])⟩)⟩, ⟨by (with_reducible repeat (first | apply Kd.S_alloc | apply Kd.S_drewN | apply Kd.S_drew)); exact Kd.S_mono (Kd.S_far (p := ⟨gb612, 1, none⟩) (Kd.S_far (p := ⟨gb612, 0, none⟩) (Kd.S_types HO_5.out BK612.out (by decide)) (fun _ hk => hk.2) (.slice A611_0 ((rd_T56 l0_1 x19_1).f0).length c611_0)) (fun _ hk => hk.2) (.slice A611_1 ((rd_T56 l0_1 x19_1).f1).length c611_1)) (fun _ hk => ⟨hk.1, (by simp [Value.ownBlock])⟩)⟩, ⟨by first | exact Kd.R_nil _ _ _ _ _ | exact Kd.N_nil _ _ _ _ _ | exact Kd.V_nil _ _ _ _ _ | exact Kd.Q_nil _ _ _ _ _ | exact Kd.S_nil _ _ _ _ _⟩, ⟨by (with_reducible repeat (first | refine blk_drewN ?_ _ | refine blk_drew ?_ | refine blk_alloc ?_ _)); refine blk_far ?_ NB606_612.out _; (with_reducible repeat (first | refine blk_drewN ?_ _ | refine blk_drew ?_ | refine blk_alloc ?_ _)); refine blk_far ?_ NB606_612.out _; (with_reducible repeat (first | refine blk_drewN ?_ _ | refine blk_drew ?_ | refine blk_alloc ?_ _)); exact BK606.out⟩, ⟨by (with_reducible repeat (first | refine blk_drewN ?_ _ | refine blk_drew ?_ | refine blk_alloc ?_ _)); refine blk_put (cs := #[.slice A611_0 ((rd_T56 l0_1 x19_1).f0).length c611_0, .slice none 0 0]) ?_ 1 _ rfl; (with_reducible repeat (first | refine blk_drewN ?_ _ | refine blk_drew ?_ | refine blk_alloc ?_ _)); refine blk_put (cs := #[.slice none 0 0, .slice none 0 0]) ?_ 0 _ rfl; (with_reducible repeat (first | refine blk_drewN ?_ _ | refine blk_drew ?_ | refine blk_alloc ?_ _)); exact BK612.out⟩, ⟨by repeat (first | (with_reducible first | exact HB.out | apply below_alloc | apply pw_below_drewN | apply below_drew1 | refine below_set ?_ GE606.out | refine below_set ?_ GE612.out) | exact HB.out)⟩⟩
              case round =>
                clear H'
                try clear c1
                try clear p2
                try clear c3
                try clear c6
                try clear p6
                try clear q6
                try clear hx6
                try clear c11
                try clear c11b0
                try clear c12
                try clear c12b0
                try clear c13
                try clear c13b0
                try clear c15
                try clear hcz10_0
                try clear hcz10_1
                try clear hcz16_0
                try clear hcz16_1
                try clear hcz6_0
                try clear hcz6_1
                try clear hcz8_0
                try clear hcz8_1
                try clear hfz10_0
                try clear hfz10_1
                try clear hfz16_0
                try clear hfz16_1
                try clear hfz6_0
                try clear hfz6_1
                try clear hfz8_0
                try clear hfz8_1
                try clear hx611_0
                try clear hx611_1
                try clear p2
                try clear p611
                try clear q611
                obtain ⟨x8_2, x27_2, rfl, HA, HK2, HO_4, HO_5, HO_8, BK606, BK612, HB⟩ := hrel
                cases gk with
                | zero => exact absurd HA.out (by simp [spec_DeadSets.l1])
                | succ k2 =>
                  have H := HA.out
                  clear HA
                  simp only [spec_DeadSets.l1] at H
                  by_cases c17 : x27_2 < (((rd_T56 l0_1 x19_1).f1).length : Int)
                  · rw [if_pos c17] at H
                    have c17b0 : decide (x27_2 < (((rd_T56 l0_1 x19_1).f1).length : Int)) = true := decide_eq_true c17
                    clear c17
                    by_cases c18 : 0 ≤ x27_2
                    · rw [if_pos c18] at H
                      have c18b0 : decide (0 ≤ x27_2) = true := decide_eq_true c18
                      clear c18
                      by_cases c19 : x27_2 < (((rd_T56 l0_1 x19_1).f1).length : Int)
                      · rw [if_pos c19] at H
                        have c19b0 : decide (x27_2 < (((rd_T56 l0_1 x19_1).f1).length : Int)) = true := decide_eq_true c19
                        clear c19
                        replace H := Option.bind_eq_some_iff.mp H
                        obtain ⟨t617, A200, H⟩ := H
                        replace H : ((spec_l1Has.f k2 t617 (rd ((rd_T56 l0_1 x19_1).f1) x27_2)).bind fun t620 => (if t620 = true then (spec_DeadSets.l1 k2 t608 x5_1 x19_1 x8_2 l0_1 (l0_1.length : Int) x19_1 ((rd_T56 l0_1 x19_1).f1) (((rd_T56 l0_1 x19_1).f1).length : Int) (wrap64 (x27_2 + 1)) l0_0 l0_1) else (if x8_2.length < 17592186044416 then (spec_DeadSets.l1 k2 t608 x5_1 x19_1 (x8_2 ++ [rd ((rd_T56 l0_1 x19_1).f1) x27_2]) l0_1 (l0_1.length : Int) x19_1 ((rd_T56 l0_1 x19_1).f1) (((rd_T56 l0_1 x19_1).f1).length : Int) (wrap64 (x27_2 + 1)) l0_0 l0_1) else (none)))) = some (r1, r2) := H
                        have A20 := Aside0.mk A200
                        clear A200
                        replace H := Option.bind_eq_some_iff.mp H
                        obtain ⟨t620, A210, H⟩ := H
                        replace H : (if t620 = true then (spec_DeadSets.l1 k2 t608 x5_1 x19_1 x8_2 l0_1 (l0_1.length : Int) x19_1 ((rd_T56 l0_1 x19_1).f1) (((rd_T56 l0_1 x19_1).f1).length : Int) (wrap64 (x27_2 + 1)) l0_0 l0_1) else (if x8_2.length < 17592186044416 then (spec_DeadSets.l1 k2 t608 x5_1 x19_1 (x8_2 ++ [rd ((rd_T56 l0_1 x19_1).f1) x27_2]) l0_1 (l0_1.length : Int) x19_1 ((rd_T56 l0_1 x19_1).f1) (((rd_T56 l0_1 x19_1).f1).length : Int) (wrap64 (x27_2 + 1)) l0_0 l0_1) else (none))) = some (r1, r2) := H
                        have A21 := Aside0.mk A210
                        clear A210
                        by_cases c22 : t620 = true
                        · subst c22
                          have H1 : (spec_DeadSets.l1 k2 t608 x5_1 x19_1 x8_2 l0_1 (l0_1.length : Int) x19_1 ((rd_T56 l0_1 x19_1).f1) (((rd_T56 l0_1 x19_1).f1).length : Int) (wrap64 (x27_2 + 1)) l0_0 l0_1) = some (r1, r2) := by rw [if_pos rfl] at H; exact H
                          clear H
                          have H := H1
                          clear H1
                          have H' := Aside0.mk H
                          clear H
                          have p616 : 0 ≤ (x27_2 : Int) := of_decide_eq_true (by first | (with_reducible assumption) | assumption)
                          have q616 : x27_2 < (((rd_T56 l0_1 x19_1).f1).length : Int) := of_decide_eq_true (by first | (with_reducible assumption) | assumption)
                          obtain ⟨ad616, e616, hx616_0⟩ := Kd.at_int HR611_1.out x27_2 p616 q616
                          cases e616
                          replace hx616_0 := (HB.out.cell (World.block_lt_of_cell? w _ hx616_0)).trans hx616_0
                          replace p616 := eq_true p616
                          replace q616 := eq_true q616
                          have hnb23 := NB606_612.out
                          have hnc23 := NB612_606.out
                          have hcz24_0 : wr.cell? ⟨gb606, 0, none⟩ = some (.slice A0_0 l0_0.length c0_0) := (blk_cell BK606.out 0).trans rfl
                          have hcz24_1 : wr.cell? ⟨gb606, 1, none⟩ = some (.slice (some ad611) l0_1.length c0_1) := (blk_cell BK606.out 1).trans rfl
                          have hfz24_0 := blk_frozen BK606.out 0
                          have hfz24_1 := blk_frozen BK606.out 1
                          obtain ⟨Ao25, co25, eo25⟩ := Kd.S_slice HO_4.out
                          subst eo25
                          go_wp2_with (first | ((with_reducible refine gate_callee (f := 75) rfl ?_); refine goesL_ (some 34) rfl rfl Try.func75 (by kernel_rfl) rfl #[.agg #[.slice A0_0 l0_0.length c0_0, .slice (some ad611) l0_1.length c0_1], .slice Ao25 t608.length co25, .int .i64 x19_1] rfl (by (try simp only [List.map_toArray, List.map_cons, List.map_nil]); first | done | rfl | (simp only [List.length_drop, List.length_take]; rfl)) ?_; (with_reducible refine (spec_l12Out.calls k2 _ _ l0_0 _ _ l0_1 _ _ t608 x19_1 t617 _ ?side1 ?side2 ?side3 ?side4 ?side5 ?side6 A20.out).mono ?_); (case side1 => repeat (first | exact (Kd.C_below HR0_0.out HB.out) | (with_reducible refine Kd.C_alloc ?_ _) | (with_reducible refine Kd.C_drewN ?_ _) | (with_reducible refine Kd.C_drew ?_))); (case side2 => exact HC0_0.out); (case side3 => repeat (first | exact (Kd.C_below HR0_1.out HB.out) | (with_reducible refine Kd.C_alloc ?_ _) | (with_reducible refine Kd.C_drewN ?_ _) | (with_reducible refine Kd.C_drew ?_))); (case side4 => exact HC0_1.out); (case side5 => repeat (first | exact (Kd.S_reads' HO_4.out).2.2 | (with_reducible refine Kd.C_alloc ?_ _) | (with_reducible refine Kd.C_drewN ?_ _) | (with_reducible refine Kd.C_drew ?_))); (case side6 => exact (Kd.S_reads' HO_4.out).2.1); rintro e w26 ⟨v618, rfl, ho0, hb⟩; refine ⟨_, rfl, ?_⟩; have n0_ := Aside0.mk (Kd.S_elder' (by (with_reducible repeat (first | apply Kd.S_alloc | apply Kd.S_drewN | apply Kd.S_drew)); exact HO_4.out) (Kd.R_base ho0) hb); have n1_ := Aside0.mk (Kd.S_elder' (by (with_reducible repeat (first | apply Kd.S_alloc | apply Kd.S_drewN | apply Kd.S_drew)); exact HO_5.out) (Kd.R_base ho0) hb); have n2_ := Aside0.mk (Kd.R_elder' (by (with_reducible repeat (first | apply Kd.R_alloc | apply Kd.R_drewN | apply Kd.R_drew)); exact HO_8.out) (Kd.R_base ho0) hb); have n3_ := Aside0.mk (Kd.R_lower (Kd.R_new' ho0 (Kd.R_lt (by (with_reducible repeat (first | apply Kd.R_alloc | apply Kd.R_drewN | apply Kd.R_drew)); exact HO_8.out))) (below_size (by repeat (first | (with_reducible first | exact HB.out | apply below_alloc | apply pw_below_drewN | apply below_drew1 | refine below_set ?_ GE606.out | refine below_set ?_ GE612.out) | exact HB.out)))); have n4_ := Aside0.mk (blk_below (g := gb606) (o := .cells #[.slice A0_0 l0_0.length c0_0, .slice (some ad611) l0_1.length c0_1] 33 (0, 0)) (by (with_reducible repeat (first | refine blk_drewN ?_ _ | refine blk_drew ?_ | refine blk_alloc ?_ _)); exact BK606.out) hb); have n5_ := Aside0.mk (blk_below (g := gb612) (o := .cells #[.slice A611_0 ((rd_T56 l0_1 x19_1).f0).length c611_0, .slice (some ad616) ((rd_T56 l0_1 x19_1).f1).length c611_1] 56 (0, 0)) (by (with_reducible repeat (first | refine blk_drewN ?_ _ | refine blk_drew ?_ | refine blk_alloc ?_ _)); exact BK612.out) hb); have n6_ := Aside0.mk (below_step (by repeat (first | (with_reducible first | exact HB.out | apply below_alloc | apply pw_below_drewN | apply below_drew1 | refine below_set ?_ GE606.out | refine below_set ?_ GE612.out) | exact HB.out)) hb); clear HO_4; clear HO_5; clear HO_8; clear BK606; clear BK612; clear HB; have HO_4 := n0_; have HO_5 := n1_; have HO_8 := n2_; have HO619 := n3_; have BK606 := n4_; have BK612 := n5_; have HB := n6_; clear n0_ n1_ n2_ n3_ n4_ n5_ n6_; (try clear hb); (try clear hb2); (try clear hk); (try clear hi); (try clear ho0); obtain ⟨Ao27, co27, eo27⟩ := Kd.R_slice HO619.out; subst eo27) | ((with_reducible refine gate_callee (f := 56) rfl ?_); refine goesL_ (some 36) rfl rfl Try.func56 (by kernel_rfl) rfl #[.slice Ao27 t617.length co27, .int .i64 (rd ((rd_T56 l0_1 x19_1).f1) x27_2)] rfl (by (try simp only [List.map_toArray, List.map_cons, List.map_nil]); first | done | rfl | (simp only [List.length_drop, List.length_take]; rfl)) ?_; (with_reducible refine (spec_l1Has.calls k2 _ _ t617 (rd ((rd_T56 l0_1 x19_1).f1) x27_2) true _ ?side1 ?side2 A21.out).mono ?_); (case side1 => repeat (first | exact (Kd.R_reads' HO619.out).2.2 | (with_reducible refine Kd.C_alloc ?_ _) | (with_reducible refine Kd.C_drewN ?_ _) | (with_reducible refine Kd.C_drew ?_))); (case side2 => exact (Kd.R_reads' HO619.out).2.1); rintro e w' ⟨rfl, ⟨nd, rfl⟩⟩; refine ⟨_, rfl, ?_⟩))
                          go_roundg k2
                          case measure => have := HK1.out; have := HK2.out; omega
                          case rel => exact ⟨(x8_2), (wrap64 (x27_2 + 1)), (by first | rfl | (simp; done) | (simp [*]; done)), H', ⟨by have := HK1.out; have := HK2.out; omega⟩, ⟨by (with_reducible repeat (first | apply Kd.S_alloc | apply Kd.S_drewN | apply Kd.S_drew)); exact Kd.S_mono HO_4.out (fun _ hk => ⟨hk.1.1, hk.1.2⟩)⟩, ⟨by (with_reducible repeat (first | apply Kd.S_alloc | apply Kd.S_drewN | apply Kd.S_drew)); exact Kd.S_mono HO_5.out (fun _ hk => ⟨hk.1.1, hk.1.2⟩)⟩, ⟨by (with_reducible repeat (first | apply Kd.R_alloc | apply Kd.R_drewN | apply Kd.R_drew)); exact Kd.R_mono HO_8.out (fun _ hk => trivial)⟩, ⟨by (with_reducible repeat (first | refine blk_drewN ?_ _ | refine blk_drew ?_ | refine blk_alloc ?_ _)); exact BK606.out⟩, ⟨by (with_reducible repeat (first | refine blk_drewN ?_ _ | refine blk_drew ?_ | refine blk_alloc ?_ _)); exact BK612.out⟩, ⟨by repeat (first | (with_reducible first | exact HB.out | apply below_alloc | apply pw_below_drewN | apply below_drew1 | refine below_set ?_ GE606.out | refine below_set ?_ GE612.out) | exact HB.out)⟩⟩
                        · replace c22 := Bool.eq_false_iff.mpr c22
                          subst c22
                          have H1 : (if x8_2.length < 17592186044416 then (spec_DeadSets.l1 k2 t608 x5_1 x19_1 (x8_2 ++ [rd ((rd_T56 l0_1 x19_1).f1) x27_2]) l0_1 (l0_1.length : Int) x19_1 ((rd_T56 l0_1 x19_1).f1) (((rd_T56 l0_1 x19_1).f1).length : Int) (wrap64 (x27_2 + 1)) l0_0 l0_1) else (none)) = some (r1, r2) := by rw [if_neg (show ¬ (false = true) by decide)] at H; exact H
                          clear H
                          have H := H1
                          clear H1
                          by_cases c28 : x8_2.length < 17592186044416
                          · rw [if_pos c28] at H
                            have LMc28 := Aside0.mk c28
                            clear c28
                            obtain ⟨y621, hy621⟩ : ∃ y_ : List Int, y_ = (x8_2 ++ [rd ((rd_T56 l0_1 x19_1).f1) x27_2]) := ⟨_, rfl⟩
                            replace H : (spec_DeadSets.l1 k2 t608 x5_1 x19_1 y621 l0_1 (l0_1.length : Int) x19_1 ((rd_T56 l0_1 x19_1).f1) (((rd_T56 l0_1 x19_1).f1).length : Int) (wrap64 (x27_2 + 1)) l0_0 l0_1) = some (r1, r2) := by first | (rw [hy621]; with_reducible exact H) | (have H2_ := (Option.bind_some _ _).symm.trans H; rw [hy621]; with_reducible exact H2_) | (have H2_ := (Option.bind_some _ _).symm.trans H; with_reducible exact H2_) | with_reducible exact H | (rw [hy621]; exact H) | exact H
                            have Ny621 := Aside0.mk hy621
                            clear hy621
                            have H' := Aside0.mk H
                            clear H
                            have p616 : 0 ≤ (x27_2 : Int) := of_decide_eq_true (by first | (with_reducible assumption) | assumption)
                            have q616 : x27_2 < (((rd_T56 l0_1 x19_1).f1).length : Int) := of_decide_eq_true (by first | (with_reducible assumption) | assumption)
                            obtain ⟨ad616, e616, hx616_0⟩ := Kd.at_int HR611_1.out x27_2 p616 q616
                            cases e616
                            replace hx616_0 := (HB.out.cell (World.block_lt_of_cell? w _ hx616_0)).trans hx616_0
                            replace p616 := eq_true p616
                            replace q616 := eq_true q616
                            have hnb29 := NB606_612.out
                            have hnc29 := NB612_606.out
                            have hcz30_0 : wr.cell? ⟨gb606, 0, none⟩ = some (.slice A0_0 l0_0.length c0_0) := (blk_cell BK606.out 0).trans rfl
                            have hcz30_1 : wr.cell? ⟨gb606, 1, none⟩ = some (.slice (some ad611) l0_1.length c0_1) := (blk_cell BK606.out 1).trans rfl
                            have hfz30_0 := blk_frozen BK606.out 0
                            have hfz30_1 := blk_frozen BK606.out 1
                            obtain ⟨Ao31, co31, eo31⟩ := Kd.S_slice HO_4.out
                            subst eo31
                            go_wp2_with (first | ((with_reducible refine gate_callee (f := 75) rfl ?_); refine goesL_ (some 34) rfl rfl Try.func75 (by kernel_rfl) rfl #[.agg #[.slice A0_0 l0_0.length c0_0, .slice (some ad611) l0_1.length c0_1], .slice Ao31 t608.length co31, .int .i64 x19_1] rfl (by (try simp only [List.map_toArray, List.map_cons, List.map_nil]); first | done | rfl | (simp only [List.length_drop, List.length_take]; rfl)) ?_; (with_reducible refine (spec_l12Out.calls k2 _ _ l0_0 _ _ l0_1 _ _ t608 x19_1 t617 _ ?side1 ?side2 ?side3 ?side4 ?side5 ?side6 A20.out).mono ?_); (case side1 => repeat (first | exact (Kd.C_below HR0_0.out HB.out) | (with_reducible refine Kd.C_alloc ?_ _) | (with_reducible refine Kd.C_drewN ?_ _) | (with_reducible refine Kd.C_drew ?_))); (case side2 => exact HC0_0.out); (case side3 => repeat (first | exact (Kd.C_below HR0_1.out HB.out) | (with_reducible refine Kd.C_alloc ?_ _) | (with_reducible refine Kd.C_drewN ?_ _) | (with_reducible refine Kd.C_drew ?_))); (case side4 => exact HC0_1.out); (case side5 => repeat (first | exact (Kd.S_reads' HO_4.out).2.2 | (with_reducible refine Kd.C_alloc ?_ _) | (with_reducible refine Kd.C_drewN ?_ _) | (with_reducible refine Kd.C_drew ?_))); (case side6 => exact (Kd.S_reads' HO_4.out).2.1); rintro e w32 ⟨v618, rfl, ho0, hb⟩; refine ⟨_, rfl, ?_⟩; have n0_ := Aside0.mk (Kd.S_elder' (by (with_reducible repeat (first | apply Kd.S_alloc | apply Kd.S_drewN | apply Kd.S_drew)); exact HO_4.out) (Kd.R_base ho0) hb); have n1_ := Aside0.mk (Kd.S_elder' (by (with_reducible repeat (first | apply Kd.S_alloc | apply Kd.S_drewN | apply Kd.S_drew)); exact HO_5.out) (Kd.R_base ho0) hb); have n2_ := Aside0.mk (Kd.R_elder' (by (with_reducible repeat (first | apply Kd.R_alloc | apply Kd.R_drewN | apply Kd.R_drew)); exact HO_8.out) (Kd.R_base ho0) hb); have n3_ := Aside0.mk (Kd.R_lower (Kd.R_new' ho0 (Kd.R_lt (by (with_reducible repeat (first | apply Kd.R_alloc | apply Kd.R_drewN | apply Kd.R_drew)); exact HO_8.out))) (below_size (by repeat (first | (with_reducible first | exact HB.out | apply below_alloc | apply pw_below_drewN | apply below_drew1 | refine below_set ?_ GE606.out | refine below_set ?_ GE612.out) | exact HB.out)))); have n4_ := Aside0.mk (blk_below (g := gb606) (o := .cells #[.slice A0_0 l0_0.length c0_0, .slice (some ad611) l0_1.length c0_1] 33 (0, 0)) (by (with_reducible repeat (first | refine blk_drewN ?_ _ | refine blk_drew ?_ | refine blk_alloc ?_ _)); exact BK606.out) hb); have n5_ := Aside0.mk (blk_below (g := gb612) (o := .cells #[.slice A611_0 ((rd_T56 l0_1 x19_1).f0).length c611_0, .slice (some ad616) ((rd_T56 l0_1 x19_1).f1).length c611_1] 56 (0, 0)) (by (with_reducible repeat (first | refine blk_drewN ?_ _ | refine blk_drew ?_ | refine blk_alloc ?_ _)); exact BK612.out) hb); have n6_ := Aside0.mk (below_step (by repeat (first | (with_reducible first | exact HB.out | apply below_alloc | apply pw_below_drewN | apply below_drew1 | refine below_set ?_ GE606.out | refine below_set ?_ GE612.out) | exact HB.out)) hb); clear HO_4; clear HO_5; clear HO_8; clear BK606; clear BK612; clear HB; have HO_4 := n0_; have HO_5 := n1_; have HO_8 := n2_; have HO619 := n3_; have BK606 := n4_; have BK612 := n5_; have HB := n6_; clear n0_ n1_ n2_ n3_ n4_ n5_ n6_; (try clear hb); (try clear hb2); (try clear hk); (try clear hi); (try clear ho0); obtain ⟨Ao33, co33, eo33⟩ := Kd.R_slice HO619.out; subst eo33) | ((with_reducible refine gate_callee (f := 56) rfl ?_); refine goesL_ (some 36) rfl rfl Try.func56 (by kernel_rfl) rfl #[.slice Ao33 t617.length co33, .int .i64 (rd ((rd_T56 l0_1 x19_1).f1) x27_2)] rfl (by (try simp only [List.map_toArray, List.map_cons, List.map_nil]); first | done | rfl | (simp only [List.length_drop, List.length_take]; rfl)) ?_; (with_reducible refine (spec_l1Has.calls k2 _ _ t617 (rd ((rd_T56 l0_1 x19_1).f1) x27_2) false _ ?side1 ?side2 A21.out).mono ?_); (case side1 => repeat (first | exact (Kd.R_reads' HO619.out).2.2 | (with_reducible refine Kd.C_alloc ?_ _) | (with_reducible refine Kd.C_drewN ?_ _) | (with_reducible refine Kd.C_drew ?_))); (case side2 => exact (Kd.R_reads' HO619.out).2.1); rintro e w' ⟨rfl, ⟨nd, rfl⟩⟩; refine ⟨_, rfl, ?_⟩) | ((with_reducible refine gate_builtin (b := .append) (xs := #[.tmp 38, .tmp 40]) rfl ?_); at_builtin; refine Kd.R_append (Kd.int .i64) (w0 := w) w.heap.size rfl (.tmp 38) (.tmp 40) 37 3 (.int .i64 0) 8 rfl Try.underlying37 info3 rfl (by decide) (by omega) u8 x8_2 (rd ((rd_T56 l0_1 x19_1).f1) x27_2) [.int .i64 (rd ((rd_T56 l0_1 x19_1).f1) x27_2)] (fun k_ => some k_ ≠ (.slice Ao33 t617.length co33 : Value).ownBlock) (fun _ => False) rfl rfl ?aP (fun _ hk => hk.elim) ?aF ?aO ?aB ?aS ?aL ?_; (case aP => exact rfl); (case aB => exact (by repeat (first | (with_reducible first | exact HB.out | apply below_alloc | apply pw_below_drewN | apply below_drew1 | refine below_set ?_ GE606.out | refine below_set ?_ GE612.out) | exact HB.out))); (case aF => exact (fun k_ hk => Kd.fresh' (Kd.R_lt (by (with_reducible repeat (first | apply Kd.R_alloc | apply Kd.R_drewN | apply Kd.R_drew)); exact HO619.out)) k_ hk)); (case aO => exact (by (with_reducible repeat (first | apply Kd.R_alloc | apply Kd.R_drewN | apply Kd.R_drew)); exact Kd.R_mono HO_8.out (fun _ hk => hk.2))); (case aS => exact (below_size (by repeat (first | (with_reducible first | exact HB.out | apply below_alloc | apply pw_below_drewN | apply below_drew1 | refine below_set ?_ GE606.out | refine below_set ?_ GE612.out) | exact HB.out)))); (case aL => have := LMc28.out; omega); intro v622 w34 ho hb hg hat; rw [← Ny621.out] at ho; have n0_ := Aside0.mk (Kd.S_after (ok := (fun k_ => some k_ ≠ (u5 : Value).ownBlock ∧ some k_ ≠ (.slice Ao33 t617.length co33 : Value).ownBlock)) (by (with_reducible repeat (first | apply Kd.S_alloc | apply Kd.S_drewN | apply Kd.S_drew)); exact Kd.S_mono HO_4.out (fun _ hk => ⟨⟨hk.1.1, hk.2⟩, hk.1.2⟩)) hg hat); have n1_ := Aside0.mk (Kd.S_after (ok := (fun k_ => some k_ ≠ (.slice Ao31 t608.length co31 : Value).ownBlock ∧ some k_ ≠ (.slice Ao33 t617.length co33 : Value).ownBlock)) (by (with_reducible repeat (first | apply Kd.S_alloc | apply Kd.S_drewN | apply Kd.S_drew)); exact Kd.S_mono HO_5.out (fun _ hk => ⟨⟨hk.1.1, hk.2⟩, hk.1.2⟩)) hg hat); have n2_ := Aside0.mk (blk_grown (g := gb606) (o := .cells #[.slice A0_0 l0_0.length c0_0, .slice (some ad611) l0_1.length c0_1] 33 (0, 0)) (by (with_reducible repeat (first | refine blk_drewN ?_ _ | refine blk_drew ?_ | refine blk_alloc ?_ _)); exact BK606.out) hg (Kd.R_ne HO_8.out BK606.out (by decide))); have n3_ := Aside0.mk (blk_grown (g := gb612) (o := .cells #[.slice A611_0 ((rd_T56 l0_1 x19_1).f0).length c611_0, .slice (some ad616) ((rd_T56 l0_1 x19_1).f1).length c611_1] 56 (0, 0)) (by (with_reducible repeat (first | refine blk_drewN ?_ _ | refine blk_drew ?_ | refine blk_alloc ?_ _)); exact BK612.out) hg (Kd.R_ne HO_8.out BK612.out (by decide))); have n4_ := Aside0.mk (Kd.R_after (ok := (fun _ => True)) (by (with_reducible repeat (first | apply Kd.R_alloc | apply Kd.R_drewN | apply Kd.R_drew)); exact HO619.out) hg hat); have n5_ := Aside0.mk (hb); have n6_ := Aside0.mk (ho); clear HO_4; clear HO_5; clear BK606; clear BK612; clear HO619; clear HB; clear HO_8; have HO_4 := n0_; have HO_5 := n1_; have BK606 := n2_; have BK612 := n3_; have HO619 := n4_; have HB := n5_; have HO623 := n6_; clear n0_ n1_ n2_ n3_ n4_ n5_ n6_; clear ho hb hg hat))
                            go_roundg k2
                            case measure => have := HK1.out; have := HK2.out; omega
                            case rel => exact ⟨(y621), (wrap64 (x27_2 + 1)), (by first | rfl | (simp; done) | (simp [*]; done)), H', ⟨by have := HK1.out; have := HK2.out; omega⟩, ⟨by (with_reducible repeat (first | apply Kd.S_alloc | apply Kd.S_drewN | apply Kd.S_drew)); exact Kd.S_mono HO_4.out (fun _ hk => ⟨hk.1.1, hk.2⟩)⟩, ⟨by (with_reducible repeat (first | apply Kd.S_alloc | apply Kd.S_drewN | apply Kd.S_drew)); exact Kd.S_mono HO_5.out (fun _ hk => ⟨hk.1.1, hk.2⟩)⟩, ⟨by (with_reducible repeat (first | apply Kd.R_alloc | apply Kd.R_drewN | apply Kd.R_drew)); exact Kd.R_mono HO623.out (fun _ hk => trivial)⟩, ⟨by (with_reducible repeat (first | refine blk_drewN ?_ _ | refine blk_drew ?_ | refine blk_alloc ?_ _)); exact BK606.out⟩, ⟨by (with_reducible repeat (first | refine blk_drewN ?_ _ | refine blk_drew ?_ | refine blk_alloc ?_ _)); exact BK612.out⟩, ⟨by repeat (first | (with_reducible first | exact HB.out | apply below_alloc | apply pw_below_drewN | apply below_drew1 | refine below_set ?_ GE606.out | refine below_set ?_ GE612.out) | exact HB.out)⟩⟩
                          · rw [if_neg c28] at H
                            exact absurd H (by simp)
                      · rw [if_neg c19] at H
                        exact absurd H (by simp)
                    · rw [if_neg c18] at H
                      exact absurd H (by simp)
                  · rw [if_neg c17] at H
                    have c17b0 : decide (x27_2 < (((rd_T56 l0_1 x19_1).f1).length : Int)) = false := decide_eq_false c17
                    clear c17
                    by_cases c35 : x5_1.length < 5864062014805
                    · rw [if_pos c35] at H
                      have LMc35 := Aside0.mk c35
                      clear c35
                      obtain ⟨y613, hy613⟩ : ∃ y_ : List (List Int), y_ = (x5_1 ++ [x8_2]) := ⟨_, rfl⟩
                      replace H : (spec_DeadSets.l0 k2 t608 y613 l0_1 (l0_1.length : Int) (wrap64 (x19_1 + 1)) l0_0 l0_1) = some (r1, r2) := by first | (rw [hy613]; with_reducible exact H) | (have H2_ := (Option.bind_some _ _).symm.trans H; rw [hy613]; with_reducible exact H2_) | (have H2_ := (Option.bind_some _ _).symm.trans H; with_reducible exact H2_) | with_reducible exact H | (rw [hy613]; exact H) | exact H
                      have Ny613 := Aside0.mk hy613
                      clear hy613
                      have H' := Aside0.mk H
                      clear H
                      obtain ⟨Ao37, co37, eo37⟩ := Kd.R_slice HO_8.out
                      subst eo37
                      go_wp2_with (first | ((with_reducible refine gate_builtin (b := .append) (xs := #[.tmp 43, .tmp 45]) rfl ?_); at_builtin; refine Kd.S_append (Kd.slice 3 (Kd.int .i64)) (w0 := w) w.heap.size rfl (.tmp 43) (.tmp 45) 22 37 (.slice none 0 0) 24 rfl Try.underlying22 info37 rfl (by decide) (by omega) u5 x5_1 x8_2 [.slice Ao37 x8_2.length co37] (fun k_ => some k_ ≠ (v609 : Value).ownBlock) (fun k_ => some k_ = (.slice Ao37 x8_2.length co37 : Value).ownBlock) rfl rfl ?aP (fun k_ hk_ => ((Kd.R_mono (ok' := fun k_ => ((fun k_ => some k_ ≠ (v609 : Value).ownBlock)) k_ ∧ some k_ ≠ (u5 : Value).ownBlock) (Kd.R_apart' (Kd.R_apart' (HO_8.out) (Kd.S_typed HO_4.out) (by decide)) (Kd.S_typed HO_5.out) (by decide)) (fun k_ hk => ⟨hk.1.2, hk.2⟩))).1 k_ hk_.symm) ?aF ?aO ?aB ?aS ?aL ?_; (case aP => exact Kd.M_row (Kd.R_mono (Kd.R_tight rfl (Kd.R_mono (ok' := fun k_ => ((fun k_ => some k_ ≠ (v609 : Value).ownBlock)) k_ ∧ some k_ ≠ (u5 : Value).ownBlock) (Kd.R_apart' (Kd.R_apart' (HO_8.out) (Kd.S_typed HO_4.out) (by decide)) (Kd.S_typed HO_5.out) (by decide)) (fun k_ hk => ⟨hk.1.2, hk.2⟩))) (fun _ h_ => h_))); (case aB => exact (by repeat (first | (with_reducible first | exact HB.out | apply below_alloc | apply pw_below_drewN | apply below_drew1 | refine below_set ?_ GE606.out | refine below_set ?_ GE612.out) | exact HB.out))); (case aF => exact (fun k_ hk => Kd.fresh' (Kd.S_lt (by (with_reducible repeat (first | apply Kd.S_alloc | apply Kd.S_drewN | apply Kd.S_drew)); exact HO_4.out)) k_ hk)); (case aO => exact (by (with_reducible repeat (first | apply Kd.S_alloc | apply Kd.S_drewN | apply Kd.S_drew)); exact Kd.S_mono HO_5.out (fun k_ hk => ⟨hk.1, fun e_ => hk.2 e_⟩))); (case aS => exact (below_size (by repeat (first | (with_reducible first | exact HB.out | apply below_alloc | apply pw_below_drewN | apply below_drew1 | refine below_set ?_ GE606.out | refine below_set ?_ GE612.out) | exact HB.out)))); (case aL => have := LMc35.out; omega); intro v614 w36 ho hb hg hat; rw [← Ny613.out] at ho; have n0_ := Aside0.mk (Kd.S_after (ok := (fun k_ => some k_ ≠ (.slice Ao37 x8_2.length co37 : Value).ownBlock)) (by (with_reducible repeat (first | apply Kd.S_alloc | apply Kd.S_drewN | apply Kd.S_drew)); exact Kd.S_mono HO_4.out (fun _ hk => ⟨hk.2, hk.1⟩)) hg hat); have n1_ := Aside0.mk (blk_grown (g := gb606) (o := .cells #[.slice A0_0 l0_0.length c0_0, .slice (some ad611) l0_1.length c0_1] 33 (0, 0)) (by (with_reducible repeat (first | refine blk_drewN ?_ _ | refine blk_drew ?_ | refine blk_alloc ?_ _)); exact BK606.out) hg (Kd.S_ne HO_5.out BK606.out (by decide))); have n2_ := Aside0.mk (blk_grown (g := gb612) (o := .cells #[.slice A611_0 ((rd_T56 l0_1 x19_1).f0).length c611_0, .slice A611_1 ((rd_T56 l0_1 x19_1).f1).length c611_1] 56 (0, 0)) (by (with_reducible repeat (first | refine blk_drewN ?_ _ | refine blk_drew ?_ | refine blk_alloc ?_ _)); exact BK612.out) hg (Kd.S_ne HO_5.out BK612.out (by decide))); have n3_ := Aside0.mk (hb); have n4_ := Aside0.mk (ho); clear HO_4; clear BK606; clear BK612; clear HB; clear HO_5; clear HO_8; have HO_4 := n0_; have BK606 := n1_; have BK612 := n2_; have HB := n3_; have HO615 := n4_; clear n0_ n1_ n2_ n3_ n4_; clear ho hb hg hat))
                      go_roundg k2
                      case measure => have := HK1.out; have := HK2.out; omega
                      case rel => exact ⟨(y613), (wrap64 (x19_1 + 1)), (by first | rfl | (simp; done) | (simp [*]; done)), H', ⟨by have := HK1.out; have := HK2.out; omega⟩, ⟨by (with_reducible repeat (first | apply Kd.S_alloc | apply Kd.S_drewN | apply Kd.S_drew)); exact Kd.S_mono HO_4.out (fun _ hk => hk.2)⟩, ⟨by (with_reducible repeat (first | apply Kd.S_alloc | apply Kd.S_drewN | apply Kd.S_drew)); exact HO615.out⟩, ⟨by (with_reducible repeat (first | refine blk_drewN ?_ _ | refine blk_drew ?_ | refine blk_alloc ?_ _)); exact BK606.out⟩, ⟨by repeat (first | (with_reducible first | exact HB.out | apply below_alloc | apply pw_below_drewN | apply below_drew1 | refine below_set ?_ GE606.out | refine below_set ?_ GE612.out) | exact HB.out)⟩⟩
                    · rw [if_neg c35] at H
                      exact absurd H (by simp)
            · rw [if_neg c13] at H
              exact absurd H (by simp)
          · rw [if_neg c12] at H
            exact absurd H (by simp)
        · rw [if_neg c11] at H
          have c11b0 : decide (x19_1 < (l0_1.length : Int)) = false := decide_eq_false c11
          clear c11
          simp only [Option.some.injEq, Prod.mk.injEq] at H
          obtain ⟨rfl, rfl⟩ := H
          go_wp2
          go_ret2
          exact ⟨_, by first | rfl | (simp [errW_none, errW_some] <;> rfl) | (simp [*, errW_none, errW_some] <;> rfl), by (with_reducible repeat (first | apply Kd.S_alloc | apply Kd.S_drewN | apply Kd.S_drew)); exact Kd.S_mono HO_5.out (fun _ hk => trivial), by repeat (first | (with_reducible first | exact HB.out | apply below_alloc | apply pw_below_drewN | apply below_drew1 | refine below_set ?_ GE606.out) | exact HB.out)⟩
  · replace c3 := Bool.eq_false_iff.mpr c3
    subst c3
    have H1 : (some (([] : List (List Int)), false)) = some (r1, r2) := by rw [if_neg (show ¬ (false = true) by decide)] at H; exact H
    clear H
    have H := H1
    clear H1
    simp only [Option.some.injEq, Prod.mk.injEq] at H
    obtain ⟨rfl, rfl⟩ := H
    go_enter Try.func37, Try.ntmps37
    go_wp2_with (first | ((with_reducible refine gate_dst (N := 1) rfl ?_); refine box_event ?hg (N := 1) ?hd (cs := #[.slice A0_0 l0_0.length c0_0, .slice A0_1 l0_1.length c0_1]) (t := 33) ?hr ?_; (case hd => rfl); (case hg => rfl); (case hr => first | (go_simp; done) | (go_simp; rfl)); intro gb606 hg w38 hbox hb; have n0_ := Aside0.mk (below_step (by repeat (first | (with_reducible first | exact HB.out | apply below_alloc | apply pw_below_drewN | apply below_drew1) | exact HB.out)) hb); have n1_ := Aside0.mk (hbox); have n2_ := Aside0.mk ((by rw [hg]; exact (below_size (by repeat (first | (with_reducible first | exact HB.out | apply below_alloc | apply pw_below_drewN | apply below_drew1) | exact HB.out))) : w.heap.size ≤ gb606)); have n3_ := Aside0.mk ((by rw [hg]; exact (below_size (by repeat (first | (with_reducible first | exact HB.out | apply below_alloc | apply pw_below_drewN | apply below_drew1) | exact HB.out))) : w.heap.size ≤ gb606)); clear HB; have HB := n0_; have BK606 := n1_; have GW606 := n2_; have GE606 := n3_; clear n0_ n1_ n2_ n3_; clear hb hbox hg; have hcz39_0 : w38.cell? ⟨gb606, 0, none⟩ = some (.slice A0_0 l0_0.length c0_0) := (blk_cell BK606.out 0).trans rfl; have hcz39_1 : w38.cell? ⟨gb606, 1, none⟩ = some (.slice A0_1 l0_1.length c0_1) := (blk_cell BK606.out 1).trans rfl; have hfz39_0 := blk_frozen BK606.out 0; have hfz39_1 := blk_frozen BK606.out 1) | ((with_reducible refine gate_callee (f := 13) rfl ?_); refine goesL_ (some 12) rfl rfl Try.func13 (by kernel_rfl) rfl #[.agg #[.slice A0_0 l0_0.length c0_0, .slice A0_1 l0_1.length c0_1]] rfl (by (try simp only [List.map_toArray, List.map_cons, List.map_nil]); first | done | rfl | (simp only [List.length_drop, List.length_take]; rfl)) ?_; (with_reducible refine (spec_GoodFlow.calls k _ _ l0_0 _ _ l0_1 false _ ?side1 ?side2 ?side3 ?side4 A2.out).mono ?_); (case side1 => repeat (first | exact (Kd.C_below HR0_0.out HB.out) | (with_reducible refine Kd.C_alloc ?_ _) | (with_reducible refine Kd.C_drewN ?_ _) | (with_reducible refine Kd.C_drew ?_))); (case side2 => exact HC0_0.out); (case side3 => repeat (first | exact (Kd.C_below HR0_1.out HB.out) | (with_reducible refine Kd.C_alloc ?_ _) | (with_reducible refine Kd.C_drewN ?_ _) | (with_reducible refine Kd.C_drew ?_))); (case side4 => exact HC0_1.out); rintro e w40 ⟨rfl, hb⟩; refine ⟨_, rfl, ?_⟩; have n0_ := Aside0.mk (blk_below (g := gb606) (o := .cells #[.slice A0_0 l0_0.length c0_0, .slice A0_1 l0_1.length c0_1] 33 (0, 0)) (by (with_reducible repeat (first | refine blk_drewN ?_ _ | refine blk_drew ?_ | refine blk_alloc ?_ _)); exact BK606.out) hb); have n1_ := Aside0.mk (below_step (by repeat (first | (with_reducible first | exact HB.out | apply below_alloc | apply pw_below_drewN | apply below_drew1 | refine below_set ?_ GE606.out) | exact HB.out)) hb); clear BK606; clear HB; have BK606 := n0_; have HB := n1_; clear n0_ n1_; (try clear hb); (try clear hb2); (try clear hk); (try clear hi)))
    go_ret2
    exact ⟨_, by first | rfl | (simp [errW_none, errW_some] <;> rfl) | (simp [*, errW_none, errW_some] <;> rfl), by first | exact Kd.S_nil _ _ _ _ _ | exact Kd.N_nil _ _ _ _ _ | exact Kd.V_nil _ _ _ _ _ | exact Kd.Q_nil _ _ _ _ _ | exact Kd.R_nil _ _ _ _ _, by repeat (first | (with_reducible first | exact HB.out | apply below_alloc | apply pw_below_drewN | apply below_drew1 | refine below_set ?_ GE606.out) | exact HB.out)⟩
end Go.Proofs.Ytkfpbblaomgihaa.P

namespace Go.Proofs.Ytkfpbblaomgihaa.P
open Go.RowKit Go.Proofs.YtkfpbblaomgihaaW.PrintWords Go.Proofs.YtkfpbblaomgihaaW.PrintLast Go.Proofs.YtkfpbblaomgihaaW.PrintMore
attribute [local go_sem] max2_int min2_int max_two min_two max_three min_three max_four min_four
def outsF (g : List (List Int)) (R : List (List Bool)) (n : Nat) : List (List Bool) := (List.range n).map (outF g R)
theorem range_getD {n i : Nat} (h : i < n) : (List.range n).getD i 0 = i := by
  rw [List.getD_eq_getElem?_getD, List.getElem?_range h]
  rfl
set_option maxHeartbeats 8000000 in
set_option maxRecDepth 100000 in
theorem impl_liveOut.calls (k : Nat) (p : Addr) (A0 : Option Addr) (c0 : Nat) (g : List (List Int)) (A1 : Option Addr) (c1 : Nat) (bl : List S56) (R : List (List Bool)) (w : World)
    (hp0 : w.cell? p = some (.slice A0 g.length c0)) (hp1 : w.cell? ⟨p.block, p.off + 1, none⟩ = some (.slice A1 bl.length c1))
    (hr0 : Kd.C (Kd.slice 3 (Kd.int .i64)) w A0 g.length g) (hr1 : Kd.C k56 w A1 bl.length bl) (hg : goodF g bl = true) (h : liveL g bl k (List.replicate bl.length (List.replicate 8 false)) = some R) :
    Calls Try.prog 74 #[.pointer (some p)] w fun e w' => ∃ gm, e = .returned (.slice (some ⟨gm, 0, none⟩) bl.length bl.length) ∧ (outsF g R bl.length).length = bl.length ∧ H.Mat 8 (outsF g R bl.length) ∧ H.Own w w' [(gm, H.bcells (outsF g R bl.length).flatten, 78)] := by
  have hlen := goodF_len hg
  have HP0 := Aside0.mk hp0
  have HR0 := Aside0.mk hr0
  have HG := Aside0.mk hg
  have HLEN := Aside0.mk hlen
  have HLV := Aside0.mk (impl_live.calls k p A0 c0 g A1 c1 bl R w hp0 hp1 hr0 hr1 hg h)
  clear hp0 hp1 hr0 hr1 hg h
  have hl1 : 1 ≤ bl.length := hlen.2.1
  have hl2 : bl.length ≤ 12 := hlen.2.2
  clear hlen
  have hmk : ∀ W : World, (Instr.makeSlice 76 (.int .i64 (bl.length : Int)) (.int .i64 (bl.length : Int))).run Try.prog W = .ok (.slice (some ⟨W.heap.size, 0, none⟩) bl.length bl.length) (W.alloc (.cells (H.bcells (List.replicate bl.length (List.replicate 8 false)).flatten) 78)) := fun W => make_names W bl.length (by omega)
  go_enter Try.func74, Try.ntmps74
  go_wp2_with (first | (go_at_call 66; refine HLV.out.mono ?_; rintro e w' ⟨gi, rfl, hRl, hRm, ho⟩; have HO := Aside0.mk ho; have HRL := Aside0.mk hRl; have HRM := Aside0.mk hRm; clear hRl hRm ho) | ((with_reducible refine gate_dst (N := 10) rfl ?_); refine H.own_make HO.out ?hg (N := 10) ?hd (n := bl.length) (cs := H.bcells (List.replicate bl.length (List.replicate 8 false)).flatten) (t := 78) ?hr ?_; (case hd => rfl); (case hg => rfl); (case hr => first | (go_simp; done) | (go_simp; rfl)); intro gs w_ ho_ hb_; clear hmk; replace HO := Aside0.mk ho_; clear ho_ hb_))
  clear HLV
  have HF := Aside0.mk (show ∀ x ∈ List.range bl.length, (outF g R x).length = 8 from fun x hx => outF_len _ _ _ HRM.out (by rw [HRL.out]; exact goodF_next HG.out (List.mem_range.1 hx)))
  have HFM := Aside0.mk (fun i => H.fillP_mat (i := i) HF.out)
  have HFL := Aside0.mk (fun i (hi : i ≤ bl.length) => (H.fillP_len (f := outF g R) (d := List.replicate 8 false) (l := List.range bl.length) (i := i) (by rw [List.length_range]; exact hi)).trans (List.length_range))
  go_loopw [13] (fun v13 wr => ∃ i : Nat, v13 = .int .i64 i ∧ i ≤ bl.length ∧ Aside0 (H.Own w wr [(gi, H.bcells R.flatten, 78), (gs, H.bcells (H.fillP (outF g R) (List.replicate 8 false) (List.range bl.length) i).flatten, 78)])) (fun v13 _ => bl.length - (intOf v13).toNat)
  case atStart => exact ⟨0, rfl, Nat.zero_le _, ⟨by rw [H.fillP_zero, List.length_range]; exact HO.out⟩⟩
  case round =>
    clear HO
    obtain ⟨i, rfl, hi, HO⟩ := hrel
    by_cases hlt : i < bl.length
    · have HI := Aside0.mk hlt
      have HST := Aside0.mk (H.fillP_step (f := outF g R) (d := List.replicate 8 false) (l := List.range bl.length) 0 (by rw [List.length_range]; exact hlt))
      go_wp2_with (first | (go_at_call 63; refine (calls_of_args (by rw [HRL.out]) (impl_out.calls p A0 c0 g gi R i _ (HO.out.old HP0.out) (Kd.C_below HR0.out HO.out.below) (HO.out.get 0 rfl) HRM.out (by have := HLEN.out.1; have := HI.out; omega) (by rw [HRL.out]; exact goodF_next HG.out HI.out))).mono ?_; rintro e w' ⟨rfl, hb⟩; replace HO := Aside0.mk (HO.out.step hb); clear hb) | ((with_reducible refine gate_store (t := 78) (p := 22) rfl ?_); refine H.own_mrow HO.out 1 (n := 8) (r := (outF g R i)) rfl (HFM.out i) rfl rfl rfl rfl rfl (by kernel_rfl) (by rw [HFL.out i (by have := HI.out; omega)]; exact HI.out) (HF.out i (List.mem_range.2 HI.out)) ?_; intro w_ ho_ hg_; replace HO := Aside0.mk ho_; clear ho_ hg_))
      go_roundw
      case rel => exact ⟨i + 1, by go_num, by omega, ⟨by rw [← HST.out, range_getD hlt]; exact HO.out⟩⟩
      case measure => simp [intOf]; omega
    · have hE : i = bl.length := by omega
      subst hE
      go_wp2
      go_ret
      exact ⟨gs, rfl, by unfold outsF; simp, fun r hr => by obtain ⟨x, hx, rfl⟩ := List.mem_map.1 hr; exact HF.out x hx, by
        have := HO.out.take (L := [(gs, H.bcells (H.fillP (outF g R) (List.replicate 8 false) (List.range bl.length) bl.length).flatten, 78)]) (by simp)
        rw [show H.fillP (outF g R) (List.replicate 8 false) (List.range bl.length) bl.length = outsF g R bl.length from by
          have := H.fillP_end (f := outF g R) (d := List.replicate 8 false) (l := List.range bl.length)
          rw [List.length_range] at this
          exact this] at this
        exact this⟩
end Go.Proofs.Ytkfpbblaomgihaa.P

namespace Go.Proofs.Ytkfpbblaomgihaa.P
open Go.RowKit Go.Proofs.YtkfpbblaomgihaaW.PrintWords Go.Proofs.YtkfpbblaomgihaaW.PrintLast Go.Proofs.YtkfpbblaomgihaaW.PrintMore
attribute [local go_sem] max2_int min2_int max_two min_two max_three min_three max_four min_four
theorem upB_len {l : List Int} (h : H.upB l 0 7 0 = true) : l.length ≤ 8 := by
  have h0 := of_decide_eq_true h
  have key : ∀ j, j < l.length → (j : Int) ≤ l.getD j 0 := by
    intro j
    induction j with
    | zero =>
      intro hj
      have h1 := h0 0 hj (Nat.zero_le _)
      unfold H.upAt at h1
      simp only [Bool.and_eq_true, decide_eq_true_eq] at h1
      exact h1.1.1
    | succ j ih =>
      intro hj
      have h1 := h0 (j + 1) hj (Nat.zero_le _)
      unfold H.upAt at h1
      simp only [Bool.and_eq_true, Bool.or_eq_true, decide_eq_true_eq, Nat.add_sub_cancel] at h1
      have h2 := ih (by omega)
      omega
  by_cases h9 : l.length ≤ 8
  · exact h9
  · have h1 := h0 8 (by omega) (Nat.zero_le _)
    have h2 := key 8 (by omega)
    unfold H.upAt at h1
    simp only [Bool.and_eq_true, decide_eq_true_eq] at h1
    omega
def deadR (row : List Bool) (s : List Int) : List Int := s.filter (fun k => !row.getD k.toNat false)
def dsT (n : Nat) (D : Nat → List Int) (i : Nat) (l : List Int) : List (List Int) := (List.range n).map (fun b => if b < i then D b else if b = i then l else [])
theorem dsT_zero (n : Nat) (D : Nat → List Int) : dsT n D 0 [] = List.replicate n [] := by
  unfold dsT
  refine List.ext_getElem (by simp) (fun b h1 h2 => by simp)
theorem dsT_get {n : Nat} (D : Nat → List Int) {i : Nat} (l : List Int) (hi : i < n) : (dsT n D i l).getD i [] = l := by
  unfold dsT
  rw [List.getD_eq_getElem?_getD, List.getElem?_map, List.getElem?_range hi]
  simp
theorem dsT_set {n : Nat} (D : Nat → List Int) {i : Nat} (l l' : List Int) (hi : i < n) : (dsT n D i l).set i l' = dsT n D i l' := by
  refine List.ext_getElem (by simp [dsT]) (fun b h1 h2 => ?_)
  rw [List.getElem_set]
  simp only [dsT, List.getElem_map, List.getElem_range]
  by_cases e : i = b
  · subst e
    rw [if_pos rfl, if_neg (by omega), if_pos rfl]
  · rw [if_neg e]
    by_cases h : b < i
    · rw [if_pos h, if_pos h]
    · rw [if_neg h, if_neg (fun h => e h.symm), if_neg h, if_neg (fun h => e h.symm)]
theorem dsT_next (n : Nat) (D : Nat → List Int) (i : Nat) : dsT n D i (D i) = dsT n D (i + 1) [] := by
  unfold dsT
  refine List.map_congr_left (fun b _ => ?_)
  by_cases h : b < i
  · rw [if_pos h, if_pos (by omega)]
  · rw [if_neg h]
    by_cases e : b = i
    · subst e
      rw [if_pos rfl, if_pos (by omega)]
    · rw [if_neg e, if_neg (by omega)]
      split <;> rfl
theorem dsT_end (n : Nat) (D : Nat → List Int) : dsT n D n [] = (List.range n).map D := by
  unfold dsT
  exact List.map_congr_left (fun b hb => by rw [if_pos (List.mem_range.1 hb)])
theorem deadR_len (row : List Bool) (s : List Int) : (deadR row s).length ≤ s.length := List.length_filter_le _ _
def deadF (b : List S56) (M : List (List Bool)) : List (List Int) := (List.range b.length).map (fun i => deadR (M.getD i []) (b.getD i z56).f1)
def deadSetsF (g : List (List Int)) (b : List S56) : Option (List (List Int) × Bool) :=
  if goodF g b then (liveL g b 98 (List.replicate b.length (List.replicate 8 false))).map (fun R => (deadF b (outsF g R b.length), true)) else some ([], false)
def impl_DeadSets.f (l0_0 : List (List Int)) (l0_1 : List (S56)) : Option (List (List Int) × Bool) := deadSetsF l0_0 l0_1
set_option maxHeartbeats 8000000 in
set_option maxRecDepth 100000 in
theorem impl_DeadSets.calls (A0_0 : Option Addr) (c0_0 : Nat) (l0_0 : List (List Int)) (A0_1 : Option Addr) (c0_1 : Nat) (l0_1 : List (S56)) (r1 : List (List Int)) (r2 : Bool) (w : World) (hr0_0 : Kd.C (Kd.slice 3 (Kd.int .i64)) w A0_0 l0_0.length l0_0) (hc0_0 : l0_0.length ≤ c0_0) (hr0_1 : Kd.C k56 w A0_1 l0_1.length l0_1) (hc0_1 : l0_1.length ≤ c0_1) (h : impl_DeadSets.f l0_0 l0_1 = some (r1, r2)) :
    Calls Try.prog 38 #[.agg #[.slice A0_0 l0_0.length c0_0, .slice A0_1 l0_1.length c0_1]] w fun e w' => ∃ v0_ : Value, e = .returned (.tuple #[v0_, .bool r2]) ∧ Kd.S (Kd.slice 3 (Kd.int .i64)) 37 w' w.heap.size (fun _ => True) v0_ r1 ∧ Below w.heap.size w w' := by
  replace h : deadSetsF l0_0 l0_1 = some (r1, r2) := h
  have HR0 := Aside0.mk hr0_0
  have HC0 := Aside0.mk hc0_0
  have HR1 := Aside0.mk hr0_1
  have HC1 := Aside0.mk hc0_1
  clear hr0_0 hc0_0 hr0_1 hc0_1
  have HO := Aside0.mk (H.Own.nil w)
  unfold deadSetsF at h
  have HK := Aside0.mk (fun (W : World) (hb : Below w.heap.size w W) => impl_GoodFlow.calls A0_0 c0_0 l0_0 A0_1 c0_1 l0_1 _ W (Kd.C_below HR0.out hb) HC0.out (Kd.C_below HR1.out hb) HC1.out rfl)
  have hi33 : (Try.prog.info? 33).map (·.size) = some 2 := by kernel_rfl
  have HI := Aside0.mk hi33
  clear hi33
  cases hg : goodF l0_0 l0_1 with
  | false =>
    rw [hg, if_neg (by simp)] at h
    simp only [Option.some.injEq, Prod.mk.injEq] at h
    obtain ⟨rfl, rfl⟩ := h
    rw [hg] at HK
    clear hg
    go_enter Try.func38, Try.ntmps38
    go_wp2_with (first | ((with_reducible refine gate_dst (N := 1) rfl ?_); refine H.own_box HO.out ?hg (N := 1) ?hd (cs := #[Value.slice A0_0 l0_0.length c0_0, Value.slice A0_1 l0_1.length c0_1]) (t := 33) ?hr ?_; (case hd => rfl); (case hg => rfl); (case hr => first | (go_simp; done) | (go_simp; rfl)); intro gp w_ ho_ hb_; replace HO := Aside0.mk ho_; clear ho_ hb_) | ((with_reducible refine gate_dst (N := 10) rfl ?_); refine wpList_load_row rfl 33 (.tmp 1) rfl _ rfl 33 _ (0, 0) _ (HO.out.get 0 rfl) Try.underlying33 rfl HI.out ?_) | (go_at_call 15; refine (HK.out _ HO.out.below).mono ?_; rintro e w' ⟨rfl, hb⟩; replace HO := Aside0.mk (HO.out.step hb); clear hb))
    go_ret2
    exact ⟨_, rfl, Kd.S_nil _ _ _ _ _, HO.out.below⟩
  | true =>
    rw [hg, if_pos rfl] at h
    obtain ⟨R, hR, he⟩ := Option.map_eq_some_iff.1 h
    simp only [Prod.mk.injEq] at he
    obtain ⟨rfl, rfl⟩ := he
    rw [hg] at HK
    have HG := Aside0.mk hg
    have HLV := Aside0.mk hR
    have hlen := goodF_len hg
    have hl1 : 1 ≤ l0_1.length := hlen.2.1
    have hl2 : l0_1.length ≤ 12 := hlen.2.2
    have hII : (Try.prog.info? 37).map (·.size) = some 1 := by kernel_rfl
    have HII := Aside0.mk hII
    clear hg h hR hlen hII
    go_enter Try.func38, Try.ntmps38
    go_wp2_with (first | ((with_reducible refine gate_dst (N := 1) rfl ?_); refine H.own_box HO.out ?hg (N := 1) ?hd (cs := #[Value.slice A0_0 l0_0.length c0_0, Value.slice A0_1 l0_1.length c0_1]) (t := 33) ?hr ?_; (case hd => rfl); (case hg => rfl); (case hr => first | (go_simp; done) | (go_simp; rfl)); intro gp w_ ho_ hb_; replace HO := Aside0.mk ho_; clear ho_ hb_) | ((with_reducible refine gate_dst (N := 10) rfl ?_); refine wpList_load_row rfl 33 (.tmp 1) rfl _ rfl 33 _ (0, 0) _ (HO.out.get 0 rfl) Try.underlying33 rfl HI.out ?_) | (go_at_call 15; refine (HK.out _ HO.out.below).mono ?_; rintro e w' ⟨rfl, hb⟩; replace HO := Aside0.mk (HO.out.step hb); clear hb) | (go_at_call 74; refine (impl_liveOut.calls 98 ⟨gp, 0, none⟩ A0_0 c0_0 l0_0 A0_1 c0_1 l0_1 R _ (HO.out.cell 0 rfl 0) (HO.out.cell 0 rfl 1) (Kd.C_below HR0.out HO.out.below) (Kd.C_below HR1.out HO.out.below) HG.out HLV.out).mono ?_; rintro e w' ⟨gm, rfl, hRl, hRm, ho⟩; have HML := Aside0.mk hRl; have HMM := Aside0.mk hRm; replace HO := Aside0.mk (HO.out.join ho); clear hRl hRm ho) | (((with_reducible refine gate_dst (N := 16) rfl ?_); refine Kd.S_make (Kd.slice 3 (Kd.int .i64)) (w0 := w) w.heap.size 37 rfl (N := 16) rfl 22 _ _ rfl (l0_1.length : Int) rfl rfl Try.underlying22 (.slice none 0 0) 24 info37 rfl (by decide) (by omega) [] (ok := fun _ => True) (okp := fun _ => True) ⟨_, rfl, Kd.R_nil _ _ _ _ _⟩ (fun _ hk => hk) trivial (by omega) (by simp only [Int.toNat_natCast]; omega) HO.out.below HO.out.size ?_; intro vs w_ ho_ hb_ hg_ hnew_; replace HO := Aside0.mk (HO.out.grown hg_ (fun k hk => by cases hk)); have HS := Aside0.mk ho_; clear ho_ hb_ hg_ hnew_); have hx18 := HO.out.cell 0 rfl 1))
    rw [Int.toNat_natCast] at HS
    obtain ⟨gs, cs, rfl, hgs0, _, _⟩ := Kd.S_form HS.out (by simp; omega)
    rw [List.length_replicate] at HS ⊢
    have HGS0 := Aside0.mk hgs0
    clear hgs0
    obtain ⟨M, hM⟩ : ∃ M, outsF l0_0 R l0_1.length = M := ⟨_, rfl⟩
    rw [hM] at HO HML HMM
    have HMD := Aside0.mk hM
    clear hM
    go_loopw [20] (fun v20 wr => ∃ (i : Nat), v20 = .int .i64 i ∧ i ≤ l0_1.length ∧ Aside0 (Kd.S (Kd.slice 3 (Kd.int .i64)) 37 wr w.heap.size (fun _ => True) (.slice (some ⟨gs, 0, none⟩) l0_1.length cs) (dsT l0_1.length (fun b => deadR (M.getD b []) (l0_1.getD b z56).f1) i [])) ∧ Aside0 (H.Own w wr [(gp, #[Value.slice A0_0 l0_0.length c0_0, Value.slice A0_1 l0_1.length c0_1], 33), (gm, H.bcells M.flatten, 78)])) (fun v20 _ => l0_1.length - (intOf v20).toNat)
    case atStart => exact ⟨0, rfl, Nat.zero_le _, ⟨by rw [dsT_zero]; exact HS.out⟩, HO⟩
    case round =>
      clear HO HS hx18
      obtain ⟨i, rfl, hi, HS, HO⟩ := hrel
      by_cases hlt : i < l0_1.length
      · have hil : (i : Int) < (l0_1.length : Int) := by omega
        obtain ⟨ad, B0, d0, B1, d1, ea, hb0, hb1, hd0, hc0, hd1, hc1⟩ := at_T56 HR1.out (i : Int) (by omega) hil
        rw [Int.toNat_natCast] at hb0 hb1
        have hrd : rd_T56 l0_1 (i : Int) = l0_1.getD i z56 := rfl
        rw [hrd] at hb0 hb1 hd0 hc0 hd1 hc1
        have hblk := (goodF_blk HG.out hlt).2
        obtain ⟨DD, hDD⟩ : ∃ DD : Nat → List Int, (fun b => deadR (M.getD b []) (l0_1.getD b z56).f1) = DD := ⟨_, rfl⟩
        have hDi : DD i = deadR (M.getD i []) (l0_1.getD i z56).f1 := by rw [← hDD]
        have HDD := Aside0.mk hDD
        rw [hDD] at HS
        obtain ⟨x, hx⟩ : ∃ x, l0_1.getD i z56 = x := ⟨_, rfl⟩
        rw [hx] at hb0 hb1 hd0 hc0 hd1 hc1 hblk hDi
        obtain ⟨s0, hs0⟩ : ∃ s, x.f0 = s := ⟨_, rfl⟩
        obtain ⟨s1, hs1⟩ : ∃ s, x.f1 = s := ⟨_, rfl⟩
        rw [hs0] at hb0 hd0 hc0
        rw [hs1] at hb1 hd1 hc1 hblk hDi
        have HDI := Aside0.mk hDi
        have HC2 := Aside0.mk hc1
        have HBK := Aside0.mk hblk
        have HRW := Aside0.mk (HMM.out.row (k := i) (by rw [HML.out]; exact hlt))
        have HIM := Aside0.mk (show i < M.length by rw [HML.out]; exact hlt)
        have hsl := hc1.2.1
        have hs64 : s1.length ≤ 8 := by
          have := upB_len hblk
          omega
        subst ea
        replace hb0 := HO.out.old hb0
        replace hb1 := HO.out.old hb1
        clear hrd hDD hDi hx hs0 hs1 hc0 hc1 hd0 hd1 hblk
        go_wp2_with (first | ((with_reducible refine gate_dst (N := 7) rfl ?_); refine H.own_box HO.out ?hg (N := 7) ?hd (cs := #[Value.slice none 0 0, Value.slice none 0 0]) (t := 56) ?hr ?_; (case hd => rfl); (case hg => rfl); (case hr => first | (go_simp; done) | (go_simp; rfl)); intro gx w_ ho_ hb_; replace HS := Aside0.mk (Kd.S_below HS.out hb_); replace HO := Aside0.mk ho_; clear ho_ hb_) | ((with_reducible refine gate_store (t := 56) (p := 7) rfl ?_); refine H.own_store HO.out 2 rfl rfl rfl rfl rfl (u := .agg #[Value.slice B0 s0.length d0, Value.slice B1 s1.length d1]) (seg := [Value.slice B0 s0.length d0, Value.slice B1 s1.length d1]) rfl rfl (by kernel_rfl) (by simp [Value.oneCell']) (by simp) (cs' := #[Value.slice B0 s0.length d0, Value.slice B1 s1.length d1]) rfl ?_; intro w_ ho_ hg_; replace HS := Aside0.mk (HO.out.keepS 2 rfl HS.out hg_ (by decide)); replace HO := Aside0.mk ho_; have hx25 := HO.out.cell 2 rfl 1; clear ho_ hg_ hb0 hb1))
        go_loopw [28] (fun v28 wr => ∃ (j : Nat), v28 = .int .i64 j ∧ j ≤ s1.length ∧ Aside0 (Kd.S (Kd.slice 3 (Kd.int .i64)) 37 wr w.heap.size (fun _ => True) (.slice (some ⟨gs, 0, none⟩) l0_1.length cs) (dsT l0_1.length DD i (deadR (M.getD i []) (s1.take j)))) ∧ Aside0 (H.Own w wr [(gp, #[Value.slice A0_0 l0_0.length c0_0, Value.slice (some ad) l0_1.length c0_1], 33), (gm, H.bcells M.flatten, 78), (gx, #[Value.slice B0 s0.length d0, Value.slice B1 s1.length d1], 56)])) (fun v28 _ => s1.length - (intOf v28).toNat)
        case atStart => exact ⟨0, rfl, Nat.zero_le _, HS, HO⟩
        case round =>
          clear HO HS hx25
          obtain ⟨j, rfl, hj, HS, HO⟩ := hrel
          by_cases hlt2 : j < s1.length
          · obtain ⟨ad2, e2, hc2⟩ := Kd.at_int HC2.out (j : Int) (by omega) (by omega)
            subst e2
            rw [Int.toNat_natCast] at hc2
            have hd : rd s1 (j : Int) = s1.getD j 0 := rfl
            rw [hd] at hc2
            have htk : s1.take (j + 1) = s1.take j ++ [s1.getD j 0] := by rw [List.take_add_one, List.getElem?_eq_getElem hlt2, List.getD_eq_getElem?_getD, List.getElem?_eq_getElem hlt2]; rfl
            have hin := upB_mem HBK.out (s1.getD j 0) (by rw [List.getD_eq_getElem?_getD, List.getElem?_eq_getElem hlt2]; exact List.getElem_mem hlt2)
            obtain ⟨k, hkk⟩ : ∃ k : Nat, s1.getD j 0 = (k : Int) := ⟨(s1.getD j 0).toNat, by omega⟩
            rw [hkk] at hc2 htk hin
            have hk8 : k < 8 := by omega
            have hk8' : (k : Int) < 8 := by omega
            have hcy := HO.out.old hc2
            have hjl : (j : Int) < (s1.length : Int) := by omega
            have hbit := HO.out.mat 1 (n := 8) rfl HMM.out HIM.out hk8
            obtain ⟨bit, hb⟩ : ∃ bit, (M.getD i []).getD k false = bit := ⟨_, rfl⟩
            rw [hb] at hbit
            have hst : deadR (M.getD i []) (s1.take (j + 1)) = if bit then deadR (M.getD i []) (s1.take j) else deadR (M.getD i []) (s1.take j) ++ [(k : Int)] := by
              rw [htk]
              unfold deadR
              rw [List.filter_append, List.filter_cons, List.filter_nil, Int.toNat_natCast, hb]
              cases bit <;> simp
            have HST := Aside0.mk hst
            have hDL : (deadR (M.getD i []) (s1.take j)).length ≤ 8 := by
              have := deadR_len (M.getD i []) (s1.take j)
              rw [List.length_take] at this
              omega
            clear hd htk hkk hin hc2 hb hst
            cases bit with
            | true =>
              go_wp2
              go_roundw
              case rel => exact ⟨j + 1, by go_num, by omega, ⟨by rw [HST.out, if_pos rfl]; exact HS.out⟩, HO⟩
              case measure => simp [intOf]; omega
            | false =>
              obtain ⟨oki, u, hu, hRu, hH⟩ := H.S_hole HS.out hlt
              have hgt := Kd.S_typed HS.out gs (by simp [Value.ownBlock])
              rw [dsT_get _ _ hlt] at hRu
              generalize hDLe : deadR (M.getD i []) (s1.take j) = DL at hRu hDL hH HST
              have HRU := Aside0.mk hRu
              have HH := Aside0.mk hH
              have HGT := Aside0.mk hgt
              have HLT := Aside0.mk hlt
              clear hRu hH hgt HS hDLe
              go_wp2_with (first | ((with_reducible refine gate_builtin (b := .append) (xs := #[.tmp 44, .tmp 46]) rfl ?_); at_builtin; go_loud (refine H.own_eapp HO.out HH.out HRU.out rfl (.tmp 44) (.tmp 46) 37 rfl Try.underlying37 info3 (k : Int) rfl rfl (by omega) (by simp) ?_; intro v1 w_ ho_ hh_ hr_ hg_; have HW1 := Aside0.mk hr_; replace HH := Aside0.mk hh_; replace HGT := Aside0.mk (HGT.out.imp (fun cells hc => (hg_.block gs (blk_lt hc) (fun he => Kd.R_ne HRU.out hc (by decide) he)).trans hc)); replace HO := Aside0.mk ho_; clear ho_ hh_ hr_ hg_ hu hcy hbit)) | ((with_reducible refine gate_store (t := 37) (p := 48) rfl ?_); go_loud (refine H.own_eput HO.out HH.out HW1.out (Nat.le_refl _) (fun q hq => by rcases HW1.out.1 q hq with h | h; exact .inl h; exact .inr ⟨trivial, h⟩) rfl rfl rfl rfl rfl HII.out HLT.out HGS0.out HGT.out (by simp) ?_; intro w_ ho_ hs_ hg_; have HS := Aside0.mk hs_; replace HO := Aside0.mk ho_; clear ho_ hs_ hg_)))
              go_roundw
              case rel => exact ⟨j + 1, by go_num, by omega, ⟨by rw [HST.out, if_neg (by simp)]; have := HS.out; rw [dsT_set _ _ _ HLT.out] at this; exact this⟩, HO⟩
              case measure => simp [intOf]; omega
          · have hE : j = s1.length := by omega
            subst hE
            go_wp2
            go_roundw
            case rel => exact ⟨i + 1, by go_num, by omega, ⟨by have := HS.out; rw [List.take_length, ← HDI.out, dsT_next] at this; rw [HDD.out]; exact this⟩, ⟨HO.out.take (by simp)⟩⟩
            case measure => simp [intOf]; omega
      · have hE : i = l0_1.length := by omega
        subst hE
        have hfin := dsT_end l0_1.length (fun b => deadR (M.getD b []) (l0_1.getD b z56).f1)
        have HFIN := Aside0.mk hfin
        clear hfin
        go_wp2
        go_ret2
        exact ⟨_, rfl, by have := HS.out; rw [HFIN.out] at this; unfold deadF; rw [HMD.out]; exact this, HO.out.below⟩
end Go.Proofs.Ytkfpbblaomgihaa.P

namespace Go.Proofs.Ytkfpbblaomgihaa.P
open Go.RowKit Go.Proofs.YtkfpbblaomgihaaW.PrintWords Go.Proofs.YtkfpbblaomgihaaW.PrintLast Go.Proofs.YtkfpbblaomgihaaW.PrintMore
attribute [local go_sem] max2_int min2_int max_two min_two max_three min_three max_four min_four
def laws_FnExactDeadSets.good (k : Nat) (l0_0 : List (List Int)) (l0_1 : List S97) : Prop := ∃ z0 : Int, ∃ y0_0 : List (List Int), ∃ y0_1 : List S56, ∃ (s1 : List (List Int)) (s2 : Bool), laws_szFlow.f k l0_0 l0_1 1048576 = some z0 ∧ 0 ≤ z0 ∧ laws_toFlow.f k l0_0 l0_1 = some (y0_0, y0_1) ∧ spec_DeadSets.f k y0_0 y0_1 = some (s1, s2) ∧ impl_DeadSets.f y0_0 y0_1 = some (s1, s2) ∧ laws_eqIntSS.f k s1 s1 = some true ∧ laws_eqFlow.f k y0_0 y0_1 y0_0 y0_1 = some true ∧ 1 + (H.total s1 : Int) ≤ 4611686018427387904 ∧ laws_heldIntSS.f k (H.markSS s1 1) 1 = some (1 + (H.total s1 : Int)) ∧ y0_0.length ≤ 1048576 ∧ y0_1.length ≤ 1048576 ∧ 1 + ((H.total y0_0 : Int) + (H.sumN (blkLen y0_1) (y0_1.length * 2) : Int) : Int) ≤ 4611686018427387904
def laws_FnExactDeadSets.skip0 (k : Nat) (l0_0 : List (List Int)) (l0_1 : List S97) : Prop := ∃ z0 : Int, laws_szFlow.f k l0_0 l0_1 1048576 = some z0 ∧ z0 < 0
def laws_FnExactDeadSets.ok (k : Nat) (l0_0 : List (List Int)) (l0_1 : List S97) : Prop := laws_FnExactDeadSets.skip0 k l0_0 l0_1 ∨ laws_FnExactDeadSets.good k l0_0 l0_1
set_option maxHeartbeats 8000000 in
set_option maxRecDepth 100000 in
theorem laws_FnExactDeadSets.s0 (k : Nat) (A0_0 : Option Addr) (c0_0 : Nat) (l0_0 : List (List Int)) (A0_1 : Option Addr) (c0_1 : Nat) (l0_1 : List S97) (w : World) (hr0_0 : Kd.C (Kd.slice 3 (Kd.int .i64)) w A0_0 l0_0.length l0_0) (hc0_0 : l0_0.length ≤ c0_0) (hr0_1 : Kd.C k97 w A0_1 l0_1.length l0_1) (hc0_1 : l0_1.length ≤ c0_1) (h : laws_FnExactDeadSets.skip0 k l0_0 l0_1) :
    Calls Try.prog 8 #[.agg #[.slice A0_0 l0_0.length c0_0, .slice A0_1 l0_1.length c0_1]] w fun e w' => e = .returned (.bool true) ∧ Below w.heap.size w w' := by
  have HR0_0 := Aside0.mk hr0_0
  have HC0_0 := Aside0.mk hc0_0
  have HR0_1 := Aside0.mk hr0_1
  have HC0_1 := Aside0.mk hc0_1
  clear hr0_0 hc0_0 hr0_1 hc0_1
  have HO := Aside0.mk (H.Own.nil w)
  unfold laws_FnExactDeadSets.skip0 at h
  obtain ⟨z0, ⟨hsz0, hz0⟩⟩ := h
  have HSZ0 := Aside0.mk hsz0
  clear hsz0
  go_enter Try.func8, Try.ntmps8
  go_wp2_with (first | ((with_reducible refine gate_dst (N := 1) rfl ?_); refine H.own_box HO.out ?hg (N := 1) ?hd (cs := #[Value.slice A0_0 l0_0.length c0_0, Value.slice A0_1 l0_1.length c0_1]) (t := 27) ?hr ?_; (case hd => rfl); (case hg => rfl); (case hr => first | (go_simp; done) | (go_simp; rfl)); intro gb0 w_ ho_ hb_; replace HO := Aside0.mk ho_; clear ho_ hb_) | ((with_reducible refine gate_dst (N := 14) rfl ?_); refine wpList_load_row rfl 27 (.tmp 1) rfl _ rfl 27 _ (0, 0) _ (HO.out.get 0 rfl) Try.underlying27 rfl (by kernel_rfl) ?_) | ((with_reducible refine gate_dst (N := 20) rfl ?_); refine wpList_load_row rfl 27 (.tmp 1) rfl _ rfl 27 _ (0, 0) _ (HO.out.get 0 rfl) Try.underlying27 rfl (by kernel_rfl) ?_) | ((with_reducible refine gate_dst (N := 25) rfl ?_); refine wpList_load_row rfl 27 (.tmp 1) rfl _ rfl 27 _ (0, 0) _ (HO.out.get 0 rfl) Try.underlying27 rfl (by kernel_rfl) ?_) | ((with_reducible refine gate_dst (N := 28) rfl ?_); refine wpList_load_row rfl 33 (.tmp 6) rfl _ rfl 33 _ (0, 0) _ (HO.out.get 1 rfl) Try.underlying33 rfl (by kernel_rfl) ?_) | ((with_reducible refine gate_dst (N := 46) rfl ?_); refine wpList_load_row rfl 33 (.tmp 6) rfl _ rfl 33 _ (0, 0) _ (HO.out.get 1 rfl) Try.underlying33 rfl (by kernel_rfl) ?_) | ((with_reducible refine gate_dst (N := 74) rfl ?_); refine wpList_load_row rfl 27 (.tmp 1) rfl _ rfl 27 _ (0, 0) _ (HO.out.get 0 rfl) Try.underlying27 rfl (by kernel_rfl) ?_))
  refine (laws_szFlow.calls k _ _ l0_0 _ _ l0_1 1048576 z0 _ (Kd.C_below HR0_0.out HO.out.below) HC0_0.out (Kd.C_below HR0_1.out HO.out.below) HC0_1.out HSZ0.out).mono ?_
  rintro e w_ ⟨rfl, hb⟩
  replace HO := Aside0.mk (HO.out.step hb)
  clear hb
  go_wp2_with (first | ((with_reducible refine gate_dst (N := 1) rfl ?_); refine H.own_box HO.out ?hg (N := 1) ?hd (cs := #[Value.slice A0_0 l0_0.length c0_0, Value.slice A0_1 l0_1.length c0_1]) (t := 27) ?hr ?_; (case hd => rfl); (case hg => rfl); (case hr => first | (go_simp; done) | (go_simp; rfl)); intro gb0 w_ ho_ hb_; replace HO := Aside0.mk ho_; clear ho_ hb_) | ((with_reducible refine gate_dst (N := 14) rfl ?_); refine wpList_load_row rfl 27 (.tmp 1) rfl _ rfl 27 _ (0, 0) _ (HO.out.get 0 rfl) Try.underlying27 rfl (by kernel_rfl) ?_) | ((with_reducible refine gate_dst (N := 20) rfl ?_); refine wpList_load_row rfl 27 (.tmp 1) rfl _ rfl 27 _ (0, 0) _ (HO.out.get 0 rfl) Try.underlying27 rfl (by kernel_rfl) ?_) | ((with_reducible refine gate_dst (N := 25) rfl ?_); refine wpList_load_row rfl 27 (.tmp 1) rfl _ rfl 27 _ (0, 0) _ (HO.out.get 0 rfl) Try.underlying27 rfl (by kernel_rfl) ?_) | ((with_reducible refine gate_dst (N := 28) rfl ?_); refine wpList_load_row rfl 33 (.tmp 6) rfl _ rfl 33 _ (0, 0) _ (HO.out.get 1 rfl) Try.underlying33 rfl (by kernel_rfl) ?_) | ((with_reducible refine gate_dst (N := 46) rfl ?_); refine wpList_load_row rfl 33 (.tmp 6) rfl _ rfl 33 _ (0, 0) _ (HO.out.get 1 rfl) Try.underlying33 rfl (by kernel_rfl) ?_) | ((with_reducible refine gate_dst (N := 74) rfl ?_); refine wpList_load_row rfl 27 (.tmp 1) rfl _ rfl 27 _ (0, 0) _ (HO.out.get 0 rfl) Try.underlying27 rfl (by kernel_rfl) ?_))
  go_ret
  exact ⟨rfl, HO.out.below⟩
set_option maxHeartbeats 8000000 in
set_option maxRecDepth 100000 in
theorem laws_FnExactDeadSets.whole (k : Nat) (A0_0 : Option Addr) (c0_0 : Nat) (l0_0 : List (List Int)) (A0_1 : Option Addr) (c0_1 : Nat) (l0_1 : List S97) (w : World) (hr0_0 : Kd.C (Kd.slice 3 (Kd.int .i64)) w A0_0 l0_0.length l0_0) (hc0_0 : l0_0.length ≤ c0_0) (hr0_1 : Kd.C k97 w A0_1 l0_1.length l0_1) (hc0_1 : l0_1.length ≤ c0_1) (h : laws_FnExactDeadSets.good k l0_0 l0_1) :
    Calls Try.prog 8 #[.agg #[.slice A0_0 l0_0.length c0_0, .slice A0_1 l0_1.length c0_1]] w fun e w' => e = .returned (.bool true) ∧ Below w.heap.size w w' := by
  have HR0_0 := Aside0.mk hr0_0
  have HC0_0 := Aside0.mk hc0_0
  have HR0_1 := Aside0.mk hr0_1
  have HC0_1 := Aside0.mk hc0_1
  clear hr0_0 hc0_0 hr0_1 hc0_1
  have HO := Aside0.mk (H.Own.nil w)
  unfold laws_FnExactDeadSets.good at h
  obtain ⟨z0, y0_0, y0_1, s1, s2, hsz0, hz0, hto0, hspec, himpl, heqr, heq0, htot, hheld, hyl0, hym0, hb0⟩ := h
  have HSZ0 := Aside0.mk hsz0
  have HTO0 := Aside0.mk hto0
  have HSPEC := Aside0.mk hspec
  have HIMPL := Aside0.mk himpl
  have HEQR := Aside0.mk heqr
  have HEQ0 := Aside0.mk heq0
  have HTOT := Aside0.mk htot
  have HHELD := Aside0.mk hheld
  have HB0 := Aside0.mk hb0
  clear hsz0 hto0 hspec himpl heqr heq0 htot hheld hb0
  obtain ⟨K2, hK2⟩ : ∃ K2 : Int, 1 + (H.total s1 : Int) = K2 := ⟨_, rfl⟩
  have hk2 : 0 ≤ K2 := by omega
  have HK2 := Aside0.mk hK2
  clear hK2
  have HSZW := Aside0.mk (rfl : w.heap.size = w.heap.size)
  go_enter Try.func8, Try.ntmps8
  go_wp2_with (first | ((with_reducible refine gate_dst (N := 1) rfl ?_); refine H.own_box HO.out ?hg (N := 1) ?hd (cs := #[Value.slice A0_0 l0_0.length c0_0, Value.slice A0_1 l0_1.length c0_1]) (t := 27) ?hr ?_; (case hd => rfl); (case hg => rfl); (case hr => first | (go_simp; done) | (go_simp; rfl)); intro gb0 w_ ho_ hb_; replace HO := Aside0.mk ho_; clear ho_ hb_) | ((with_reducible refine gate_dst (N := 14) rfl ?_); refine wpList_load_row rfl 27 (.tmp 1) rfl _ rfl 27 _ (0, 0) _ (HO.out.get 0 rfl) Try.underlying27 rfl (by kernel_rfl) ?_) | ((with_reducible refine gate_dst (N := 20) rfl ?_); refine wpList_load_row rfl 27 (.tmp 1) rfl _ rfl 27 _ (0, 0) _ (HO.out.get 0 rfl) Try.underlying27 rfl (by kernel_rfl) ?_) | ((with_reducible refine gate_dst (N := 25) rfl ?_); refine wpList_load_row rfl 27 (.tmp 1) rfl _ rfl 27 _ (0, 0) _ (HO.out.get 0 rfl) Try.underlying27 rfl (by kernel_rfl) ?_) | ((with_reducible refine gate_dst (N := 28) rfl ?_); refine wpList_load_row rfl 33 (.tmp 6) rfl _ rfl 33 _ (0, 0) _ (HO.out.get 1 rfl) Try.underlying33 rfl (by kernel_rfl) ?_) | ((with_reducible refine gate_dst (N := 46) rfl ?_); refine wpList_load_row rfl 33 (.tmp 6) rfl _ rfl 33 _ (0, 0) _ (HO.out.get 1 rfl) Try.underlying33 rfl (by kernel_rfl) ?_) | ((with_reducible refine gate_dst (N := 74) rfl ?_); refine wpList_load_row rfl 27 (.tmp 1) rfl _ rfl 27 _ (0, 0) _ (HO.out.get 0 rfl) Try.underlying27 rfl (by kernel_rfl) ?_))
  refine (laws_szFlow.calls k _ _ l0_0 _ _ l0_1 1048576 z0 _ (Kd.C_below HR0_0.out HO.out.below) HC0_0.out (Kd.C_below HR0_1.out HO.out.below) HC0_1.out HSZ0.out).mono ?_
  rintro e w_ ⟨rfl, hb⟩
  replace HO := Aside0.mk (HO.out.step hb)
  clear hb
  go_wp2_with (first | ((with_reducible refine gate_dst (N := 1) rfl ?_); refine H.own_box HO.out ?hg (N := 1) ?hd (cs := #[Value.slice A0_0 l0_0.length c0_0, Value.slice A0_1 l0_1.length c0_1]) (t := 27) ?hr ?_; (case hd => rfl); (case hg => rfl); (case hr => first | (go_simp; done) | (go_simp; rfl)); intro gb0 w_ ho_ hb_; replace HO := Aside0.mk ho_; clear ho_ hb_) | ((with_reducible refine gate_dst (N := 14) rfl ?_); refine wpList_load_row rfl 27 (.tmp 1) rfl _ rfl 27 _ (0, 0) _ (HO.out.get 0 rfl) Try.underlying27 rfl (by kernel_rfl) ?_) | ((with_reducible refine gate_dst (N := 20) rfl ?_); refine wpList_load_row rfl 27 (.tmp 1) rfl _ rfl 27 _ (0, 0) _ (HO.out.get 0 rfl) Try.underlying27 rfl (by kernel_rfl) ?_) | ((with_reducible refine gate_dst (N := 25) rfl ?_); refine wpList_load_row rfl 27 (.tmp 1) rfl _ rfl 27 _ (0, 0) _ (HO.out.get 0 rfl) Try.underlying27 rfl (by kernel_rfl) ?_) | ((with_reducible refine gate_dst (N := 28) rfl ?_); refine wpList_load_row rfl 33 (.tmp 6) rfl _ rfl 33 _ (0, 0) _ (HO.out.get 1 rfl) Try.underlying33 rfl (by kernel_rfl) ?_) | ((with_reducible refine gate_dst (N := 46) rfl ?_); refine wpList_load_row rfl 33 (.tmp 6) rfl _ rfl 33 _ (0, 0) _ (HO.out.get 1 rfl) Try.underlying33 rfl (by kernel_rfl) ?_) | ((with_reducible refine gate_dst (N := 74) rfl ?_); refine wpList_load_row rfl 27 (.tmp 1) rfl _ rfl 27 _ (0, 0) _ (HO.out.get 0 rfl) Try.underlying27 rfl (by kernel_rfl) ?_))
  refine (laws_toFlow.calls k _ _ l0_0 _ _ l0_1 y0_0 y0_1 _ (Kd.C_below HR0_0.out HO.out.below) HC0_0.out (Kd.C_below HR0_1.out HO.out.below) HC0_1.out HTO0.out).mono ?_
  rintro e w_ ⟨vTy0_0, vTy0_1, rfl, hTy0_0, hTy0_1, hb⟩
  obtain ⟨ATy0_0, cTy0_0, rfl⟩ := Kd.S_slice hTy0_0
  obtain ⟨ATy0_1, cTy0_1, rfl⟩ := Kd.S_slice hTy0_1
  replace HO := Aside0.mk (HO.out.step hb)
  have HTy0_0 := Aside0.mk (H.S_upto hTy0_0)
  have HTy0_1 := Aside0.mk (H.S_upto hTy0_1)
  clear hb hTy0_0 hTy0_1
  go_wp2_with (first | ((with_reducible refine gate_dst (N := 1) rfl ?_); refine H.own_box HO.out ?hg (N := 1) ?hd (cs := #[Value.slice A0_0 l0_0.length c0_0, Value.slice A0_1 l0_1.length c0_1]) (t := 27) ?hr ?_; (case hd => rfl); (case hg => rfl); (case hr => first | (go_simp; done) | (go_simp; rfl)); intro gb0 w_ ho_ hb_; replace HO := Aside0.mk ho_; clear ho_ hb_) | ((with_reducible refine gate_dst (N := 14) rfl ?_); refine wpList_load_row rfl 27 (.tmp 1) rfl _ rfl 27 _ (0, 0) _ (HO.out.get 0 rfl) Try.underlying27 rfl (by kernel_rfl) ?_) | ((with_reducible refine gate_dst (N := 20) rfl ?_); refine wpList_load_row rfl 27 (.tmp 1) rfl _ rfl 27 _ (0, 0) _ (HO.out.get 0 rfl) Try.underlying27 rfl (by kernel_rfl) ?_) | ((with_reducible refine gate_dst (N := 25) rfl ?_); refine wpList_load_row rfl 27 (.tmp 1) rfl _ rfl 27 _ (0, 0) _ (HO.out.get 0 rfl) Try.underlying27 rfl (by kernel_rfl) ?_) | ((with_reducible refine gate_dst (N := 28) rfl ?_); refine wpList_load_row rfl 33 (.tmp 6) rfl _ rfl 33 _ (0, 0) _ (HO.out.get 1 rfl) Try.underlying33 rfl (by kernel_rfl) ?_) | ((with_reducible refine gate_dst (N := 46) rfl ?_); refine wpList_load_row rfl 33 (.tmp 6) rfl _ rfl 33 _ (0, 0) _ (HO.out.get 1 rfl) Try.underlying33 rfl (by kernel_rfl) ?_) | ((with_reducible refine gate_dst (N := 74) rfl ?_); refine wpList_load_row rfl 27 (.tmp 1) rfl _ rfl 27 _ (0, 0) _ (HO.out.get 0 rfl) Try.underlying27 rfl (by kernel_rfl) ?_))
  have HWB := Aside0.mk HO.out.size
  refine (spec_DeadSets.calls k _ _ y0_0 _ _ y0_1 s1 s2 _ (Kd.S_reads' HTy0_0.out).2.2 (Kd.S_reads' HTy0_0.out).2.1 (Kd.S_reads' HTy0_1.out).2.2 (Kd.S_reads' HTy0_1.out).2.1 HSPEC.out).mono ?_
  rintro e w_ ⟨vW, rfl, hs, hb⟩
  obtain ⟨AW, cW, rfl⟩ := Kd.S_slice hs
  replace HO := Aside0.mk (HO.out.step hb)
  replace HTy0_0 := Aside0.mk (Kd.S_below HTy0_0.out hb)
  replace HTy0_1 := Aside0.mk (Kd.S_below HTy0_1.out hb);
  have HW := Aside0.mk (H.S_upto hs)
  clear hs hb
  clear HTy0_0 HTy0_1
  go_wp2_with (first | ((with_reducible refine gate_dst (N := 1) rfl ?_); refine H.own_box HO.out ?hg (N := 1) ?hd (cs := #[Value.slice A0_0 l0_0.length c0_0, Value.slice A0_1 l0_1.length c0_1]) (t := 27) ?hr ?_; (case hd => rfl); (case hg => rfl); (case hr => first | (go_simp; done) | (go_simp; rfl)); intro gb0 w_ ho_ hb_; replace HO := Aside0.mk ho_; clear ho_ hb_) | ((with_reducible refine gate_dst (N := 14) rfl ?_); refine wpList_load_row rfl 27 (.tmp 1) rfl _ rfl 27 _ (0, 0) _ (HO.out.get 0 rfl) Try.underlying27 rfl (by kernel_rfl) ?_) | ((with_reducible refine gate_dst (N := 20) rfl ?_); refine wpList_load_row rfl 27 (.tmp 1) rfl _ rfl 27 _ (0, 0) _ (HO.out.get 0 rfl) Try.underlying27 rfl (by kernel_rfl) ?_) | ((with_reducible refine gate_dst (N := 25) rfl ?_); refine wpList_load_row rfl 27 (.tmp 1) rfl _ rfl 27 _ (0, 0) _ (HO.out.get 0 rfl) Try.underlying27 rfl (by kernel_rfl) ?_) | ((with_reducible refine gate_dst (N := 28) rfl ?_); refine wpList_load_row rfl 33 (.tmp 6) rfl _ rfl 33 _ (0, 0) _ (HO.out.get 1 rfl) Try.underlying33 rfl (by kernel_rfl) ?_) | ((with_reducible refine gate_dst (N := 46) rfl ?_); refine wpList_load_row rfl 33 (.tmp 6) rfl _ rfl 33 _ (0, 0) _ (HO.out.get 1 rfl) Try.underlying33 rfl (by kernel_rfl) ?_) | ((with_reducible refine gate_dst (N := 74) rfl ?_); refine wpList_load_row rfl 27 (.tmp 1) rfl _ rfl 27 _ (0, 0) _ (HO.out.get 0 rfl) Try.underlying27 rfl (by kernel_rfl) ?_) | ((with_reducible refine gate_dst (N := 6) rfl ?_); refine H.own_box HO.out ?hg (N := 6) ?hd (cs := #[Value.slice none 0 0, Value.slice none 0 0]) (t := 33) ?hr ?_; (case hd => rfl); (case hg => rfl); (case hr => first | (go_simp; done) | (go_simp; rfl)); intro gx0 w_ ho_ hb_; replace HW := Aside0.mk (Kd.S_below HW.out hb_); replace HLE := Aside0.mk (Nat.le_trans HLE.out hb_.size); replace HO := Aside0.mk ho_; clear ho_ hb_) | ((with_reducible refine gate_store (t := 33) (p := 6) rfl ?_); refine H.own_store HO.out 1 rfl rfl rfl rfl rfl (u := .agg #[Value.slice AXy0_0 y0_0.length cXy0_0, Value.slice AXy0_1 y0_1.length cXy0_1]) (seg := [Value.slice AXy0_0 y0_0.length cXy0_0, Value.slice AXy0_1 y0_1.length cXy0_1]) rfl rfl (by kernel_rfl) (by simp [Value.oneCell']) (by simp) (cs' := #[Value.slice AXy0_0 y0_0.length cXy0_0, Value.slice AXy0_1 y0_1.length cXy0_1]) rfl ?_; intro w_ ho_ hg_; replace HW := Aside0.mk (HO.out.keepS 1 rfl HW.out hg_ (by decide)); replace HLE := Aside0.mk (Nat.le_trans HLE.out hg_.size); replace HO := Aside0.mk ho_; clear ho_ hg_))
  obtain ⟨N1, hN1⟩ : ∃ N1, _ = N1 := ⟨w_.heap.size, rfl⟩
  have HN1 := Aside0.mk (show w.heap.size ≤ N1 by rw [← hN1]; exact HO.out.size)
  replace HW := Aside0.mk (Kd.S_mono (ok' := fun k_ => w.heap.size ≤ k_ ∧ k_ < N1) (H.S_upto (Kd.S_lower HW.out HWB.out)) (fun k_ hk_ => by rw [← hN1]; exact hk_))
  clear HWB
  refine (laws_toFlow.calls k _ _ l0_0 _ _ l0_1 y0_0 y0_1 _ (Kd.C_below HR0_0.out HO.out.below) HC0_0.out (Kd.C_below HR0_1.out HO.out.below) HC0_1.out HTO0.out).mono ?_
  rintro e w_ ⟨vXy0_0, vXy0_1, rfl, hXy0_0, hXy0_1, hb⟩
  obtain ⟨AXy0_0, cXy0_0, rfl⟩ := Kd.S_slice hXy0_0
  obtain ⟨AXy0_1, cXy0_1, rfl⟩ := Kd.S_slice hXy0_1
  have HXy0_0 := Aside0.mk (H.S_upto (Kd.S_lower hXy0_0 (show N1 ≤ _ from by rw [← hN1]; exact Nat.le_refl _)))
  have HXy0_1 := Aside0.mk (H.S_upto (Kd.S_lower hXy0_1 (show N1 ≤ _ from by rw [← hN1]; exact Nat.le_refl _)))
  replace HO := Aside0.mk (HO.out.step hb)
  replace HW := Aside0.mk (Kd.S_below HW.out hb);
  have HLE := Aside0.mk (show N1 ≤ _ from Nat.le_trans (Nat.le_of_eq hN1.symm) hb.size)
  clear hN1
  clear hb hXy0_0 hXy0_1
  go_wp2_with (first | ((with_reducible refine gate_dst (N := 1) rfl ?_); refine H.own_box HO.out ?hg (N := 1) ?hd (cs := #[Value.slice A0_0 l0_0.length c0_0, Value.slice A0_1 l0_1.length c0_1]) (t := 27) ?hr ?_; (case hd => rfl); (case hg => rfl); (case hr => first | (go_simp; done) | (go_simp; rfl)); intro gb0 w_ ho_ hb_; replace HO := Aside0.mk ho_; clear ho_ hb_) | ((with_reducible refine gate_dst (N := 14) rfl ?_); refine wpList_load_row rfl 27 (.tmp 1) rfl _ rfl 27 _ (0, 0) _ (HO.out.get 0 rfl) Try.underlying27 rfl (by kernel_rfl) ?_) | ((with_reducible refine gate_dst (N := 20) rfl ?_); refine wpList_load_row rfl 27 (.tmp 1) rfl _ rfl 27 _ (0, 0) _ (HO.out.get 0 rfl) Try.underlying27 rfl (by kernel_rfl) ?_) | ((with_reducible refine gate_dst (N := 25) rfl ?_); refine wpList_load_row rfl 27 (.tmp 1) rfl _ rfl 27 _ (0, 0) _ (HO.out.get 0 rfl) Try.underlying27 rfl (by kernel_rfl) ?_) | ((with_reducible refine gate_dst (N := 28) rfl ?_); refine wpList_load_row rfl 33 (.tmp 6) rfl _ rfl 33 _ (0, 0) _ (HO.out.get 1 rfl) Try.underlying33 rfl (by kernel_rfl) ?_) | ((with_reducible refine gate_dst (N := 46) rfl ?_); refine wpList_load_row rfl 33 (.tmp 6) rfl _ rfl 33 _ (0, 0) _ (HO.out.get 1 rfl) Try.underlying33 rfl (by kernel_rfl) ?_) | ((with_reducible refine gate_dst (N := 74) rfl ?_); refine wpList_load_row rfl 27 (.tmp 1) rfl _ rfl 27 _ (0, 0) _ (HO.out.get 0 rfl) Try.underlying27 rfl (by kernel_rfl) ?_) | ((with_reducible refine gate_dst (N := 6) rfl ?_); refine H.own_box HO.out ?hg (N := 6) ?hd (cs := #[Value.slice none 0 0, Value.slice none 0 0]) (t := 33) ?hr ?_; (case hd => rfl); (case hg => rfl); (case hr => first | (go_simp; done) | (go_simp; rfl)); intro gx0 w_ ho_ hb_; replace HW := Aside0.mk (Kd.S_below HW.out hb_); replace HXy0_0 := Aside0.mk (Kd.S_below HXy0_0.out hb_); replace HXy0_1 := Aside0.mk (Kd.S_below HXy0_1.out hb_); replace HLE := Aside0.mk (Nat.le_trans HLE.out hb_.size); replace HO := Aside0.mk ho_; clear ho_ hb_) | ((with_reducible refine gate_store (t := 33) (p := 6) rfl ?_); refine H.own_store HO.out 1 rfl rfl rfl rfl rfl (u := .agg #[Value.slice AXy0_0 y0_0.length cXy0_0, Value.slice AXy0_1 y0_1.length cXy0_1]) (seg := [Value.slice AXy0_0 y0_0.length cXy0_0, Value.slice AXy0_1 y0_1.length cXy0_1]) rfl rfl (by kernel_rfl) (by simp [Value.oneCell']) (by simp) (cs' := #[Value.slice AXy0_0 y0_0.length cXy0_0, Value.slice AXy0_1 y0_1.length cXy0_1]) rfl ?_; intro w_ ho_ hg_; replace HW := Aside0.mk (HO.out.keepS 1 rfl HW.out hg_ (by decide)); replace HXy0_0 := Aside0.mk (HO.out.keepS 1 rfl HXy0_0.out hg_ (by decide)); replace HXy0_1 := Aside0.mk (HO.out.keepS 1 rfl HXy0_1.out hg_ (by decide)); replace HLE := Aside0.mk (Nat.le_trans HLE.out hg_.size); replace HO := Aside0.mk ho_; clear ho_ hg_))
  obtain ⟨N2, hN2⟩ : ∃ N2, _ = N2 := ⟨w_.heap.size, rfl⟩
  replace HXy0_0 := Aside0.mk (Kd.S_mono (ok' := fun k_ => N1 ≤ k_ ∧ k_ < N2) (H.S_upto HXy0_0.out) (fun k_ hk_ => by rw [← hN2]; exact hk_))
  replace HXy0_1 := Aside0.mk (Kd.S_mono (ok' := fun k_ => N1 ≤ k_ ∧ k_ < N2) (H.S_upto HXy0_1.out) (fun k_ hk_ => by rw [← hN2]; exact hk_))
  have HLT := Aside0.mk HO.out.lt
  rw [hN2] at HLT
  have HN2 := Aside0.mk (show w.heap.size ≤ N2 by rw [← hN2]; exact HO.out.size)
  have HN12 := Aside0.mk (show N1 ≤ N2 by rw [← hN2]; exact HLE.out)
  refine (impl_DeadSets.calls _ _ y0_0 _ _ y0_1 s1 s2 _ (Kd.S_reads' HXy0_0.out).2.2 (Kd.S_reads' HXy0_0.out).2.1 (Kd.S_reads' HXy0_1.out).2.2 (Kd.S_reads' HXy0_1.out).2.1 HIMPL.out).mono ?_
  rintro e w_ ⟨vG, rfl, hs, hb⟩
  obtain ⟨AG, cG, rfl⟩ := Kd.S_slice hs
  replace HO := Aside0.mk (HO.out.step hb)
  replace HW := Aside0.mk (Kd.S_below HW.out hb)
  replace HXy0_0 := Aside0.mk (Kd.S_below HXy0_0.out hb)
  replace HXy0_1 := Aside0.mk (Kd.S_below HXy0_1.out hb);
  have HG := Aside0.mk (H.S_upto hs)
  rw [hN2] at HG
  obtain ⟨N3, hN3⟩ : ∃ N3, w_.heap.size = N3 := ⟨_, rfl⟩
  rw [hN3] at HG
  clear hs hb hN2 hN3
  go_wp2_with (first | ((with_reducible refine gate_dst (N := 1) rfl ?_); refine H.own_box HO.out ?hg (N := 1) ?hd (cs := #[Value.slice A0_0 l0_0.length c0_0, Value.slice A0_1 l0_1.length c0_1]) (t := 27) ?hr ?_; (case hd => rfl); (case hg => rfl); (case hr => first | (go_simp; done) | (go_simp; rfl)); intro gb0 w_ ho_ hb_; replace HO := Aside0.mk ho_; clear ho_ hb_) | ((with_reducible refine gate_dst (N := 14) rfl ?_); refine wpList_load_row rfl 27 (.tmp 1) rfl _ rfl 27 _ (0, 0) _ (HO.out.get 0 rfl) Try.underlying27 rfl (by kernel_rfl) ?_) | ((with_reducible refine gate_dst (N := 20) rfl ?_); refine wpList_load_row rfl 27 (.tmp 1) rfl _ rfl 27 _ (0, 0) _ (HO.out.get 0 rfl) Try.underlying27 rfl (by kernel_rfl) ?_) | ((with_reducible refine gate_dst (N := 25) rfl ?_); refine wpList_load_row rfl 27 (.tmp 1) rfl _ rfl 27 _ (0, 0) _ (HO.out.get 0 rfl) Try.underlying27 rfl (by kernel_rfl) ?_) | ((with_reducible refine gate_dst (N := 28) rfl ?_); refine wpList_load_row rfl 33 (.tmp 6) rfl _ rfl 33 _ (0, 0) _ (HO.out.get 1 rfl) Try.underlying33 rfl (by kernel_rfl) ?_) | ((with_reducible refine gate_dst (N := 46) rfl ?_); refine wpList_load_row rfl 33 (.tmp 6) rfl _ rfl 33 _ (0, 0) _ (HO.out.get 1 rfl) Try.underlying33 rfl (by kernel_rfl) ?_) | ((with_reducible refine gate_dst (N := 74) rfl ?_); refine wpList_load_row rfl 27 (.tmp 1) rfl _ rfl 27 _ (0, 0) _ (HO.out.get 0 rfl) Try.underlying27 rfl (by kernel_rfl) ?_))
  refine (laws_eqIntSS.calls k _ _ s1 _ _ s1 true _ (Kd.S_reads' HG.out).2.2 (Kd.S_reads' HG.out).2.1 (Kd.S_reads' HW.out).2.2 (Kd.S_reads' HW.out).2.1 HEQR.out).mono ?_
  rintro e w_ ⟨rfl, hd⟩
  replace HO := Aside0.mk (HO.out.step hd.below)
  replace HW := Aside0.mk (Kd.S_below HW.out hd.below)
  replace HXy0_0 := Aside0.mk (Kd.S_below HXy0_0.out hd.below)
  replace HXy0_1 := Aside0.mk (Kd.S_below HXy0_1.out hd.below)
  replace HG := Aside0.mk (Kd.S_below HG.out hd.below);
  clear hd
  go_wp2_with (first | ((with_reducible refine gate_dst (N := 1) rfl ?_); refine H.own_box HO.out ?hg (N := 1) ?hd (cs := #[Value.slice A0_0 l0_0.length c0_0, Value.slice A0_1 l0_1.length c0_1]) (t := 27) ?hr ?_; (case hd => rfl); (case hg => rfl); (case hr => first | (go_simp; done) | (go_simp; rfl)); intro gb0 w_ ho_ hb_; replace HO := Aside0.mk ho_; clear ho_ hb_) | ((with_reducible refine gate_dst (N := 14) rfl ?_); refine wpList_load_row rfl 27 (.tmp 1) rfl _ rfl 27 _ (0, 0) _ (HO.out.get 0 rfl) Try.underlying27 rfl (by kernel_rfl) ?_) | ((with_reducible refine gate_dst (N := 20) rfl ?_); refine wpList_load_row rfl 27 (.tmp 1) rfl _ rfl 27 _ (0, 0) _ (HO.out.get 0 rfl) Try.underlying27 rfl (by kernel_rfl) ?_) | ((with_reducible refine gate_dst (N := 25) rfl ?_); refine wpList_load_row rfl 27 (.tmp 1) rfl _ rfl 27 _ (0, 0) _ (HO.out.get 0 rfl) Try.underlying27 rfl (by kernel_rfl) ?_) | ((with_reducible refine gate_dst (N := 28) rfl ?_); refine wpList_load_row rfl 33 (.tmp 6) rfl _ rfl 33 _ (0, 0) _ (HO.out.get 1 rfl) Try.underlying33 rfl (by kernel_rfl) ?_) | ((with_reducible refine gate_dst (N := 46) rfl ?_); refine wpList_load_row rfl 33 (.tmp 6) rfl _ rfl 33 _ (0, 0) _ (HO.out.get 1 rfl) Try.underlying33 rfl (by kernel_rfl) ?_) | ((with_reducible refine gate_dst (N := 74) rfl ?_); refine wpList_load_row rfl 27 (.tmp 1) rfl _ rfl 27 _ (0, 0) _ (HO.out.get 0 rfl) Try.underlying27 rfl (by kernel_rfl) ?_))
  replace HO := Aside0.mk HO.out.drew
  replace HW := Aside0.mk (Kd.S_drew HW.out)
  replace HXy0_0 := Aside0.mk (Kd.S_drew HXy0_0.out)
  replace HXy0_1 := Aside0.mk (Kd.S_drew HXy0_1.out)
  replace HG := Aside0.mk (Kd.S_drew HG.out)
  refine start_ (n := 5) (S := fun w' => w'.rangeAt gx0 0 [Value.slice AXy0_0 y0_0.length cXy0_0, Value.slice AXy0_1 y0_1.length cXy0_1] ∧ w'.rangeAt gb0 0 [Value.slice A0_0 l0_0.length c0_0, Value.slice A0_1 l0_1.length c0_1]) (ds := []) #[false, false, false, false, false] (by kernel_rfl) rfl rfl ⟨(HO.out.range 1 rfl), (HO.out.range 0 rfl)⟩ (fun hHeld => ?_)
  refine take_ (i := 0) (N := some 41) (v := .agg #[Value.slice AXy0_0 y0_0.length cXy0_0, Value.slice AXy0_1 y0_1.length cXy0_1]) (a' := ?_) #[true, false, false, false, false] rfl rfl (by kernel_rfl) (fun _ _ _ h => h) (yieldsIf_load_mid (by rfl) 33 (.tmp 6) rfl gx0 0 rfl [Value.slice AXy0_0 y0_0.length cXy0_0, Value.slice AXy0_1 y0_1.length cXy0_1] _ (fun W h => h.1) Try.underlying33 rfl (by kernel_rfl)) hHeld ?_ ?_
  rotate_left
  · simp only [Act.put, List.setIfInBounds_toArray, List.set_cons_zero, List.set_cons_succ, i64_w, i32_w]
    rfl
  refine take_ (i := 1) (N := some 42) (v := .agg #[Value.slice A0_0 l0_0.length c0_0, Value.slice A0_1 l0_1.length c0_1]) (a' := ?_) #[true, true, false, false, false] rfl rfl (by kernel_rfl) (fun _ _ _ h => h) (yieldsIf_load_mid (by rfl) 27 (.tmp 1) rfl gb0 0 rfl [Value.slice A0_0 l0_0.length c0_0, Value.slice A0_1 l0_1.length c0_1] _ (fun W h => h.2) Try.underlying27 rfl (by kernel_rfl)) hHeld ?_ ?_
  rotate_left
  · simp only [Act.put, List.setIfInBounds_toArray, List.set_cons_zero, List.set_cons_succ, i64_w, i32_w]
    rfl
  refine one_ (i := 2) (N := some 43) #[true, true, true, false, false] rfl rfl (by kernel_rfl) (by decide) (fun K hK => ?_)
  refine goes_ Try.func14 (by kernel_rfl) rfl #[.agg #[.slice A0_0 l0_0.length c0_0, .slice A0_1 l0_1.length c0_1]] (by rfl) rfl rfl (by simp only [List.map_toArray, List.map_cons, List.map_nil]; rfl) ?_
  with_reducible refine (laws_toFlow.calls k _ _ l0_0 _ _ l0_1 y0_0 y0_1 _ (Kd.C_below HR0_0.out HO.out.below) HC0_0.out (Kd.C_below HR0_1.out HO.out.below) HC0_1.out HTO0.out).mono ?_
  rintro e w_ ⟨vEy0_0, vEy0_1, rfl, hEy0_0, hEy0_1, hb⟩
  refine ⟨_, rfl, ?_⟩
  obtain ⟨AEy0_0, cEy0_0, rfl⟩ := Kd.S_slice hEy0_0
  obtain ⟨AEy0_1, cEy0_1, rfl⟩ := Kd.S_slice hEy0_1
  replace HO := Aside0.mk (HO.out.step hb)
  replace HW := Aside0.mk (Kd.S_below HW.out hb)
  replace HXy0_0 := Aside0.mk (Kd.S_below HXy0_0.out hb)
  replace HXy0_1 := Aside0.mk (Kd.S_below HXy0_1.out hb)
  replace HG := Aside0.mk (Kd.S_below HG.out hb);
  have HEy0_0 := Aside0.mk hEy0_0
  have HEy0_1 := Aside0.mk hEy0_1
  clear hb hEy0_0 hEy0_1
  refine hK.out _ _ ⟨(HO.out.range 1 rfl), (HO.out.range 0 rfl)⟩ (fun hHeld => ?_)
  clear hK K
  refine norm_ (a' := ?_) ?_ ?_
  rotate_left
  · show Act.put _ (some 43) _ = _
    simp only [Act.put, List.setIfInBounds_toArray, List.set_cons_zero, List.set_cons_succ, i64_w, i32_w]
    rfl
  refine one_ (i := 3) (N := some 44) #[true, true, true, true, false] rfl rfl (by kernel_rfl) (by decide) (fun K hK => ?_)
  refine goes_ Try.func16 (by kernel_rfl) rfl #[.agg #[Value.slice AXy0_0 y0_0.length cXy0_0, Value.slice AXy0_1 y0_1.length cXy0_1], .agg #[Value.slice AEy0_0 y0_0.length cEy0_0, Value.slice AEy0_1 y0_1.length cEy0_1]] (by rfl) rfl rfl (by simp only [List.map_toArray, List.map_cons, List.map_nil]; rfl) ?_
  with_reducible refine (laws_eqFlow.calls k _ _ y0_0 _ _ y0_1 _ _ y0_0 _ _ y0_1 true _ (Kd.S_reads' HXy0_0.out).2.2 (Kd.S_reads' HXy0_0.out).2.1 (Kd.S_reads' HXy0_1.out).2.2 (Kd.S_reads' HXy0_1.out).2.1 (Kd.S_reads' HEy0_0.out).2.2 (Kd.S_reads' HEy0_0.out).2.1 (Kd.S_reads' HEy0_1.out).2.2 (Kd.S_reads' HEy0_1.out).2.1 HEQ0.out).mono ?_
  rintro e w_ ⟨rfl, hb⟩
  refine ⟨_, rfl, ?_⟩
  replace HO := Aside0.mk (HO.out.step hb)
  replace HW := Aside0.mk (Kd.S_below HW.out hb)
  replace HXy0_0 := Aside0.mk (Kd.S_below HXy0_0.out hb)
  replace HXy0_1 := Aside0.mk (Kd.S_below HXy0_1.out hb)
  replace HG := Aside0.mk (Kd.S_below HG.out hb);
  clear hb
  refine hK.out _ _ ⟨(HO.out.range 1 rfl), (HO.out.range 0 rfl)⟩ (fun hHeld => ?_)
  clear hK K
  refine norm_ (a' := ?_) ?_ ?_
  rotate_left
  · show Act.put _ (some 44) _ = _
    simp only [Act.put, List.setIfInBounds_toArray, List.set_cons_zero, List.set_cons_succ, i64_w, i32_w]
    rfl
  refine pure_ (i := 4) (N := some 45) (v := ?_) (a' := ?_) #[true, true, true, true, true] rfl rfl (by kernel_rfl) (fun _ _ _ h => h) (Or.inl ⟨by rfl, ?_⟩) ?_ ?_
  rotate_left
  · intro w'
    go_simp
    with_reducible rfl
  rotate_left
  · simp only [Act.put, List.setIfInBounds_toArray, List.set_cons_zero, List.set_cons_succ, i64_w, i32_w]
    rfl
  refine done_ (by kernel_rfl) ?_
  clear HEy0_0 HEy0_1
  go_wp2_with (first | ((with_reducible refine gate_dst (N := 1) rfl ?_); refine H.own_box HO.out ?hg (N := 1) ?hd (cs := #[Value.slice A0_0 l0_0.length c0_0, Value.slice A0_1 l0_1.length c0_1]) (t := 27) ?hr ?_; (case hd => rfl); (case hg => rfl); (case hr => first | (go_simp; done) | (go_simp; rfl)); intro gb0 w_ ho_ hb_; replace HO := Aside0.mk ho_; clear ho_ hb_) | ((with_reducible refine gate_dst (N := 14) rfl ?_); refine wpList_load_row rfl 27 (.tmp 1) rfl _ rfl 27 _ (0, 0) _ (HO.out.get 0 rfl) Try.underlying27 rfl (by kernel_rfl) ?_) | ((with_reducible refine gate_dst (N := 20) rfl ?_); refine wpList_load_row rfl 27 (.tmp 1) rfl _ rfl 27 _ (0, 0) _ (HO.out.get 0 rfl) Try.underlying27 rfl (by kernel_rfl) ?_) | ((with_reducible refine gate_dst (N := 25) rfl ?_); refine wpList_load_row rfl 27 (.tmp 1) rfl _ rfl 27 _ (0, 0) _ (HO.out.get 0 rfl) Try.underlying27 rfl (by kernel_rfl) ?_) | ((with_reducible refine gate_dst (N := 28) rfl ?_); refine wpList_load_row rfl 33 (.tmp 6) rfl _ rfl 33 _ (0, 0) _ (HO.out.get 1 rfl) Try.underlying33 rfl (by kernel_rfl) ?_) | ((with_reducible refine gate_dst (N := 46) rfl ?_); refine wpList_load_row rfl 33 (.tmp 6) rfl _ rfl 33 _ (0, 0) _ (HO.out.get 1 rfl) Try.underlying33 rfl (by kernel_rfl) ?_) | ((with_reducible refine gate_dst (N := 74) rfl ?_); refine wpList_load_row rfl 27 (.tmp 1) rfl _ rfl 27 _ (0, 0) _ (HO.out.get 0 rfl) Try.underlying27 rfl (by kernel_rfl) ?_))
  have hm0 : (0 : Int) ≤ 1 := by decide
  have HB := Aside0.mk HB0.out
  obtain ⟨M1, hM1⟩ : ∃ M1 : Int, 1 + (H.total y0_0 : Int) + (H.sumN (blkLen y0_1) (y0_1.length * 2) : Int) = M1 := ⟨_, rfl⟩
  have hmb1 : M1 ≤ 4611686018427387904 := by have := HB.out; omega
  have hm1 : 0 ≤ M1 := by omega
  refine (laws_markFlow.tame N1 N2 _ _ y0_0.length y0_1.length _ _ 1 _ (H.Rooms.of_S HXy0_0.out (Nat.le_refl _) (fun k_ hk_ _ => hk_.2)) (blkRooms HXy0_1.out (Nat.le_refl _) (fun k_ hk_ _ => hk_.2)) hm0 (by rw [H.sum_total _ _ (Nat.le_refl _), List.take_length]; omega) (by omega) (by omega)).mono ?_
  rintro e w_ ⟨he, ht⟩
  rw [H.sum_total _ _ (Nat.le_refl _), List.take_length, hM1] at he
  subst he
  replace HO := Aside0.mk (HO.out.tame ht HN1.out (by simp))
  replace HW := Aside0.mk (H.S_tame HW.out ht (.inl (Nat.le_refl _)))
  clear HXy0_0
  clear HXy0_1
  replace HG := Aside0.mk (H.S_tame HG.out ht (.inr (Nat.le_refl _)))
  clear ht hM1
  go_wp2_with (first | ((with_reducible refine gate_dst (N := 1) rfl ?_); refine H.own_box HO.out ?hg (N := 1) ?hd (cs := #[Value.slice A0_0 l0_0.length c0_0, Value.slice A0_1 l0_1.length c0_1]) (t := 27) ?hr ?_; (case hd => rfl); (case hg => rfl); (case hr => first | (go_simp; done) | (go_simp; rfl)); intro gb0 w_ ho_ hb_; replace HO := Aside0.mk ho_; clear ho_ hb_) | ((with_reducible refine gate_dst (N := 14) rfl ?_); refine wpList_load_row rfl 27 (.tmp 1) rfl _ rfl 27 _ (0, 0) _ (HO.out.get 0 rfl) Try.underlying27 rfl (by kernel_rfl) ?_) | ((with_reducible refine gate_dst (N := 20) rfl ?_); refine wpList_load_row rfl 27 (.tmp 1) rfl _ rfl 27 _ (0, 0) _ (HO.out.get 0 rfl) Try.underlying27 rfl (by kernel_rfl) ?_) | ((with_reducible refine gate_dst (N := 25) rfl ?_); refine wpList_load_row rfl 27 (.tmp 1) rfl _ rfl 27 _ (0, 0) _ (HO.out.get 0 rfl) Try.underlying27 rfl (by kernel_rfl) ?_) | ((with_reducible refine gate_dst (N := 28) rfl ?_); refine wpList_load_row rfl 33 (.tmp 6) rfl _ rfl 33 _ (0, 0) _ (HO.out.get 1 rfl) Try.underlying33 rfl (by kernel_rfl) ?_) | ((with_reducible refine gate_dst (N := 46) rfl ?_); refine wpList_load_row rfl 33 (.tmp 6) rfl _ rfl 33 _ (0, 0) _ (HO.out.get 1 rfl) Try.underlying33 rfl (by kernel_rfl) ?_) | ((with_reducible refine gate_dst (N := 74) rfl ?_); refine wpList_load_row rfl 27 (.tmp 1) rfl _ rfl 27 _ (0, 0) _ (HO.out.get 0 rfl) Try.underlying27 rfl (by kernel_rfl) ?_))
  refine (laws_eqIntSS.calls k _ _ s1 _ _ s1 true _ (Kd.S_reads' HG.out).2.2 (Kd.S_reads' HG.out).2.1 (Kd.S_reads' HW.out).2.2 (Kd.S_reads' HW.out).2.1 HEQR.out).mono ?_
  rintro e w_ ⟨rfl, hd⟩
  replace HO := Aside0.mk (HO.out.step hd.below)
  replace HW := Aside0.mk (Kd.S_below HW.out hd.below)
  replace HG := Aside0.mk (Kd.S_below HG.out hd.below);
  clear hd
  go_wp2_with (first | ((with_reducible refine gate_dst (N := 1) rfl ?_); refine H.own_box HO.out ?hg (N := 1) ?hd (cs := #[Value.slice A0_0 l0_0.length c0_0, Value.slice A0_1 l0_1.length c0_1]) (t := 27) ?hr ?_; (case hd => rfl); (case hg => rfl); (case hr => first | (go_simp; done) | (go_simp; rfl)); intro gb0 w_ ho_ hb_; replace HO := Aside0.mk ho_; clear ho_ hb_) | ((with_reducible refine gate_dst (N := 14) rfl ?_); refine wpList_load_row rfl 27 (.tmp 1) rfl _ rfl 27 _ (0, 0) _ (HO.out.get 0 rfl) Try.underlying27 rfl (by kernel_rfl) ?_) | ((with_reducible refine gate_dst (N := 20) rfl ?_); refine wpList_load_row rfl 27 (.tmp 1) rfl _ rfl 27 _ (0, 0) _ (HO.out.get 0 rfl) Try.underlying27 rfl (by kernel_rfl) ?_) | ((with_reducible refine gate_dst (N := 25) rfl ?_); refine wpList_load_row rfl 27 (.tmp 1) rfl _ rfl 27 _ (0, 0) _ (HO.out.get 0 rfl) Try.underlying27 rfl (by kernel_rfl) ?_) | ((with_reducible refine gate_dst (N := 28) rfl ?_); refine wpList_load_row rfl 33 (.tmp 6) rfl _ rfl 33 _ (0, 0) _ (HO.out.get 1 rfl) Try.underlying33 rfl (by kernel_rfl) ?_) | ((with_reducible refine gate_dst (N := 46) rfl ?_); refine wpList_load_row rfl 33 (.tmp 6) rfl _ rfl 33 _ (0, 0) _ (HO.out.get 1 rfl) Try.underlying33 rfl (by kernel_rfl) ?_) | ((with_reducible refine gate_dst (N := 74) rfl ?_); refine wpList_load_row rfl 27 (.tmp 1) rfl _ rfl 27 _ (0, 0) _ (HO.out.get 0 rfl) Try.underlying27 rfl (by kernel_rfl) ?_))
  refine (laws_markIntSS.exact _ s1 1 (fun k_ => N2 ≤ k_ ∧ k_ < N3) w _ HO.out.below (Kd.S_lower HG.out HN2.out) (by decide) HTOT.out).mono ?_
  rintro e w_ ⟨he, hs, hb, hk⟩
  rw [HK2.out] at he
  subst he
  replace HO := Aside0.mk (HO.out.kept hk hb (fun x hx hp => by have := HLT.out x hx; omega))
  replace HW := Aside0.mk (H.S_kept2 HW.out hk (.inl HN12.out))
  replace HG := Aside0.mk hs
  clear hs hb hk
  have HG' : Aside0 (∀ W (ok : Nat → Prop), Kd.S (Kd.slice 3 (Kd.int .i64)) 37 W w.heap.size ok (.slice AG s1.length cG) (H.markSS s1 1) → (Kd.slice 3 (Kd.int .i64)).C W AG (H.markSS s1 1).length (H.markSS s1 1) ∧ (H.markSS s1 1).length ≤ cG) := ⟨fun W ok h => by have h2 := Kd.S_reads' h; exact ⟨h2.2.2, by rw [← h2.1]; exact h2.2.1⟩⟩
  go_wp2_with (first | ((with_reducible refine gate_dst (N := 1) rfl ?_); refine H.own_box HO.out ?hg (N := 1) ?hd (cs := #[Value.slice A0_0 l0_0.length c0_0, Value.slice A0_1 l0_1.length c0_1]) (t := 27) ?hr ?_; (case hd => rfl); (case hg => rfl); (case hr => first | (go_simp; done) | (go_simp; rfl)); intro gb0 w_ ho_ hb_; replace HO := Aside0.mk ho_; clear ho_ hb_) | ((with_reducible refine gate_dst (N := 14) rfl ?_); refine wpList_load_row rfl 27 (.tmp 1) rfl _ rfl 27 _ (0, 0) _ (HO.out.get 0 rfl) Try.underlying27 rfl (by kernel_rfl) ?_) | ((with_reducible refine gate_dst (N := 20) rfl ?_); refine wpList_load_row rfl 27 (.tmp 1) rfl _ rfl 27 _ (0, 0) _ (HO.out.get 0 rfl) Try.underlying27 rfl (by kernel_rfl) ?_) | ((with_reducible refine gate_dst (N := 25) rfl ?_); refine wpList_load_row rfl 27 (.tmp 1) rfl _ rfl 27 _ (0, 0) _ (HO.out.get 0 rfl) Try.underlying27 rfl (by kernel_rfl) ?_) | ((with_reducible refine gate_dst (N := 28) rfl ?_); refine wpList_load_row rfl 33 (.tmp 6) rfl _ rfl 33 _ (0, 0) _ (HO.out.get 1 rfl) Try.underlying33 rfl (by kernel_rfl) ?_) | ((with_reducible refine gate_dst (N := 46) rfl ?_); refine wpList_load_row rfl 33 (.tmp 6) rfl _ rfl 33 _ (0, 0) _ (HO.out.get 1 rfl) Try.underlying33 rfl (by kernel_rfl) ?_) | ((with_reducible refine gate_dst (N := 74) rfl ?_); refine wpList_load_row rfl 27 (.tmp 1) rfl _ rfl 27 _ (0, 0) _ (HO.out.get 0 rfl) Try.underlying27 rfl (by kernel_rfl) ?_))
  refine (calls_of_args (by rw [H.markSS_len]) (laws_heldIntSS.calls k AG cG (H.markSS s1 1) 1 _ _ (HG'.out _ _ HG.out).1 (HG'.out _ _ HG.out).2 HHELD.out)).mono ?_
  rintro e w_ ⟨he, hd⟩
  rw [HK2.out] at he
  subst he
  replace HO := Aside0.mk (HO.out.step hd.below)
  replace HW := Aside0.mk (Kd.S_below HW.out hd.below)
  replace HG := Aside0.mk (Kd.S_below HG.out hd.below);
  clear hd
  go_wp2_with (first | ((with_reducible refine gate_dst (N := 1) rfl ?_); refine H.own_box HO.out ?hg (N := 1) ?hd (cs := #[Value.slice A0_0 l0_0.length c0_0, Value.slice A0_1 l0_1.length c0_1]) (t := 27) ?hr ?_; (case hd => rfl); (case hg => rfl); (case hr => first | (go_simp; done) | (go_simp; rfl)); intro gb0 w_ ho_ hb_; replace HO := Aside0.mk ho_; clear ho_ hb_) | ((with_reducible refine gate_dst (N := 14) rfl ?_); refine wpList_load_row rfl 27 (.tmp 1) rfl _ rfl 27 _ (0, 0) _ (HO.out.get 0 rfl) Try.underlying27 rfl (by kernel_rfl) ?_) | ((with_reducible refine gate_dst (N := 20) rfl ?_); refine wpList_load_row rfl 27 (.tmp 1) rfl _ rfl 27 _ (0, 0) _ (HO.out.get 0 rfl) Try.underlying27 rfl (by kernel_rfl) ?_) | ((with_reducible refine gate_dst (N := 25) rfl ?_); refine wpList_load_row rfl 27 (.tmp 1) rfl _ rfl 27 _ (0, 0) _ (HO.out.get 0 rfl) Try.underlying27 rfl (by kernel_rfl) ?_) | ((with_reducible refine gate_dst (N := 28) rfl ?_); refine wpList_load_row rfl 33 (.tmp 6) rfl _ rfl 33 _ (0, 0) _ (HO.out.get 1 rfl) Try.underlying33 rfl (by kernel_rfl) ?_) | ((with_reducible refine gate_dst (N := 46) rfl ?_); refine wpList_load_row rfl 33 (.tmp 6) rfl _ rfl 33 _ (0, 0) _ (HO.out.get 1 rfl) Try.underlying33 rfl (by kernel_rfl) ?_) | ((with_reducible refine gate_dst (N := 74) rfl ?_); refine wpList_load_row rfl 27 (.tmp 1) rfl _ rfl 27 _ (0, 0) _ (HO.out.get 0 rfl) Try.underlying27 rfl (by kernel_rfl) ?_))
  refine (laws_toFlow.calls k _ _ l0_0 _ _ l0_1 y0_0 y0_1 _ (Kd.C_below HR0_0.out HO.out.below) HC0_0.out (Kd.C_below HR0_1.out HO.out.below) HC0_1.out HTO0.out).mono ?_
  rintro e w_ ⟨vVy0_0, vVy0_1, rfl, hVy0_0, hVy0_1, hb⟩
  obtain ⟨AVy0_0, cVy0_0, rfl⟩ := Kd.S_slice hVy0_0
  obtain ⟨AVy0_1, cVy0_1, rfl⟩ := Kd.S_slice hVy0_1
  replace HO := Aside0.mk (HO.out.step hb)
  replace HW := Aside0.mk (Kd.S_below HW.out hb)
  replace HG := Aside0.mk (Kd.S_below HG.out hb);
  have HVy0_0 := Aside0.mk (H.S_upto hVy0_0)
  have HVy0_1 := Aside0.mk (H.S_upto hVy0_1)
  clear hb hVy0_0 hVy0_1
  go_wp2_with (first | ((with_reducible refine gate_dst (N := 1) rfl ?_); refine H.own_box HO.out ?hg (N := 1) ?hd (cs := #[Value.slice A0_0 l0_0.length c0_0, Value.slice A0_1 l0_1.length c0_1]) (t := 27) ?hr ?_; (case hd => rfl); (case hg => rfl); (case hr => first | (go_simp; done) | (go_simp; rfl)); intro gb0 w_ ho_ hb_; replace HO := Aside0.mk ho_; clear ho_ hb_) | ((with_reducible refine gate_dst (N := 14) rfl ?_); refine wpList_load_row rfl 27 (.tmp 1) rfl _ rfl 27 _ (0, 0) _ (HO.out.get 0 rfl) Try.underlying27 rfl (by kernel_rfl) ?_) | ((with_reducible refine gate_dst (N := 20) rfl ?_); refine wpList_load_row rfl 27 (.tmp 1) rfl _ rfl 27 _ (0, 0) _ (HO.out.get 0 rfl) Try.underlying27 rfl (by kernel_rfl) ?_) | ((with_reducible refine gate_dst (N := 25) rfl ?_); refine wpList_load_row rfl 27 (.tmp 1) rfl _ rfl 27 _ (0, 0) _ (HO.out.get 0 rfl) Try.underlying27 rfl (by kernel_rfl) ?_) | ((with_reducible refine gate_dst (N := 28) rfl ?_); refine wpList_load_row rfl 33 (.tmp 6) rfl _ rfl 33 _ (0, 0) _ (HO.out.get 1 rfl) Try.underlying33 rfl (by kernel_rfl) ?_) | ((with_reducible refine gate_dst (N := 46) rfl ?_); refine wpList_load_row rfl 33 (.tmp 6) rfl _ rfl 33 _ (0, 0) _ (HO.out.get 1 rfl) Try.underlying33 rfl (by kernel_rfl) ?_) | ((with_reducible refine gate_dst (N := 74) rfl ?_); refine wpList_load_row rfl 27 (.tmp 1) rfl _ rfl 27 _ (0, 0) _ (HO.out.get 0 rfl) Try.underlying27 rfl (by kernel_rfl) ?_))
  refine (impl_DeadSets.calls _ _ y0_0 _ _ y0_1 s1 s2 _ (Kd.S_reads' HVy0_0.out).2.2 (Kd.S_reads' HVy0_0.out).2.1 (Kd.S_reads' HVy0_1.out).2.2 (Kd.S_reads' HVy0_1.out).2.1 HIMPL.out).mono ?_
  rintro e w_ ⟨vH, rfl, hs, hb⟩
  obtain ⟨AH, cH, rfl⟩ := Kd.S_slice hs
  replace HO := Aside0.mk (HO.out.step hb)
  replace HW := Aside0.mk (Kd.S_below HW.out hb)
  replace HG := Aside0.mk (Kd.S_below HG.out hb)
  replace HVy0_0 := Aside0.mk (Kd.S_below HVy0_0.out hb)
  replace HVy0_1 := Aside0.mk (Kd.S_below HVy0_1.out hb);
  have HH := Aside0.mk hs
  clear hs hb
  clear HVy0_0 HVy0_1
  go_wp2_with (first | ((with_reducible refine gate_dst (N := 1) rfl ?_); refine H.own_box HO.out ?hg (N := 1) ?hd (cs := #[Value.slice A0_0 l0_0.length c0_0, Value.slice A0_1 l0_1.length c0_1]) (t := 27) ?hr ?_; (case hd => rfl); (case hg => rfl); (case hr => first | (go_simp; done) | (go_simp; rfl)); intro gb0 w_ ho_ hb_; replace HO := Aside0.mk ho_; clear ho_ hb_) | ((with_reducible refine gate_dst (N := 14) rfl ?_); refine wpList_load_row rfl 27 (.tmp 1) rfl _ rfl 27 _ (0, 0) _ (HO.out.get 0 rfl) Try.underlying27 rfl (by kernel_rfl) ?_) | ((with_reducible refine gate_dst (N := 20) rfl ?_); refine wpList_load_row rfl 27 (.tmp 1) rfl _ rfl 27 _ (0, 0) _ (HO.out.get 0 rfl) Try.underlying27 rfl (by kernel_rfl) ?_) | ((with_reducible refine gate_dst (N := 25) rfl ?_); refine wpList_load_row rfl 27 (.tmp 1) rfl _ rfl 27 _ (0, 0) _ (HO.out.get 0 rfl) Try.underlying27 rfl (by kernel_rfl) ?_) | ((with_reducible refine gate_dst (N := 28) rfl ?_); refine wpList_load_row rfl 33 (.tmp 6) rfl _ rfl 33 _ (0, 0) _ (HO.out.get 1 rfl) Try.underlying33 rfl (by kernel_rfl) ?_) | ((with_reducible refine gate_dst (N := 46) rfl ?_); refine wpList_load_row rfl 33 (.tmp 6) rfl _ rfl 33 _ (0, 0) _ (HO.out.get 1 rfl) Try.underlying33 rfl (by kernel_rfl) ?_) | ((with_reducible refine gate_dst (N := 74) rfl ?_); refine wpList_load_row rfl 27 (.tmp 1) rfl _ rfl 27 _ (0, 0) _ (HO.out.get 0 rfl) Try.underlying27 rfl (by kernel_rfl) ?_))
  refine (laws_eqIntSS.calls k _ _ s1 _ _ s1 true _ (Kd.S_reads' HH.out).2.2 (Kd.S_reads' HH.out).2.1 (Kd.S_reads' HW.out).2.2 (Kd.S_reads' HW.out).2.1 HEQR.out).mono ?_
  rintro e w_ ⟨rfl, hd⟩
  replace HO := Aside0.mk (HO.out.step hd.below)
  replace HW := Aside0.mk (Kd.S_below HW.out hd.below)
  replace HG := Aside0.mk (Kd.S_below HG.out hd.below)
  replace HH := Aside0.mk (Kd.S_below HH.out hd.below);
  clear hd
  go_wp2_with (first | ((with_reducible refine gate_dst (N := 1) rfl ?_); refine H.own_box HO.out ?hg (N := 1) ?hd (cs := #[Value.slice A0_0 l0_0.length c0_0, Value.slice A0_1 l0_1.length c0_1]) (t := 27) ?hr ?_; (case hd => rfl); (case hg => rfl); (case hr => first | (go_simp; done) | (go_simp; rfl)); intro gb0 w_ ho_ hb_; replace HO := Aside0.mk ho_; clear ho_ hb_) | ((with_reducible refine gate_dst (N := 14) rfl ?_); refine wpList_load_row rfl 27 (.tmp 1) rfl _ rfl 27 _ (0, 0) _ (HO.out.get 0 rfl) Try.underlying27 rfl (by kernel_rfl) ?_) | ((with_reducible refine gate_dst (N := 20) rfl ?_); refine wpList_load_row rfl 27 (.tmp 1) rfl _ rfl 27 _ (0, 0) _ (HO.out.get 0 rfl) Try.underlying27 rfl (by kernel_rfl) ?_) | ((with_reducible refine gate_dst (N := 25) rfl ?_); refine wpList_load_row rfl 27 (.tmp 1) rfl _ rfl 27 _ (0, 0) _ (HO.out.get 0 rfl) Try.underlying27 rfl (by kernel_rfl) ?_) | ((with_reducible refine gate_dst (N := 28) rfl ?_); refine wpList_load_row rfl 33 (.tmp 6) rfl _ rfl 33 _ (0, 0) _ (HO.out.get 1 rfl) Try.underlying33 rfl (by kernel_rfl) ?_) | ((with_reducible refine gate_dst (N := 46) rfl ?_); refine wpList_load_row rfl 33 (.tmp 6) rfl _ rfl 33 _ (0, 0) _ (HO.out.get 1 rfl) Try.underlying33 rfl (by kernel_rfl) ?_) | ((with_reducible refine gate_dst (N := 74) rfl ?_); refine wpList_load_row rfl 27 (.tmp 1) rfl _ rfl 27 _ (0, 0) _ (HO.out.get 0 rfl) Try.underlying27 rfl (by kernel_rfl) ?_))
  refine (calls_of_args (by rw [H.markSS_len]) (laws_heldIntSS.calls k AG cG (H.markSS s1 1) 1 _ _ (HG'.out _ _ HG.out).1 (HG'.out _ _ HG.out).2 HHELD.out)).mono ?_
  rintro e w_ ⟨he, hd⟩
  rw [HK2.out] at he
  subst he
  replace HO := Aside0.mk (HO.out.step hd.below)
  replace HW := Aside0.mk (Kd.S_below HW.out hd.below)
  replace HG := Aside0.mk (Kd.S_below HG.out hd.below)
  replace HH := Aside0.mk (Kd.S_below HH.out hd.below);
  clear hd
  go_wp2_with (first | ((with_reducible refine gate_dst (N := 1) rfl ?_); refine H.own_box HO.out ?hg (N := 1) ?hd (cs := #[Value.slice A0_0 l0_0.length c0_0, Value.slice A0_1 l0_1.length c0_1]) (t := 27) ?hr ?_; (case hd => rfl); (case hg => rfl); (case hr => first | (go_simp; done) | (go_simp; rfl)); intro gb0 w_ ho_ hb_; replace HO := Aside0.mk ho_; clear ho_ hb_) | ((with_reducible refine gate_dst (N := 14) rfl ?_); refine wpList_load_row rfl 27 (.tmp 1) rfl _ rfl 27 _ (0, 0) _ (HO.out.get 0 rfl) Try.underlying27 rfl (by kernel_rfl) ?_) | ((with_reducible refine gate_dst (N := 20) rfl ?_); refine wpList_load_row rfl 27 (.tmp 1) rfl _ rfl 27 _ (0, 0) _ (HO.out.get 0 rfl) Try.underlying27 rfl (by kernel_rfl) ?_) | ((with_reducible refine gate_dst (N := 25) rfl ?_); refine wpList_load_row rfl 27 (.tmp 1) rfl _ rfl 27 _ (0, 0) _ (HO.out.get 0 rfl) Try.underlying27 rfl (by kernel_rfl) ?_) | ((with_reducible refine gate_dst (N := 28) rfl ?_); refine wpList_load_row rfl 33 (.tmp 6) rfl _ rfl 33 _ (0, 0) _ (HO.out.get 1 rfl) Try.underlying33 rfl (by kernel_rfl) ?_) | ((with_reducible refine gate_dst (N := 46) rfl ?_); refine wpList_load_row rfl 33 (.tmp 6) rfl _ rfl 33 _ (0, 0) _ (HO.out.get 1 rfl) Try.underlying33 rfl (by kernel_rfl) ?_) | ((with_reducible refine gate_dst (N := 74) rfl ?_); refine wpList_load_row rfl 27 (.tmp 1) rfl _ rfl 27 _ (0, 0) _ (HO.out.get 0 rfl) Try.underlying27 rfl (by kernel_rfl) ?_))
  go_ret
  exact ⟨rfl, HO.out.below⟩
theorem laws_FnExactDeadSets.calls (k : Nat) (A0_0 : Option Addr) (c0_0 : Nat) (l0_0 : List (List Int)) (A0_1 : Option Addr) (c0_1 : Nat) (l0_1 : List S97) (w : World) (hr0_0 : Kd.C (Kd.slice 3 (Kd.int .i64)) w A0_0 l0_0.length l0_0) (hc0_0 : l0_0.length ≤ c0_0) (hr0_1 : Kd.C k97 w A0_1 l0_1.length l0_1) (hc0_1 : l0_1.length ≤ c0_1) (h : laws_FnExactDeadSets.ok k l0_0 l0_1) :
    Calls Try.prog 8 #[.agg #[.slice A0_0 l0_0.length c0_0, .slice A0_1 l0_1.length c0_1]] w fun e w' => e = .returned (.bool true) ∧ Below w.heap.size w w' := by
  unfold laws_FnExactDeadSets.ok at h
  rcases h with h | h
  · exact laws_FnExactDeadSets.s0 k A0_0 c0_0 l0_0 A0_1 c0_1 l0_1 w hr0_0 hc0_0 hr0_1 hc0_1 h
  · exact laws_FnExactDeadSets.whole k A0_0 c0_0 l0_0 A0_1 c0_1 l0_1 w hr0_0 hc0_0 hr0_1 hc0_1 h
end Go.Proofs.Ytkfpbblaomgihaa.P

namespace Go.Proofs.Ytkfpbblaomgihaa.Q
open Go.RowKit Go.Proofs.Ytkfpbblaomgihaa.P Go.Proofs.Ytkfpbblaomgihaa.H Go.Proofs.YtkfpbblaomgihaaW.PrintWords
theorem deadSets_of (l0_0 : List (List Int)) (l0_1 : List S97) (hl0 : Len (Len I64) l0_0 ∧ Len I64B l0_1) (core : Small l0_0 → SmallI (l0_1.map cvBlock) → ∃ (s1 : List (List Int)) (s2 : Bool), Ev (fun k => spec_DeadSets.f k l0_0 (l0_1.map cvBlock)) (s1, s2) ∧ impl_DeadSets.f l0_0 (l0_1.map cvBlock) = some (s1, s2) ∧ Small s1) : ∃ k, laws_FnExactDeadSets.ok k l0_0 l0_1 := by
  unfold laws_FnExactDeadSets.ok
  obtain ⟨z0, ⟨Kz0, hz0⟩, hcase0⟩ := szFlow_ev l0_0 l0_1 1048576 (by decide) (by decide) hl0.1 hl0.2
  rcases hcase0 with hneg0 | ⟨h00, h10', hs0, hb0⟩
  case inl =>
    exact ⟨Kz0, .inl (by unfold laws_FnExactDeadSets.skip0; exact ⟨z0, hz0 _ (by omega), hneg0⟩)⟩
  obtain ⟨s1, s2, ⟨Ksp, hsp⟩, him, hsm⟩ := core hs0 hb0.cv
  obtain ⟨Keq, heq⟩ := eqIntSS_ev s1 hsm
  have htot := total_small hsm
  obtain ⟨Khd, hhd⟩ := heldSS_ev s1 1 (by decide) (by omega) hsm.1
  obtain ⟨Kt0, ht0⟩ := toFlow_ev l0_0 l0_1 hs0 hb0
  obtain ⟨Ke0, he0⟩ := eqFlow_ev l0_0 (l0_1.map cvBlock) hs0 hb0.cv
  have hty0 := total_small hs0
  have hln0 := hs0.1
  have hlm0 := hb0.cv.1
  have htz0 := sumN_bound (blkLen_le hb0.cv) ((l0_1.map cvBlock).length * 2)
  have hlb0 : (l0_1.map cvBlock).length * 2 * 1048576 ≤ 2199023255552 := by omega
  refine ⟨Kz0 + Ksp + Keq + Khd + Kt0 + Ke0, .inr (?_)⟩
  unfold laws_FnExactDeadSets.good
  exact ⟨z0, l0_0, (l0_1.map cvBlock), s1, s2, hz0 _ (by omega), h00, ht0 _ (by omega), hsp _ (by omega), him, heq _ (by omega), he0 _ (by omega), by omega, hhd _ (by omega), hln0, hlm0, by omega⟩
end Go.Proofs.Ytkfpbblaomgihaa.Q
