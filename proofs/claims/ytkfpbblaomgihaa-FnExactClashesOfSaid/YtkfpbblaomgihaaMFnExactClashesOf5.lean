import Derived.Test.YtkfpbblaomgihaaMFnExactClashesOf1
import Derived.Test.YtkfpbblaomgihaaMFnExactClashesOf2
import Derived.Test.YtkfpbblaomgihaaMFnExactClashesOf3
import Derived.Test.YtkfpbblaomgihaaMFnExactClashesOf4
set_option linter.unusedVariables false
set_option linter.unusedSimpArgs false
namespace Go.Proofs.Ytkfpbblaomgihaa.P
open Go.RowKit Go.Proofs.YtkfpbblaomgihaaW.PrintWords Go.Proofs.YtkfpbblaomgihaaW.PrintLast Go.Proofs.YtkfpbblaomgihaaW.PrintMore
attribute [local go_sem] max2_int min2_int max_two min_two max_three min_three max_four min_four
theorem eqN (W : World) (X Y : List Bool) (hX : X.length = 8) (hY : Y.length = 8) : (Op.equalIn 10000 78 (.agg (H.bcells X)) (.agg (H.bcells Y))).run Try.prog W = .ok (decide (X = Y)) W := by
  match X, hX, Y, hY with
  | [_, _, _, _, _, _, _, _], _, [_, _, _, _, _, _, _, _], _ => exact eq8 W _ _ _ _ _ _ _ _ _ _ _ _ _ _ _ _
theorem goodF_len {g : List (List Int)} {b : List S56} (h : goodF g b = true) : b.length = g.length ∧ 1 ≤ b.length ∧ b.length ≤ 12 := by
  unfold goodF H.goodG at h
  simp only [Bool.and_eq_true, decide_eq_true_eq] at h
  omega
theorem goodF_next {g : List (List Int)} {b : List S56} (h : goodF g b = true) {t : Nat} (ht : t < b.length) : ∀ k ∈ g.getD t [], 0 ≤ k ∧ k < (b.length : Int) := by
  have hl := goodF_len h
  unfold goodF H.goodG at h
  simp only [Bool.and_eq_true, decide_eq_true_eq] at h
  have h8 := List.all_eq_true.1 h.1.1.2 (g.getD t []) (by rw [List.getD_eq_getElem?_getD, List.getElem?_eq_getElem (by omega)]; exact List.getElem_mem _)
  intro k hk
  have := upB_mem h8 k hk
  omega
theorem goodF_blk {g : List (List Int)} {b : List S56} (h : goodF g b = true) {t : Nat} (ht : t < b.length) : H.upB (b.getD t z56).f0 0 7 0 = true ∧ H.upB (b.getD t z56).f1 0 7 0 = true := by
  unfold goodF at h
  simp only [Bool.and_eq_true, decide_eq_true_eq] at h
  have h8 := List.all_eq_true.1 h.2 (b.getD t z56) (by rw [List.getD_eq_getElem?_getD, List.getElem?_eq_getElem ht]; exact List.getElem_mem ht)
  unfold okBlock at h8
  simpa using h8
def nextF (g : List (List Int)) (b : List S56) (M : List (List Bool)) (t : Nat) : List Bool := thrU (thrS (outF g M t) (b.getD t z56).f1) (b.getD t z56).f0
theorem nextF_len {g : List (List Int)} {b : List S56} (h : goodF g b = true) {M : List (List Bool)} (hM : H.Mat 8 M) (hl : M.length = b.length) {t : Nat} (ht : t < b.length) : (nextF g b M t).length = 8 := by
  unfold nextF
  rw [thrU_len, thrS_len]
  exact outF_len _ _ _ hM (by rw [hl]; exact goodF_next h ht)
def passF (g : List (List Int)) (b : List S56) : Nat → List (List Bool) → Nat → Bool → List (List Bool) × Bool
  | 0, M, _, ag => (M, ag)
  | d + 1, M, t, ag => if nextF g b M t = M.getD t [] then passF g b d M (t + 1) ag else passF g b d (M.set t (nextF g b M t)) (t + 1) true
def liveL (g : List (List Int)) (b : List S56) : Nat → List (List Bool) → Option (List (List Bool))
  | 0, _ => none
  | k + 1, M => if (passF g b b.length M 0 false).2 then liveL g b k (passF g b b.length M 0 false).1 else some (passF g b b.length M 0 false).1
set_option maxHeartbeats 8000000 in
set_option maxRecDepth 100000 in
theorem impl_live.calls (k : Nat) (p : Addr) (A0 : Option Addr) (c0 : Nat) (g : List (List Int)) (A1 : Option Addr) (c1 : Nat) (bl : List S56) (R : List (List Bool)) (w : World)
    (hp0 : w.cell? p = some (.slice A0 g.length c0)) (hp1 : w.cell? ⟨p.block, p.off + 1, none⟩ = some (.slice A1 bl.length c1))
    (hr0 : Kd.C (Kd.slice 3 (Kd.int .i64)) w A0 g.length g) (hr1 : Kd.C k56 w A1 bl.length bl) (hg : goodF g bl = true) (h : liveL g bl k (List.replicate bl.length (List.replicate 8 false)) = some R) :
    Calls Try.prog 66 #[.pointer (some p)] w fun e w' => ∃ gm, e = .returned (.slice (some ⟨gm, 0, none⟩) bl.length bl.length) ∧ R.length = bl.length ∧ H.Mat 8 R ∧ H.Own w w' [(gm, H.bcells R.flatten, 78)] := by
  have hlen := goodF_len hg
  have hn1 := hr1.2.1
  have HP0 := Aside0.mk hp0
  have HP1 := Aside0.mk hp1
  have HR0 := Aside0.mk hr0
  have HR1 := Aside0.mk hr1
  have HG := Aside0.mk hg
  have HLEN := Aside0.mk hlen
  have HL := Aside0.mk h
  clear hp0 hr0 hr1 hg h
  have hl1 : 1 ≤ bl.length := hlen.2.1
  have hl2 : bl.length ≤ 12 := hlen.2.2
  clear hlen
  have HO := Aside0.mk (H.Own.nil w)
  have hmk : ∀ W : World, (Instr.makeSlice 76 (.int .i64 (bl.length : Int)) (.int .i64 (bl.length : Int))).run Try.prog W = .ok (.slice (some ⟨W.heap.size, 0, none⟩) bl.length bl.length) (W.alloc (.cells (H.bcells (List.replicate bl.length (List.replicate 8 false)).flatten) 78)) := fun W => make_names W bl.length (by omega)
  go_enter Try.func66, Try.ntmps66
  go_wp2_with ((with_reducible refine gate_dst (N := 12) rfl ?_); refine H.own_make HO.out ?hg (N := 12) ?hd (n := bl.length) (cs := H.bcells (List.replicate bl.length (List.replicate 8 false)).flatten) (t := 78) ?hr ?_; (case hd => rfl); (case hg => rfl); (case hr => first | (go_simp; done) | (go_simp; rfl)); intro gs w_ ho_ hb_; clear hmk; replace HO := Aside0.mk ho_; clear ho_ hb_)
  clear hp1
  go_loopg [4] k (fun kq v4 wr => ∃ (ag : Bool) (M : List (List Bool)), v4 = .bool ag ∧ Aside0 (M.length = bl.length) ∧ Aside0 (H.Mat 8 M) ∧ Aside0 (if ag then liveL g bl kq M = some R else M = R) ∧ Aside0 (kq ≤ k) ∧ Aside0 (H.Own w wr [(gs, H.bcells M.flatten, 78)]))
  case atStart => exact ⟨true, _, rfl, ⟨by simp⟩, ⟨H.Mat.rep _ _⟩, ⟨by rw [if_pos rfl]; exact HL.out⟩, ⟨Nat.le_refl _⟩, HO⟩
  case round =>
    clear HO HL
    obtain ⟨ag, M, rfl, HML, HMM, HA, HK, HO⟩ := hrel
    cases ag with
    | false =>
      have hA := HA.out
      rw [if_neg (by simp)] at hA
      subst hA
      go_wp2
      go_ret
      exact ⟨gs, rfl, HML.out, HMM.out, HO.out⟩
    | true =>
      have hA := HA.out
      rw [if_pos rfl] at hA
      cases gk with
      | zero => exact absurd hA (by simp [liveL])
      | succ k1 =>
        have HA' := Aside0.mk hA
        clear hA HA
        have hx1 := HO.out.old HP1.out
        go_wp2
        go_loopw [19, 4] (fun v19 v4 wr => ∃ (t : Nat) (M2 : List (List Bool)) (ag2 : Bool), v19 = .int .i64 t ∧ v4 = .bool ag2 ∧ t ≤ bl.length ∧ Aside0 (M2.length = bl.length) ∧ Aside0 (H.Mat 8 M2) ∧ Aside0 (passF g bl (bl.length - t) M2 t ag2 = passF g bl bl.length M 0 false) ∧ Aside0 (H.Own w wr [(gs, H.bcells M2.flatten, 78)])) (fun v19 _ _ => bl.length - (intOf v19).toNat)
        case atStart => exact ⟨0, M, false, rfl, rfl, Nat.zero_le _, HML, HMM, ⟨rfl⟩, HO⟩
        case round =>
          clear HO hx1 HML HMM
          obtain ⟨t, M2, ag2, rfl, rfl, ht, HML, HMM, HE, HO⟩ := hrel
          by_cases hlt : t < bl.length
          · obtain ⟨adb, A3, c3', B3, d3, e3, h0, h1, h2, h3, h4, h5⟩ := at_T56 HR1.out (t : Int) (by omega) (by omega)
            cases e3
            rw [Int.toNat_natCast] at h0 h1
            have hxb : rd_T56 bl (t : Int) = bl.getD t z56 := rfl
            rw [hxb] at h0 h1 h2 h3 h4 h5
            have hokb := goodF_blk HG.out hlt
            have hnx := goodF_next HG.out hlt
            have hX1L := nextF_len HG.out HMM.out HML.out hlt
            have hE := HE.out
            obtain ⟨d, hd⟩ : ∃ d, bl.length - t = d + 1 := ⟨bl.length - t - 1, by omega⟩
            rw [hd, passF] at hE
            have HLT := Aside0.mk hlt
            have hrow : (M2.getD t []).length = 8 := HMM.out.row (by rw [HML.out]; exact hlt)
            have HOUT : Aside0 (∀ W, H.Own w W [(gs, H.bcells M2.flatten, 78)] → Calls Try.prog 63 #[.pointer (some p), .slice (some ⟨gs, 0, none⟩) bl.length bl.length, .int .i64 t] W fun e w' => e = .returned (.agg (H.bcells (outF g M2 t))) ∧ Below W.heap.size W w') := ⟨fun W hO => by
              have := impl_out.calls p A0 c0 g gs M2 t W (hO.old HP0.out) (Kd.C_below HR0.out hO.below) (hO.get 0 rfl) HMM.out (by have := HLEN.out.1; have := HLT.out; omega) (by rw [HML.out]; exact hnx)
              rw [HML.out] at this
              exact this⟩
            have HTHR : Aside0 (∀ W L, H.Own w W L → Calls Try.prog 62 #[.pointer (some (adb.add (t * 2))), .agg (H.bcells (outF g M2 t))] W fun e w' => e = .returned (.agg (H.bcells (nextF g bl M2 t))) ∧ Below W.heap.size W w') := ⟨fun W L hO => impl_through.calls (adb.add (t * 2)) A3 c3' _ B3 d3 _ (outF g M2 t) W (hO.old h0) (hO.old h1) (Kd.C_below h3 hO.below) (Kd.C_below h5 hO.below) (upB_mem hokb.1) (upB_mem hokb.2) (outF_len _ _ _ HMM.out (by rw [HML.out]; exact hnx))⟩
            have HROW := Aside0.mk hrow
            clear h0 h1 h2 h3 h4 h5 hxb hokb hnx hrow
            obtain ⟨X0, hX0⟩ : ∃ X0, outF g M2 t = X0 := ⟨_, rfl⟩
            rw [hX0] at HOUT HTHR
            clear hX0
            obtain ⟨X1, hX1⟩ : ∃ X1, nextF g bl M2 t = X1 := ⟨_, rfl⟩
            rw [hX1] at HTHR hE hX1L
            clear hX1
            have HX1L := Aside0.mk hX1L
            have HE' := Aside0.mk hE
            have HD := Aside0.mk hd
            clear hE hd hX1L HE
            go_wp2
            replace HO := Aside0.mk HO.out.drew
            refine start_ (n := 13) (S := fun w' => w'.cell? ⟨p.block, p.off + 1, none⟩ = some (.slice (some adb) bl.length c1)) (ds := []) #[false, false, false, false, false, false, false, false, false, false, false, false, false] (by kernel_rfl) rfl rfl ((HO.out.old HP1.out)) (fun hHeld => ?_)
            refine pure_ (i := 0) (N := some 22) (v := ?_) (a' := ?_) #[true, false, false, false, false, false, false, false, false, false, false, false, false] rfl rfl (by kernel_rfl) (fun _ _ _ h => h) (Or.inl ⟨by rfl, ?_⟩) ?_ ?_
            rotate_left
            · intro w'
              go_simp
              with_reducible rfl
            rotate_left
            · simp only [Act.put, List.setIfInBounds_toArray, List.set_cons_zero, List.set_cons_succ, i64_w, i32_w]
              rfl
            refine pure_ (i := 1) (N := some 23) (v := ?_) (a' := ?_) #[true, true, false, false, false, false, false, false, false, false, false, false, false] rfl rfl (by kernel_rfl) (fun _ _ _ h => h) (Or.inl ⟨by rfl, ?_⟩) ?_ ?_
            rotate_left
            · intro w'
              go_simp
              with_reducible rfl
            rotate_left
            · simp only [Act.put, List.setIfInBounds_toArray, List.set_cons_zero, List.set_cons_succ, i64_w, i32_w]
              rfl
            refine pure_ (i := 2) (N := some 24) (v := ?_) (a' := ?_) #[true, true, true, false, false, false, false, false, false, false, false, false, false] rfl rfl (by kernel_rfl) (fun _ _ _ h => h) (Or.inl ⟨by rfl, ?_⟩) ?_ ?_
            rotate_left
            · intro w'
              go_simp
              with_reducible rfl
            rotate_left
            · simp only [Act.put, List.setIfInBounds_toArray, List.set_cons_zero, List.set_cons_succ, i64_w, i32_w]
              rfl
            refine pure_ (i := 4) (N := some 26) (v := ?_) (a' := ?_) #[true, true, true, false, true, false, false, false, false, false, false, false, false] rfl rfl (by kernel_rfl) (fun _ _ _ h => h) (Or.inl ⟨by rfl, ?_⟩) ?_ ?_
            rotate_left
            · intro w'
              go_simp
              with_reducible rfl
            rotate_left
            · simp only [Act.put, List.setIfInBounds_toArray, List.set_cons_zero, List.set_cons_succ, i64_w, i32_w]
              rfl
            refine pure_ (i := 6) (N := some 28) (v := ?_) (a' := ?_) #[true, true, true, false, true, false, true, false, false, false, false, false, false] rfl rfl (by kernel_rfl) (fun _ _ _ h => h) (Or.inl ⟨by rfl, ?_⟩) ?_ ?_
            rotate_left
            · intro w'
              go_simp
              with_reducible rfl
            rotate_left
            · simp only [Act.put, List.setIfInBounds_toArray, List.set_cons_zero, List.set_cons_succ, i64_w, i32_w]
              rfl
            refine pure_ (i := 7) (N := some 29) (v := ?_) (a' := ?_) #[true, true, true, false, true, false, true, true, false, false, false, false, false] rfl rfl (by kernel_rfl) (fun _ _ _ h => h) (Or.inl ⟨by rfl, ?_⟩) ?_ ?_
            rotate_left
            · intro w'
              go_simp
              with_reducible rfl
            rotate_left
            · simp only [Act.put, List.setIfInBounds_toArray, List.set_cons_zero, List.set_cons_succ, i64_w, i32_w]
              rfl
            refine pure_ (i := 8) (N := some 30) (v := ?_) (a' := ?_) #[true, true, true, false, true, false, true, true, true, false, false, false, false] rfl rfl (by kernel_rfl) (fun _ _ _ h => h) (Or.inl ⟨by rfl, ?_⟩) ?_ ?_
            rotate_left
            · intro w'
              go_simp
              with_reducible rfl
            rotate_left
            · simp only [Act.put, List.setIfInBounds_toArray, List.set_cons_zero, List.set_cons_succ, i64_w, i32_w]
              rfl
            refine take_ (i := 3) (N := some 25) (v := ?_) (a' := ?_) #[true, true, true, true, true, false, true, true, true, false, false, false, false] rfl rfl (by kernel_rfl) (fun _ _ _ h => h) (Or.inl ⟨by rfl, ?_⟩) hHeld ?_ ?_
            rotate_left
            · intro w' s0
              go_simp
              with_reducible rfl
            rotate_left
            · simp only [Act.put, List.setIfInBounds_toArray, List.set_cons_zero, List.set_cons_succ, i64_w, i32_w]
              rfl
            refine pure_ (i := 5) (N := some 27) (v := ?_) (a' := ?_) #[true, true, true, true, true, true, true, true, true, false, false, false, false] rfl rfl (by kernel_rfl) (fun _ _ _ h => h) (Or.inl ⟨by rfl, ?_⟩) ?_ ?_
            rotate_left
            · intro w'
              go_simp
              with_reducible rfl
            rotate_left
            · simp only [Act.put, List.setIfInBounds_toArray, List.set_cons_zero, List.set_cons_succ, i64_w, i32_w]
              rfl
            refine join_ (σ := Nat) 1 #[true, true, true, true, true, true, true, true, true, true, true, true, false] (fun s => [(31, .agg (H.bcells X0)), (32, .agg (H.bcells X1)), (6, .pointer (some ⟨s, 0, none⟩))]) (fun s w1 => w1.cell? ⟨p.block, p.off + 1, none⟩ = some (.slice (some adb) bl.length c1) ∧ Aside0 (H.Own w w1 [(gs, H.bcells M2.flatten, 78), (s, H.bcells (List.replicate 8 false), 78)])) ?_ ?_
            rotate_left
            · intro hCont
              refine two_ (i := 9) (j := 11) (Ni := some 31) (Nj := some 6) #[true, true, true, true, true, true, true, true, true, true, false, false, false] #[true, true, true, true, true, true, true, true, true, false, false, true, false] rfl rfl rfl rfl (by kernel_rfl) (by decide) (by decide) (fun K hK => ?_) (fun K hK => ?_)
              · skip
                refine goes_ Try.func63 (by kernel_rfl) rfl #[.pointer (some p), .slice (some ⟨gs, 0, none⟩) bl.length bl.length, .int .i64 t] (by rfl) rfl rfl (by simp only [List.map_toArray, List.map_cons, List.map_nil]; rfl) ?_
                with_reducible refine (HOUT.out _ (HO.out.take (by simp))).mono ?_
                rintro e w3 ⟨rfl, hb⟩
                refine ⟨_, rfl, ?_⟩
                replace HO := Aside0.mk (HO.out.step hb)
                clear hb
                refine hK.out _ _ ((HO.out.old HP1.out)) (fun hHeld => ?_)
                clear hK K
                refine norm_ (a' := ?_) ?_ ?_
                rotate_left
                · show Act.put _ (some 31) _ = _
                  simp only [Act.put, List.setIfInBounds_toArray, List.set_cons_zero, List.set_cons_succ, i64_w, i32_w]
                  rfl
                refine two_ (i := 10) (j := 11) (Ni := some 32) (Nj := some 6) #[true, true, true, true, true, true, true, true, true, true, true, false, false] #[true, true, true, true, true, true, true, true, true, true, false, true, false] rfl rfl rfl rfl (by kernel_rfl) (by decide) (by decide) (fun K hK => ?_) (fun K hK => ?_)
                · skip
                  refine goes_ Try.func62 (by kernel_rfl) rfl #[.pointer (some (adb.add (t * 2))), .agg (H.bcells X0)] (by rfl) rfl rfl (by simp only [List.map_toArray, List.map_cons, List.map_nil]; rfl) ?_
                  with_reducible refine (HTHR.out _ _ HO.out).mono ?_
                  rintro e w3 ⟨rfl, hb⟩
                  refine ⟨_, rfl, ?_⟩
                  replace HO := Aside0.mk (HO.out.step hb)
                  clear hb
                  refine hK.out _ _ ((HO.out.old HP1.out)) (fun hHeld => ?_)
                  clear hK K
                  refine norm_ (a' := ?_) ?_ ?_
                  rotate_left
                  · show Act.put _ (some 32) _ = _
                    simp only [Act.put, List.setIfInBounds_toArray, List.set_cons_zero, List.set_cons_succ, i64_w, i32_w]
                    rfl
                  refine one_ (i := 11) (N := some 6) #[true, true, true, true, true, true, true, true, true, true, true, true, false] rfl rfl (by kernel_rfl) (by decide) (fun K hK => ?_)
                  refine H.own_box_step HO.out (by rfl) (cs := H.bcells (List.replicate 8 false)) (t := 78) ?_ ?_
                  · first | (go_simp; done) | (go_simp; rfl)
                  intro gx w_ ho_ hb_
                  replace HO := Aside0.mk ho_
                  clear ho_ hb_
                  refine hK.out _ _ ((HO.out.old HP1.out)) (fun hHeld => ?_)
                  clear hK K
                  refine norm_ (a' := ?_) ?_ ?_
                  rotate_left
                  · show Act.put _ (some 6) _ = _
                    simp only [Act.put, List.setIfInBounds_toArray, List.set_cons_zero, List.set_cons_succ, i64_w, i32_w]
                    rfl
                  exact norm_ (by simp only [putAll, Act.put, List.setIfInBounds_toArray, List.set_cons_zero, List.set_cons_succ]) (hCont gx _ ⟨HO.out.old HP1.out, HO⟩)
                · skip
                  refine H.own_box_step HO.out (by rfl) (cs := H.bcells (List.replicate 8 false)) (t := 78) ?_ ?_
                  · first | (go_simp; done) | (go_simp; rfl)
                  intro gx w_ ho_ hb_
                  replace HO := Aside0.mk ho_
                  clear ho_ hb_
                  refine hK.out _ _ ((HO.out.old HP1.out)) (fun hHeld => ?_)
                  clear hK K
                  refine norm_ (a' := ?_) ?_ ?_
                  rotate_left
                  · show Act.put _ (some 6) _ = _
                    simp only [Act.put, List.setIfInBounds_toArray, List.set_cons_zero, List.set_cons_succ, i64_w, i32_w]
                    rfl
                  refine one_ (i := 10) (N := some 32) #[true, true, true, true, true, true, true, true, true, true, true, true, false] rfl rfl (by kernel_rfl) (by decide) (fun K hK => ?_)
                  refine goes_ Try.func62 (by kernel_rfl) rfl #[.pointer (some (adb.add (t * 2))), .agg (H.bcells X0)] (by rfl) rfl rfl (by simp only [List.map_toArray, List.map_cons, List.map_nil]; rfl) ?_
                  with_reducible refine (HTHR.out _ _ HO.out).mono ?_
                  rintro e w3 ⟨rfl, hb⟩
                  refine ⟨_, rfl, ?_⟩
                  replace HO := Aside0.mk (HO.out.step hb)
                  clear hb
                  refine hK.out _ _ ((HO.out.old HP1.out)) (fun hHeld => ?_)
                  clear hK K
                  refine norm_ (a' := ?_) ?_ ?_
                  rotate_left
                  · show Act.put _ (some 32) _ = _
                    simp only [Act.put, List.setIfInBounds_toArray, List.set_cons_zero, List.set_cons_succ, i64_w, i32_w]
                    rfl
                  exact norm_ (by simp only [putAll, Act.put, List.setIfInBounds_toArray, List.set_cons_zero, List.set_cons_succ]) (hCont gx _ ⟨HO.out.old HP1.out, HO⟩)
              · skip
                refine H.own_box_step HO.out (by rfl) (cs := H.bcells (List.replicate 8 false)) (t := 78) ?_ ?_
                · first | (go_simp; done) | (go_simp; rfl)
                intro gx w_ ho_ hb_
                replace HO := Aside0.mk ho_
                clear ho_ hb_
                refine hK.out _ _ ((HO.out.old HP1.out)) (fun hHeld => ?_)
                clear hK K
                refine norm_ (a' := ?_) ?_ ?_
                rotate_left
                · show Act.put _ (some 6) _ = _
                  simp only [Act.put, List.setIfInBounds_toArray, List.set_cons_zero, List.set_cons_succ, i64_w, i32_w]
                  rfl
                refine one_ (i := 9) (N := some 31) #[true, true, true, true, true, true, true, true, true, true, false, true, false] rfl rfl (by kernel_rfl) (by decide) (fun K hK => ?_)
                refine goes_ Try.func63 (by kernel_rfl) rfl #[.pointer (some p), .slice (some ⟨gs, 0, none⟩) bl.length bl.length, .int .i64 t] (by rfl) rfl rfl (by simp only [List.map_toArray, List.map_cons, List.map_nil]; rfl) ?_
                with_reducible refine (HOUT.out _ (HO.out.take (by simp))).mono ?_
                rintro e w3 ⟨rfl, hb⟩
                refine ⟨_, rfl, ?_⟩
                replace HO := Aside0.mk (HO.out.step hb)
                clear hb
                refine hK.out _ _ ((HO.out.old HP1.out)) (fun hHeld => ?_)
                clear hK K
                refine norm_ (a' := ?_) ?_ ?_
                rotate_left
                · show Act.put _ (some 31) _ = _
                  simp only [Act.put, List.setIfInBounds_toArray, List.set_cons_zero, List.set_cons_succ, i64_w, i32_w]
                  rfl
                refine one_ (i := 10) (N := some 32) #[true, true, true, true, true, true, true, true, true, true, true, true, false] rfl rfl (by kernel_rfl) (by decide) (fun K hK => ?_)
                refine goes_ Try.func62 (by kernel_rfl) rfl #[.pointer (some (adb.add (t * 2))), .agg (H.bcells X0)] (by rfl) rfl rfl (by simp only [List.map_toArray, List.map_cons, List.map_nil]; rfl) ?_
                with_reducible refine (HTHR.out _ _ HO.out).mono ?_
                rintro e w3 ⟨rfl, hb⟩
                refine ⟨_, rfl, ?_⟩
                replace HO := Aside0.mk (HO.out.step hb)
                clear hb
                refine hK.out _ _ ((HO.out.old HP1.out)) (fun hHeld => ?_)
                clear hK K
                refine norm_ (a' := ?_) ?_ ?_
                rotate_left
                · show Act.put _ (some 32) _ = _
                  simp only [Act.put, List.setIfInBounds_toArray, List.set_cons_zero, List.set_cons_succ, i64_w, i32_w]
                  rfl
                exact norm_ (by simp only [putAll, Act.put, List.setIfInBounds_toArray, List.set_cons_zero, List.set_cons_succ]) (hCont gx _ ⟨HO.out.old HP1.out, HO⟩)
            rintro gx w1 ⟨hHeld, HO⟩
            refine norm_ (a' := ?_) ?_ ?_
            rotate_left
            · simp only [putAll, Act.put, List.setIfInBounds_toArray, List.set_cons_zero, List.set_cons_succ]
              rfl
            refine one_ (i := 12) (N := none) #[true, true, true, true, true, true, true, true, true, true, true, true, true] rfl rfl (by kernel_rfl) (by decide) (fun K hK => ?_)
            refine H.own_ball_step HO.out (by rfl) 1 (bs' := X1) rfl rfl rfl rfl rfl (by kernel_rfl) HX1L.out ?_
            intro w_ ho_ hg_
            replace HO := Aside0.mk ho_
            clear ho_ hg_
            refine hK.out _ _ ((HO.out.old HP1.out)) (fun hHeld => ?_)
            clear hK K
            refine done_ (by kernel_rfl) ?_
            clear HOUT HTHR
            obtain ⟨row, hrow⟩ : ∃ row, M2.getD t [] = row := ⟨_, rfl⟩
            have hRL := HROW.out
            rw [hrow] at hRL
            have HRL := Aside0.mk hRL
            have HRW := Aside0.mk hrow
            have hE := HE'.out
            rw [hrow] at hE
            have heq := fun W => eqN W X1 row HX1L.out hRL
            have hi78 : (Try.prog.info? 78).map (·.size) = some 8 := by kernel_rfl
            have HI := Aside0.mk hi78
            have htl : (t : Int) < (bl.length : Int) := by omega
            clear hRL HROW hrow hi78 HE'
            obtain ⟨dd, hdd⟩ : ∃ dd, decide (X1 = row) = dd := ⟨_, rfl⟩
            rw [hdd] at heq
            have HDD := Aside0.mk hdd
            have HE2 := Aside0.mk hE
            clear hdd hE
            go_wp2
            replace HO := Aside0.mk HO.out.drew
            refine start_ (n := 6) (S := fun w' => w'.rangeAt gx 0 (X1.map Value.bool) ∧ w'.rangeAt gs (t * 8) (row.map Value.bool)) (ds := []) #[false, false, false, false, false, false] (by kernel_rfl) rfl rfl ⟨(HO.out.brange 1 rfl), (by rw [← HRW.out]; exact HO.out.mrange 0 (n := 8) rfl HMM.out (by rw [HML.out]; exact HLT.out))⟩ (fun hHeld => ?_)
            refine pure_ (i := 1) (N := some 34) (v := ?_) (a' := ?_) #[false, true, false, false, false, false] rfl rfl (by kernel_rfl) (fun _ _ _ h => h) (Or.inl ⟨by rfl, ?_⟩) ?_ ?_
            rotate_left
            · intro w'
              go_simp
              with_reducible rfl
            rotate_left
            · simp only [Act.put, List.setIfInBounds_toArray, List.set_cons_zero, List.set_cons_succ, i64_w, i32_w]
              rfl
            refine pure_ (i := 2) (N := some 35) (v := ?_) (a' := ?_) #[false, true, true, false, false, false] rfl rfl (by kernel_rfl) (fun _ _ _ h => h) (Or.inl ⟨by rfl, ?_⟩) ?_ ?_
            rotate_left
            · intro w'
              go_simp
              with_reducible rfl
            rotate_left
            · simp only [Act.put, List.setIfInBounds_toArray, List.set_cons_zero, List.set_cons_succ, i64_w, i32_w]
              rfl
            refine pure_ (i := 3) (N := some 36) (v := ?_) (a' := ?_) #[false, true, true, true, false, false] rfl rfl (by kernel_rfl) (fun _ _ _ h => h) (Or.inl ⟨by rfl, ?_⟩) ?_ ?_
            rotate_left
            · intro w'
              go_simp
              with_reducible rfl
            rotate_left
            · simp only [Act.put, List.setIfInBounds_toArray, List.set_cons_zero, List.set_cons_succ, i64_w, i32_w]
              rfl
            refine take_ (i := 0) (N := some 33) (v := .agg (H.bcells X1)) (a' := ?_) #[true, true, true, true, false, false] rfl rfl (by kernel_rfl) (fun _ _ _ h => h) (yieldsIf_load_mid (by rfl) 78 (.tmp 6) rfl gx 0 rfl (X1.map Value.bool) _ (fun W h => h.1) Try.underlying78 rfl (by rw [List.length_map, HX1L.out]; exact HI.out)) hHeld ?_ ?_
            rotate_left
            · simp only [Act.put, List.setIfInBounds_toArray, List.set_cons_zero, List.set_cons_succ, i64_w, i32_w]
              rfl
            refine take_ (i := 4) (N := some 37) (v := .agg (H.bcells row)) (a' := ?_) #[true, true, true, true, true, false] rfl rfl (by kernel_rfl) (fun _ _ _ h => h) (yieldsIf_load_mid (by rfl) 78 (.tmp 36) rfl gs (t * 8) rfl (row.map Value.bool) _ (fun W h => h.2) Try.underlying78 rfl (by rw [List.length_map, HRL.out]; exact HI.out)) hHeld ?_ ?_
            rotate_left
            · simp only [Act.put, List.setIfInBounds_toArray, List.set_cons_zero, List.set_cons_succ, i64_w, i32_w]
              rfl
            refine pure_ (i := 5) (N := some 38) (v := ?_) (a' := ?_) #[true, true, true, true, true, true] rfl rfl (by kernel_rfl) (fun _ _ _ h => h) (Or.inl ⟨by rfl, ?_⟩) ?_ ?_
            rotate_left
            · intro w'
              go_simp
              with_reducible rfl
            rotate_left
            · simp only [Act.put, List.setIfInBounds_toArray, List.set_cons_zero, List.set_cons_succ, i64_w, i32_w]
              rfl
            refine done_ (by kernel_rfl) ?_
            clear heq
            have hE := HE2.out
            cases dd with
            | true =>
              have hd := of_decide_eq_true HDD.out
              rw [if_pos hd] at hE
              have HE3 := Aside0.mk hE
              clear hE hd
              go_wp2
              go_roundw
              case rel => exact ⟨t + 1, M2, ag2, by go_num, rfl, by omega, HML, HMM, ⟨by have := HD.out; rw [show bl.length - (t + 1) = d by omega]; exact HE3.out⟩, ⟨HO.out.take (by simp)⟩⟩
              case measure => simp [intOf]; omega
            | false =>
              have hd := of_decide_eq_false HDD.out
              rw [if_neg hd] at hE
              have HE3 := Aside0.mk hE
              clear hE hd
              go_wp2_with (first | ((with_reducible refine gate_dst (N := 41) rfl ?_); refine wpList_load_row rfl 78 (.tmp 6) rfl _ rfl 78 _ (0, 0) _ (HO.out.get 1 rfl) Try.underlying78 rfl (by rw [H.bcells_size, HX1L.out]; exact HI.out) ?_) | ((with_reducible refine gate_store (t := 78) (p := 42) rfl ?_); refine H.own_mrow HO.out 0 (n := 8) (r := X1) rfl HMM.out rfl rfl rfl rfl rfl (by kernel_rfl) (by rw [HML.out]; exact HLT.out) HX1L.out ?_; intro w_ ho_ hg_; replace HO := Aside0.mk ho_; clear ho_ hg_))
              go_roundw
              case rel => exact ⟨t + 1, M2.set t X1, true, by go_num, rfl, by omega, ⟨by rw [List.length_set]; exact HML.out⟩, ⟨HMM.out.set t HX1L.out⟩, ⟨by have := HD.out; rw [show bl.length - (t + 1) = d by omega]; exact HE3.out⟩, ⟨HO.out.take (by simp)⟩⟩
              case measure => simp [intOf]; omega
          · have hE : t = bl.length := by omega
            subst hE
            have hE := HE.out
            rw [Nat.sub_self, passF] at hE
            have hA := HA'.out
            rw [liveL, ← hE] at hA
            have HA := Aside0.mk hA
            clear hA hE HE
            go_wp2
            go_roundg k1
            case measure => have := HK.out; omega
            case rel => exact ⟨ag2, M2, rfl, HML, HMM, ⟨by have := HA.out; cases ag2 <;> simpa using this⟩, ⟨by have := HK.out; omega⟩, HO⟩
end Go.Proofs.Ytkfpbblaomgihaa.P

namespace Go.Proofs.Ytkfpbblaomgihaa.P
open Go.RowKit Go.Proofs.YtkfpbblaomgihaaW.PrintWords Go.Proofs.YtkfpbblaomgihaaW.PrintLast Go.Proofs.YtkfpbblaomgihaaW.PrintMore
attribute [local go_sem] max2_int min2_int max_two min_two max_three min_three max_four min_four
def listTo (bs : List Bool) (i : Nat) : List Int := ((List.range i).filter (fun j => bs.getD j false)).map (fun j : Nat => (j : Int))
theorem listTo_len (bs : List Bool) (i : Nat) : (listTo bs i).length ≤ i := by
  unfold listTo
  rw [List.length_map]
  exact Nat.le_trans (List.length_filter_le _ _) (by rw [List.length_range]; exact Nat.le_refl _)
theorem listTo_step (bs : List Bool) (i : Nat) : listTo bs (i + 1) = if bs.getD i false then listTo bs i ++ [(i : Int)] else listTo bs i := by
  unfold listTo
  rw [List.range_succ, List.filter_append, List.map_append]
  cases h : bs.getD i false with
  | true =>
    rw [if_pos rfl]
    congr 1
    rw [List.filter_cons, h, if_pos rfl]
    rfl
  | false =>
    rw [if_neg (by simp), List.filter_cons, h, if_neg (by simp)]
    simp
set_option maxHeartbeats 8000000 in
set_option maxRecDepth 100000 in
theorem impl_list.calls (gb off : Nat) (bs : List Bool) (w : World) (hr : w.rangeAt gb off (bs.map Value.bool)) (hb : bs.length = 8) :
    Calls Try.prog 79 #[.pointer (some ⟨gb, off, none⟩)] w fun e w' => ∃ v0_ : Value, e = .returned v0_ ∧ Kd.R (Kd.int .i64) 3 w' w.heap.size (fun _ => True) v0_ (listTo bs 8) ∧ Below w.heap.size w w' := by
  have HR := Aside0.mk hr
  have HL := Aside0.mk hb
  clear hr hb
  have HO := Aside0.mk (H.Own.nil w)
  go_enter Try.func79, Try.ntmps79
  go_wp2_with ((with_reducible refine gate_dst (N := 6) rfl ?_); refine Kd.R_lit (Kd.int .i64) (w0 := w) w.heap.size 3 ?hg (N := 6) ?hd (xs := ([] : List Int)) (inner := []) (ok := fun _ => True) (okp := fun _ => True) ?hr ?hp (fun _ hk => hk) trivial HO.out.below HO.out.size (by simp) ?_; (case hd => rfl); (case hg => rfl); (case hr => first | (go_simp; done) | (go_simp; rfl)); (case hp => exact Reps.none _ _); intro vo w_ ho_ hb_ hg_ hnew_; replace HO := Aside0.mk (HO.out.grown hg_ (fun k hk => by cases hk)); have HV := Aside0.mk ho_; clear ho_ hb_ hg_ hnew_)
  go_loopw [8, 3] (fun v8 v3 wr => ∃ i : Nat, v8 = .int .i64 i ∧ i ≤ 8 ∧ Aside0 (Kd.R (Kd.int .i64) 3 wr w.heap.size (fun _ => True) v3 (listTo bs i)) ∧ Aside0 (H.Own w wr [])) (fun v8 _ _ => 8 - (intOf v8).toNat)
  case atStart => exact ⟨0, rfl, Nat.zero_le _, HV, HO⟩
  case round =>
    clear HO HV
    obtain ⟨i, rfl, hi, HV, HO⟩ := hrel
    by_cases hlt : i < 8
    · have hc0 : w.cell? ⟨gb, off + i, none⟩ = some (.bool (bs.getD i false)) := HR.out i _ (by rw [List.getElem?_map, H.getD_some false (by rw [HL.out]; exact hlt)]; rfl)
      have hc := HO.out.old hc0
      have hst := listTo_step bs i
      have hi8 : (i : Int) < 8 := by omega
      clear hc0
      cases hbi : bs.getD i false with
      | true =>
        rw [hbi] at hc hst
        rw [if_pos rfl] at hst
        have HST := Aside0.mk hst
        clear hbi hst
        go_wp2
        go_quiet (fail)
        have HLL := Aside0.mk (listTo_len bs i)
        generalize hq_ : World.drewN wr _ = wq; have hd_ : Drawn0 wr wq := ⟨_, hq_.symm⟩; clear hq_; replace HO := Aside0.mk (HO.out.drawn hd_); replace HV := Aside0.mk (Kd.R_below HV.out hd_.below); clear hd_
        go_wp2_with ((with_reducible refine gate_builtin (b := .append) (xs := #[.tmp 15, .tmp 17]) rfl ?_); at_builtin; refine Kd.R_append (Kd.int .i64) (w0 := w) w.heap.size rfl (.tmp 15) (.tmp 17) 37 3 (.int .i64 0) 8 rfl Try.underlying37 info3 rfl (by decide) (by omega) u3 (listTo bs i) (i : Int) [.int .i64 (i : Int)] (fun _ => True) (fun _ => False) rfl rfl ?aP (fun _ hk => hk.elim) ?aF ?aO ?aB ?aS ?aL ?_; (case aP => exact rfl); (case aF => exact fun _ _ => trivial); (case aO => exact HV.out); (case aB => exact HO.out.below); (case aS => exact HO.out.size); (case aL => have := HLL.out; omega); intro v1 w_ ho_ hb_ hg_ hat_; replace HO := Aside0.mk (HO.out.row HV.out (Nat.le_refl _) hg_ (by simp)); replace HV := Aside0.mk ho_; clear ho_ hb_ hg_ hat_)
        go_roundw
        case rel => exact ⟨i + 1, by go_num, by omega, ⟨by rw [HST.out]; exact HV.out⟩, HO⟩
        case measure => simp [intOf]; omega
      | false =>
        rw [hbi] at hc hst
        rw [if_neg (by simp)] at hst
        have HST := Aside0.mk hst
        clear hbi hst
        go_wp2
        go_quiet (fail)
        generalize hq_ : World.drewN wr _ = wq; have hd_ : Drawn0 wr wq := ⟨_, hq_.symm⟩; clear hq_; replace HO := Aside0.mk (HO.out.drawn hd_); replace HV := Aside0.mk (Kd.R_below HV.out hd_.below); clear hd_
        go_wp2
        go_roundw
        case rel => exact ⟨i + 1, by go_num, by omega, ⟨by rw [HST.out]; exact HV.out⟩, HO⟩
        case measure => simp [intOf]; omega
    · have hE : i = 8 := by omega
      subst hE
      go_wp2
      go_ret
      exact ⟨_, rfl, HV.out, HO.out.below⟩
end Go.Proofs.Ytkfpbblaomgihaa.P

namespace Go.Proofs.Ytkfpbblaomgihaa.P
open Go.RowKit Go.Proofs.YtkfpbblaomgihaaW.PrintWords Go.Proofs.YtkfpbblaomgihaaW.PrintLast Go.Proofs.YtkfpbblaomgihaaW.PrintMore
attribute [local go_sem] max2_int min2_int max_two min_two max_three min_three max_four min_four
def listsF (M : List (List Bool)) : List (List Int) := M.map (fun r => listTo r 8)
set_option maxHeartbeats 8000000 in
set_option maxRecDepth 100000 in
theorem impl_lists.calls (gm : Nat) (M : List (List Bool)) (w : World) (hm : w.heap[gm]? = some (.cells (H.bcells M.flatten) 78 (0, 0))) (hM : H.Mat 8 M) (h1 : 1 ≤ M.length) (h12 : M.length ≤ 12) :
    Calls Try.prog 65 #[.slice (some ⟨gm, 0, none⟩) M.length M.length] w fun e w' => ∃ v0_ : Value, e = .returned v0_ ∧ Kd.S (Kd.slice 3 (Kd.int .i64)) 37 w' w.heap.size (fun _ => True) v0_ (listsF M) ∧ Below w.heap.size w w' := by
  have HM := Aside0.mk hm
  have HMat := Aside0.mk hM
  clear hm hM
  have HO := Aside0.mk (H.Own.nil w)
  go_enter Try.func65, Try.ntmps65
  go_wp2_with ((with_reducible refine gate_dst (N := 7) rfl ?_); refine Kd.S_make (Kd.slice 3 (Kd.int .i64)) (w0 := w) w.heap.size 37 rfl (N := 7) rfl 22 _ _ rfl (M.length : Int) rfl rfl Try.underlying22 (.slice none 0 0) 24 info37 rfl (by decide) (by omega) [] (ok := fun _ => True) (okp := fun _ => True) ⟨_, rfl, Kd.R_nil _ _ _ _ _⟩ (fun _ hk => hk) trivial (by omega) (by simp only [Int.toNat_natCast]; omega) HO.out.below HO.out.size ?_; intro vs w_ ho_ hb_ hg_ hnew_; replace HO := Aside0.mk (HO.out.grown hg_ (fun k hk => by cases hk)); have HS := Aside0.mk ho_; clear ho_ hb_ hg_ hnew_)
  rw [Int.toNat_natCast] at HS
  obtain ⟨gs, cs, rfl, _, _, _⟩ := Kd.S_form HS.out (by simp; omega)
  rw [List.length_replicate] at HS ⊢
  go_loopw [10] (fun v10 wr => ∃ i : Nat, v10 = .int .i64 i ∧ i ≤ M.length ∧ Aside0 (Kd.S (Kd.slice 3 (Kd.int .i64)) 37 wr w.heap.size (fun _ => True) (.slice (some ⟨gs, 0, none⟩) M.length cs) (H.fillP (fun r => listTo r 8) [] M i)) ∧ Aside0 (H.Own w wr [])) (fun v10 _ => M.length - (intOf v10).toNat)
  case atStart => exact ⟨0, rfl, Nat.zero_le _, ⟨by rw [H.fillP_zero]; exact HS.out⟩, HO⟩
  case round =>
    clear HO HS
    obtain ⟨i, rfl, hi, HS, HO⟩ := hrel
    by_cases hlt : i < M.length
    · have HI := Aside0.mk hlt
      have HST := Aside0.mk (H.fillP_step (f := fun r => listTo r 8) (d := []) [] hlt)
      go_wp2_with (first | (go_at_call 79; refine (impl_list.calls gm (i * 8) (M.getD i []) _ (H.blk_mrange (blk_below HM.out HO.out.below) HMat.out HI.out) (HMat.out.row HI.out)).mono ?_; rintro e w' ⟨v0, rfl, hv, hb⟩; have HV := Aside0.mk hv; replace HS := Aside0.mk (Kd.S_mono (ok' := fun k => some k ≠ v0.ownBlock) (Kd.S_elder' HS.out (Kd.R_base hv) hb) (fun _ hk => hk.2)); replace HV := Aside0.mk (Kd.R_lower hv HO.out.size); replace HO := Aside0.mk (HO.out.step hb); clear hv hb) | ((with_reducible refine gate_store (t := 37) (p := 19) rfl ?_); refine H.own_rowput HO.out HS.out HV.out (Nat.le_refl _) rfl rfl rfl rfl rfl (by kernel_rfl) HI.out (by simp) ?_; intro w_ ho_ hs_ hg_; replace HO := Aside0.mk ho_; replace HS := Aside0.mk hs_; clear HV ho_ hs_ hg_))
      go_roundw
      case rel => exact ⟨i + 1, by go_num, by omega, ⟨by rw [← HST.out]; exact HS.out⟩, HO⟩
      case measure => simp [intOf]; omega
    · have hE : i = M.length := by omega
      subst hE
      go_wp2
      go_ret
      exact ⟨_, rfl, by rw [H.fillP_end] at HS; exact HS.out, HO.out.below⟩
end Go.Proofs.Ytkfpbblaomgihaa.P

namespace Go.Proofs.Ytkfpbblaomgihaa.Q
open Go.RowKit Go.Proofs.Ytkfpbblaomgihaa.P Go.Proofs.Ytkfpbblaomgihaa.H Go.Proofs.YtkfpbblaomgihaaW.PrintWords
theorem srt_sub_len : ∀ {b a : List Int}, Srt a → Srt b → (∀ y ∈ a, y ∈ b) → a.length ≤ b.length ∧ (a.length = b.length → a = b)
  | [], a, _, _, h => by
    have : a = [] := List.eq_nil_iff_forall_not_mem.2 (fun y hy => by have := h y hy; simp at this)
    subst this
    simp
  | y :: b, [], _, _, _ => by simp
  | y :: b, x :: a, ha, hb, h => by
    have ha' := List.pairwise_cons.1 ha
    have hb' := List.pairwise_cons.1 hb
    by_cases e : x = y
    · subst e
      have ih := srt_sub_len (b := b) (a := a) ha'.2 hb'.2 (fun z hz => by
        rcases List.mem_cons.1 (h z (by simp [hz])) with e | e
        · have := ha'.1 z hz; omega
        · exact e)
      refine ⟨by simp only [List.length_cons]; omega, fun hl => ?_⟩
      rw [ih.2 (by simp only [List.length_cons] at hl; omega)]
    · have hx : x ∈ b := by
        rcases List.mem_cons.1 (h x (by simp)) with e2 | e2
        · exact absurd e2 e
        · exact e2
      have hxy := hb'.1 x hx
      have ih := srt_sub_len (b := b) (a := x :: a) ha hb'.2 (fun z hz => by
        rcases List.mem_cons.1 (h z hz) with e2 | e2
        · rcases List.mem_cons.1 hz with e3 | e3
          · omega
          · have := ha'.1 z e3; omega
        · exact e2)
      have := ih.1
      exact ⟨by simp only [List.length_cons] at *; omega, fun hl => by simp only [List.length_cons] at *; omega⟩
theorem listTo_mem (bs : List Bool) (n : Nat) (y : Int) : y ∈ listTo bs n ↔ ∃ j, j < n ∧ y = (j : Int) ∧ bs.getD j false = true := by
  unfold listTo
  simp only [List.mem_map, List.mem_filter, List.mem_range]
  constructor
  · rintro ⟨j, ⟨h1, h2⟩, rfl⟩
    exact ⟨j, h1, rfl, h2⟩
  · rintro ⟨j, h1, rfl, h2⟩
    exact ⟨j, ⟨h1, h2⟩, rfl⟩
theorem listTo_srt (bs : List Bool) : ∀ n, Srt (listTo bs n)
  | 0 => by simp [listTo, Srt]
  | n + 1 => by
    rw [listTo_step]
    split
    · unfold Srt
      rw [List.pairwise_append]
      refine ⟨listTo_srt bs n, by simp, fun x hx y hy => ?_⟩
      obtain ⟨j, h1, rfl, _⟩ := (listTo_mem bs n x).1 hx
      rw [List.mem_singleton.1 hy]
      omega
    · exact listTo_srt bs n
theorem listTo_setOf {l : List Int} (h : Srt l) (h7 : In7 l) : listTo (setOf l) 8 = l := by
  refine srt_ext (listTo_srt _ _) h (fun y => ?_)
  rw [listTo_mem]
  constructor
  · rintro ⟨j, hj, rfl, hb⟩
    rw [setOf_bit h7 hj] at hb
    exact of_decide_eq_true hb
  · intro hy
    have := h7 y hy
    refine ⟨y.toNat, by omega, by omega, ?_⟩
    rw [setOf_bit h7 (by omega), show ((y.toNat : Nat) : Int) = y by omega]
    exact decide_eq_true hy
def NextM (g : List (List Int)) (b : List S56) (L : List (List Int)) (t : Nat) (y : Int) : Prop := y ∈ (b.getD t z56).f0 ∨ (OutM g L t y ∧ y ∉ (b.getD t z56).f1)
def SubL (L L' : List (List Int)) : Prop := ∀ t, ∀ y ∈ L.getD t [], y ∈ L'.getD t []
theorem SubL.next {g : List (List Int)} {b : List S56} {L L' : List (List Int)} (h : SubL L L') {t : Nat} {y : Int} (hy : NextM g b L t y) : NextM g b L' t y := by
  rcases hy with hy | ⟨⟨k, hk, hy⟩, hn⟩
  · exact .inl hy
  · exact .inr ⟨⟨k, hk, h _ _ hy⟩, hn⟩
def PreFixed (g : List (List Int)) (b : List S56) (X : List (List Int)) : Prop := ∀ t, t < b.length → ∀ y, NextM g b X t y → y ∈ X.getD t []
structure Liv (g : List (List Int)) (b : List S56) (L : List (List Int)) : Prop where
  len : L.length = b.length
  srt : ∀ r ∈ L, Srt r
  in7 : ∀ r ∈ L, In7 r
  inc : ∀ t, t < b.length → ∀ y ∈ L.getD t [], NextM g b L t y
  least : ∀ X, PreFixed g b X → SubL L X
theorem getD_mem' {L : List (List Int)} {t : Nat} (h : t < L.length) : L.getD t [] ∈ L := by
  rw [List.getD_eq_getElem?_getD, List.getElem?_eq_getElem h]
  exact List.getElem_mem h
theorem getD_set_self {α : Type} {L : List α} {t : Nat} (d o : α) (h : t < L.length) : (L.set t o).getD t d = o := by
  rw [List.getD_eq_getElem?_getD, List.getElem?_set_self h]
  rfl
theorem getD_set_ne {α : Type} {L : List α} {t i : Nat} (d o : α) (h : t ≠ i) : (L.set t o).getD i d = L.getD i d := by
  rw [List.getD_eq_getElem?_getD, List.getElem?_set_ne h, List.getD_eq_getElem?_getD]
theorem total_set : ∀ (L : List (List Int)) (t : Nat) (o : List Int), t < L.length → total (L.set t o) + (L.getD t []).length = total L + o.length
  | [], t, o, h => by simp at h
  | x :: L, 0, o, _ => by simp only [List.set_cons_zero, total, List.getD_cons_zero]; omega
  | x :: L, t + 1, o, h => by
    have ih := total_set L t o (by simpa using h)
    simp only [List.set_cons_succ, total, List.getD_cons_succ]
    omega
theorem total_le8 : ∀ (L : List (List Int)), (∀ r ∈ L, r.length ≤ 8) → total L ≤ L.length * 8
  | [], _ => by simp [total]
  | x :: L, h => by
    have := total_le8 L (fun r hr => h r (by simp [hr]))
    have := h x (by simp)
    rw [total, List.length_cons, Nat.succ_mul]
    omega
section
variable {g : List (List Int)} {b : List S56} (hG : goodF g b = true)
theorem good_facts (hG : goodF g b = true) : Small g ∧ SmallI b := by
  have hl := goodF_len hG
  have hrow : ∀ l : List Int, ∀ hi : Int, hi ≤ 12 → upB l 0 hi 0 = true → l.length ≤ 1048576 := by
    intro l hi h12 h
    have h1 := upB_srt h
    have h2 := upB_mem h
    rcases srt_len l 0 h1 h2 with e | e
    · omega
    · rw [e]; simp
  have h := hG
  unfold goodF goodG at h
  simp only [Bool.and_eq_true, decide_eq_true_eq, List.all_eq_true] at h
  refine ⟨⟨by omega, fun l hl' => hrow l _ (by omega) (h.1.1.2 l hl')⟩, by omega, fun x hx => ?_⟩
  have := h.2 x hx
  unfold okBlock at this
  simp only [Bool.and_eq_true] at this
  exact ⟨hrow _ 7 (by decide) this.1, hrow _ 7 (by decide) this.2⟩
theorem Liv.small {L : List (List Int)} (hG : goodF g b = true) (h : Liv g b L) : Small L := ⟨by have := goodF_len hG; have := h.len; omega, fun l hl => by have := srt_len7 (h.srt l hl) (h.in7 l hl); omega⟩
theorem step_ev {L : List (List Int)} (hG : goodF g b = true) (h : Liv g b L) {t : Nat} (ht : t < b.length) :
    ∃ o, Ev (fun k => spec_l12In.f k g b L (t : Int)) o ∧ Srt o ∧ In7 o ∧ (∀ y, y ∈ o ↔ NextM g b L t y) ∧ nextF g b (L.map setOf) t = setOf o ∧ (∀ y ∈ L.getD t [], y ∈ o) := by
  have hl := goodF_len hG
  have hf := good_facts hG
  have hb := goodF_blk hG ht
  have hk : ∀ k ∈ g.getD t [], 0 ≤ k ∧ k < (L.length : Int) := by rw [h.len]; exact goodF_next hG ht
  obtain ⟨o, h1, h2, h3, h4⟩ := spec_in_ev g L b t hf.1 (h.small hG) hf.2 (by omega) ht hk h.in7 (upB_srt hb.1) (upB_mem hb.1)
  refine ⟨o, h1, h2, h3, h4, ?_, fun y hy => (h4 y).2 (h.inc t ht y hy)⟩
  exact (fixed_one g L (b.getD t z56) t hk h.in7 (upB_mem hb.1) (upB_mem hb.2) o o h2 h3 h2 h3 h4).2 rfl
theorem Liv.put {L : List (List Int)} (h : Liv g b L) {t : Nat} (ht : t < b.length) {o : List Int} (h1 : Srt o) (h2 : In7 o) (h3 : ∀ y, y ∈ o ↔ NextM g b L t y) (h4 : ∀ y ∈ L.getD t [], y ∈ o) : Liv g b (L.set t o) ∧ SubL L (L.set t o) := by
  have htl : t < L.length := by rw [h.len]; exact ht
  have hs : SubL L (L.set t o) := by
    intro i y hy
    by_cases e : t = i
    · subst e
      rw [getD_set_self [] o htl]
      exact h4 y hy
    · rw [getD_set_ne [] o e]
      exact hy
  refine ⟨⟨by rw [List.length_set]; exact h.len, fun r hr => ?_, fun r hr => ?_, fun i hi y hy => ?_, fun X hX i y hy => ?_⟩, hs⟩
  · rcases List.mem_or_eq_of_mem_set hr with hr | rfl
    · exact h.srt r hr
    · exact h1
  · rcases List.mem_or_eq_of_mem_set hr with hr | rfl
    · exact h.in7 r hr
    · exact h2
  · by_cases e : t = i
    · subst e
      rw [getD_set_self [] o htl] at hy
      exact hs.next ((h3 y).1 hy)
    · rw [getD_set_ne [] o e] at hy
      exact hs.next (h.inc i hi y hy)
  · by_cases e : t = i
    · subst e
      rw [getD_set_self [] o htl] at hy
      exact hX t ht y ((h.least X hX).next ((h3 y).1 hy))
    · rw [getD_set_ne [] o e] at hy
      exact h.least X hX i y hy
theorem pass_sim (hG : goodF g b = true) : ∀ (d t : Nat) (L : List (List Int)) (ag : Bool), t + d = b.length → Liv g b L →
    ∃ L' ag', passF g b d (L.map setOf) t ag = (L'.map setOf, ag') ∧ Liv g b L' ∧ total L ≤ total L' ∧ (ag = true → ag' = true) ∧ (ag' = false → L' = L ∧ ∀ i, t ≤ i → i < b.length → ∀ y, NextM g b L i y → y ∈ L.getD i []) ∧ (ag' = true → ag = true ∨ total L < total L') ∧
      ∀ r, Ev (fun k => if ag' = true then spec_l12Live.l0 k L' g b else some L') r → Ev (fun k => spec_l12Live.l1 k L ag (b.length : Int) (t : Int) g b) r := by
  have hgl := goodF_len hG
  intro d
  induction d with
  | zero =>
    intro t L ag ht h
    have ht' : t = b.length := by omega
    subst ht'
    refine ⟨L, ag, rfl, h, Nat.le_refl _, fun e => e, fun e => ⟨rfl, fun i h1 h2 => by omega⟩, fun e => .inl e, fun r hr => ?_⟩
    refine Ev.step (fun k => ?_) hr
    simp only [spec_l12Live.l1]
    rw [if_neg (by omega)]
  | succ d ih =>
    intro t L ag ht h
    have htl : t < b.length := by omega
    have htL : t < L.length := by rw [h.len]; exact htl
    obtain ⟨o, h1, h2, h3, h4, h5, h6⟩ := step_ev hG h htl
    have hrow : (L.map setOf).getD t [] = setOf (L.getD t []) := by
      rw [List.getD_eq_getElem?_getD, List.getElem?_map, List.getElem?_eq_getElem htL, List.getD_eq_getElem?_getD, List.getElem?_eq_getElem htL]
      rfl
    have hLt := getD_mem' htL
    have hsame : nextF g b (L.map setOf) t = (L.map setOf).getD t [] ↔ o = L.getD t [] := by
      rw [h5, hrow]
      constructor
      · intro e
        rw [← listTo_setOf h2 h3, ← listTo_setOf (h.srt _ hLt) (h.in7 _ hLt), e]
      · intro e
        rw [e]
    have hev := same_ev o (L.getD t []) (by have := srt_len7 h2 h3; omega)
    by_cases e : o = L.getD t []
    · have hset : L.set t o = L := by
        rw [e]
        refine List.ext_getElem (by simp) (fun j q1 q2 => ?_)
        rw [List.getElem_set]
        split
        · next q =>
          subst q
          rw [List.getD_eq_getElem?_getD, List.getElem?_eq_getElem q2]
          rfl
        · rfl
      obtain ⟨L', ag', p1, p2, p3, p4, p5, p6, p7⟩ := ih (t + 1) L ag (by omega) h
      refine ⟨L', ag', by rw [passF, if_pos (hsame.2 e)]; exact p1, p2, p3, p4, fun q => ⟨(p5 q).1, fun i i1 i2 y hy => ?_⟩, p6, fun r hr => ?_⟩
      · by_cases ei : i = t
        · subst ei
          rw [← e]
          exact (h4 y).2 hy
        · exact (p5 q).2 i (by omega) i2 y hy
      · have hp := p7 r hr
        refine Ev.step (fun k => ?_) (h1.bind (f := fun k v => if ag = true then spec_l12Live.l1 k (L.set t v) true (b.length : Int) ((t : Int) + 1) g b else (spec_l12Same.f k v (L.getD t [])).bind fun q => spec_l12Live.l1 k (L.set t v) (!q) (b.length : Int) ((t : Int) + 1) g b) ?_)
        · simp only [spec_l12Live.l1]
          rw [if_pos (by omega)]
          simp only [show (0 : Int) ≤ (t : Int) by omega, show (t : Int) < (L.length : Int) by omega, w64 (show -9223372036854775808 ≤ (t : Int) + 1 by omega) (by omega), if_true, Int.toNat_natCast]
          rfl
        · cases ag with
          | true =>
            refine Ev.congr (fun k => by rw [if_pos rfl, hset]) ?_
            exact hp
          | false =>
            refine Ev.congr (fun k => by rw [if_neg (by simp), hset]) ?_
            refine hev.bind ?_
            rw [decide_eq_true e]
            exact hp
    · obtain ⟨q1, q2⟩ := h.put htl h2 h3 h4 h6
      have hlen := srt_sub_len (h.srt _ hLt) h2 h6
      have hlt : (L.getD t []).length < o.length := by
        rcases Nat.lt_or_ge (L.getD t []).length o.length with q | q
        · exact q
        · exact absurd (hlen.2 (by omega)).symm e
      have htot := total_set L t o htL
      have hmap : (L.map setOf).set t (nextF g b (L.map setOf) t) = (L.set t o).map setOf := by rw [h5, List.map_set]
      obtain ⟨L', ag', p1, p2, p3, p4, p5, p6, p7⟩ := ih (t + 1) (L.set t o) true (by omega) q1
      have hag := p4 rfl
      refine ⟨L', ag', by rw [passF, if_neg (fun q => e (hsame.1 q)), hmap]; exact p1, p2, by omega, fun _ => hag, (fun q => by rw [hag] at q; cases q), fun _ => .inr (by omega), fun r hr => ?_⟩
      have hp := p7 r hr
      refine Ev.step (fun k => ?_) (h1.bind (f := fun k v => if ag = true then spec_l12Live.l1 k (L.set t v) true (b.length : Int) ((t : Int) + 1) g b else (spec_l12Same.f k v (L.getD t [])).bind fun q => spec_l12Live.l1 k (L.set t v) (!q) (b.length : Int) ((t : Int) + 1) g b) ?_)
      · simp only [spec_l12Live.l1]
        rw [if_pos (by omega)]
        simp only [show (0 : Int) ≤ (t : Int) by omega, show (t : Int) < (L.length : Int) by omega, w64 (show -9223372036854775808 ≤ (t : Int) + 1 by omega) (by omega), if_true, Int.toNat_natCast]
        rfl
      · cases ag with
        | true => exact Ev.congr (fun k => by rw [if_pos rfl]; rfl) hp
        | false =>
          refine Ev.congr (fun k => by rw [if_neg (by simp)]) (hev.bind ?_)
          rw [decide_eq_false e]
          exact hp
theorem live_ends (hG : goodF g b = true) : ∀ (m : Nat) (L : List (List Int)), Liv g b L → b.length * 8 + 1 ≤ total L + m →
    ∃ L', liveL g b m (L.map setOf) = some (L'.map setOf) ∧ Ev (fun k => spec_l12Live.l0 k L g b) L' ∧ Liv g b L' ∧ PreFixed g b L' := by
  intro m
  induction m with
  | zero =>
    intro L h hm
    have := total_le8 L (fun r hr => srt_len7 (h.srt r hr) (h.in7 r hr))
    rw [h.len] at this
    omega
  | succ m ih =>
    intro L h hm
    obtain ⟨L', ag', p1, p2, p3, p4, p5, p6, p7⟩ := pass_sim hG b.length 0 L false (by omega) h
    cases ag' with
    | true =>
      obtain ⟨L2, q1, q2, q3, q4⟩ := ih L' p2 (by rcases p6 rfl with e | e; cases e; omega)
      refine ⟨L2, by rw [liveL, p1, if_pos rfl]; exact q1, ?_, q3, q4⟩
      refine Ev.step (fun k => by simp only [spec_l12Live.l0]; rfl) (p7 L2 ?_)
      exact Ev.congr (fun k => by rw [if_pos rfl]) q2
    | false =>
      obtain ⟨rfl, hfix⟩ := p5 rfl
      refine ⟨L', by rw [liveL, p1, if_neg (by simp)], ?_, h, fun t ht y hy => hfix t (Nat.zero_le _) ht y hy⟩
      refine Ev.step (fun k => by simp only [spec_l12Live.l0]; rfl) (p7 L' ?_)
      exact Ev.congr (fun k => by rw [if_neg (by simp)]) (Ev.now _)
theorem liv_nil (g : List (List Int)) (b : List S56) : Liv g b (List.replicate b.length []) := by
  have he : ∀ t, (List.replicate b.length ([] : List Int)).getD t [] = [] := by
    intro t
    rw [List.getD_eq_getElem?_getD, List.getElem?_replicate]
    split <;> rfl
  refine ⟨by simp, fun r hr => by rw [List.eq_of_mem_replicate hr]; exact List.Pairwise.nil, fun r hr y hy => by rw [List.eq_of_mem_replicate hr] at hy; simp at hy, fun t ht y hy => by rw [he] at hy; simp at hy, fun X hX t y hy => by rw [he] at hy; simp at hy⟩
theorem live_all (hG : goodF g b = true) : ∃ L, liveL g b 98 (List.replicate b.length (List.replicate 8 false)) = some (L.map setOf) ∧ Ev (fun k => spec_l12Live.f k g b) L ∧ Liv g b L ∧ PreFixed g b L := by
  have hl := goodF_len hG
  obtain ⟨L, h1, h2, h3, h4⟩ := live_ends hG 98 _ (liv_nil g b) (by omega)
  refine ⟨L, ?_, ?_, h3, h4⟩
  · rw [List.map_replicate] at h1
    exact h1
  · unfold spec_l12Live.f
    refine Ev.congr (fun k => by rw [if_pos (by omega), if_pos (by omega), Int.toNat_natCast]) h2
end
theorem listsF_setOf {L : List (List Int)} (h : ∀ r ∈ L, Srt r) (h7 : ∀ r ∈ L, In7 r) : listsF (L.map setOf) = L := by
  unfold listsF
  rw [List.map_map]
  have : ∀ r ∈ L, ((fun r => listTo r 8) ∘ setOf) r = id r := fun r hr => listTo_setOf (h r hr) (h7 r hr)
  rw [List.map_congr_left this, List.map_id]
theorem small_nil : Small [] := ⟨by simp, by simp⟩
end Go.Proofs.Ytkfpbblaomgihaa.Q

namespace Go.Proofs.Ytkfpbblaomgihaa.H
open Go.RowKit Go.Proofs.YtkfpbblaomgihaaW.PrintWords Go.Proofs.YtkfpbblaomgihaaW.PrintMore
theorem S_holeG {ti te base : Nat} {W : World} {ok : Nat → Prop} {g n cap : Nat} {xs : List (List Int)} (h : Kd.S (Kd.slice ti (Kd.int .i64)) te W base ok (.slice (some ⟨g, 0, none⟩) n cap) xs) {i : Nat} (hi : i < n) :
    ∃ oki u, W.cell? ⟨g, i, none⟩ = some u ∧ (Kd.int .i64).R ti W base oki u (xs.getD i []) ∧ (∀ k, oki k → ok k) ∧ Kd.H (Kd.slice ti (Kd.int .i64)) te W base ok (.slice (some ⟨g, 0, none⟩) n cap) xs (i : Int) oki [u] := by
  obtain ⟨oki, c1, hcl, hM, hcc, hfr, hoki, hH⟩ := Kd.S_elem h [] (i : Int) (by omega) (by omega)
  obtain ⟨u, rfl, hR⟩ := hM
  rw [Int.toNat_natCast] at hR hcc
  have hu := hcc 0 u rfl
  rw [show i * (Kd.slice ti (Kd.int .i64)).sz + 0 = i from Nat.mul_one i] at hu
  exact ⟨oki, u, hu, hR, fun k hk => (hoki k hk).1, hH⟩
theorem hole_keptG {ti te base g n cap : Nat} {W W' : World} {ok S : Nat → Prop} {xs : List (List Int)} {i : Int} {oki : Nat → Prop} {u : Value} (hH : Kd.H (Kd.slice ti (Kd.int .i64)) te W base ok (.slice (some ⟨g, 0, none⟩) n cap) xs i oki [u]) (hk : Kept W W' S) (hs : ∀ k, S k → oki k) :
    Kd.H (Kd.slice ti (Kd.int .i64)) te W' base ok (.slice (some ⟨g, 0, none⟩) n cap) xs i (fun k => oki k ∨ ok k ∧ W.heap.size ≤ k) [u] := Kd.H_kept (Kd.H_widen hH) hk (fun k _ hn hs' => hn (.inl (hs k hs')))
theorem R_keptB {e base : Nat} {W W' : World} {ok : Nat → Prop} {u v : Value} {ys : List Int} (hv : (Kd.int .i64).R e W base ok v ys) (hk : Kept W W' (fun k => some k = u.ownBlock)) (hne : ∀ k, v.ownBlock = some k → some k ≠ u.ownBlock) : (Kd.int .i64).R e W' base ok v ys :=
  Kd.R_mono (Kd.R_step (Kd.R_tight rfl hv) (fun k hkv hlt => hk.2 k hlt (hne k hkv.symm))) (fun k hkv => hv.1 k hkv.symm)
theorem Own.keptU {e base : Nat} {w W W' : World} {L : List (Nat × Array Value × TypeId)} {ok : Nat → Prop} {u : Value} {ys : List Int} (h : Own w W L) (hv : (Kd.int .i64).R e W base ok u ys) (hk : Kept W W' (fun k => some k = u.ownBlock)) (hb : Below w.heap.size w W') (hne : ∀ x ∈ L, x.2.2 ≠ e) : Own w W' L :=
  ⟨hb, h.base, fun x hx => (hk.2 _ (h.lt x hx) (Kd.R_ne hv (h.blk x hx) (fun e' => hne x hx e'.symm))).trans (h.blk x hx), h.ne⟩
section
variable {P : Program} {ops : Array Oper} {rest : List Oper} {o : Oper} {a : Act} {Q : Exit → Act → World → Prop}
variable {w W : World} {L : List (Nat × Array Value × TypeId)}
theorem own_eputG {ti te g n cap : Nat} (hO : Own w W L) {ok : Nat → Prop} {xs : List (List Int)} {i : Nat} {oki ok2 : Nat → Prop} {u v : Value} {l : List Int} {base2 : Nat}
    (hH : Kd.H (Kd.slice ti (Kd.int .i64)) te W w.heap.size ok (.slice (some ⟨g, 0, none⟩) n cap) xs (i : Int) oki [u]) (hv : (Kd.int .i64).R ti W base2 ok2 v l) (hb2 : w.heap.size ≤ base2) (hin : ∀ k, v.ownBlock = some k → oki k)
    (hgd : o.guard = none) (hN : o.dst = none) {t : TypeId} {p x : Operand} (ho : o.op = .store t p x) (haddr : a.eval p = .pointer (some ⟨g, i, none⟩)) (hx : a.eval x = v) (ht : (P.info? t).map (·.size) = some 1) (hi : i < n) (hg0 : w.heap.size ≤ g) (hgt : ∃ cells, W.heap[g]? = some (.cells cells te (0, 0))) (hne : ∀ y ∈ L, y.2.2 ≠ te)
    (h : ∀ w1, Own w w1 L → Kd.S (Kd.slice ti (Kd.int .i64)) te w1 w.heap.size ok (.slice (some ⟨g, 0, none⟩) n cap) (xs.set i l) → W.grownBy w1 (some g) → wpList P ops Q rest a w1) : wpList P ops Q (o :: rest) a W := by
  obtain ⟨A_, c_, e_⟩ := Kd.R_slice hv
  have hvo : v.cells.toList = [v] := by rw [e_]; rfl
  have hone : ∀ q ∈ [v], q.oneCell' = true := by rw [e_]; simp [Value.oneCell']
  refine Kd.H_store (Kd.slice ti (Kd.int .i64)) (w0 := w) w.heap.size hN hgd t p x ho te (i : Int) 0 xs l v [v] [u] ok oki (fun k => some k = v.ownBlock) haddr (by rw [Int.toNat_natCast]; show i = i * 1 + 0; omega) hx hvo (by rw [ht]; rfl) hone hH (by omega) (by omega) (by show 0 + 1 ≤ 1; omega) (Kd.M_row (Kd.R_tight rfl (Kd.R_lower hv hb2))) (fun k hk => hin k hk.symm) hO.below ?_
  intro w1 hs hb hg
  rw [Int.toNat_natCast] at hs
  refine h w1 (hO.grown hg (fun k hk => ?_)) hs hg
  injection hk with hk
  subst hk
  refine ⟨hg0, fun y hy e => ?_⟩
  obtain ⟨cells, hc⟩ := hgt
  have := hO.blk y hy
  rw [e, hc] at this
  injection this with this
  injection this with _ this
  exact hne y hy this.symm
end
end Go.Proofs.Ytkfpbblaomgihaa.H

namespace Go.Proofs.Ytkfpbblaomgihaa.Q
open Go.RowKit Go.Proofs.Ytkfpbblaomgihaa.P Go.Proofs.Ytkfpbblaomgihaa.H Go.Proofs.YtkfpbblaomgihaaW.PrintWords
structure Rel (n : Nat) (mem : Nat → Int → Prop) (xs : List (List Int)) : Prop where
  len : xs.length = n
  srt : ∀ b, b < n → Srt (xs.getD b [])
  mem : ∀ b, b < n → ∀ y, y ∈ xs.getD b [] ↔ mem b y
theorem Rel.congr {n : Nat} {m m' : Nat → Int → Prop} {xs : List (List Int)} (h : Rel n m xs) (e : ∀ b, b < n → ∀ y, m b y ↔ m' b y) : Rel n m' xs := ⟨h.len, h.srt, fun b hb y => (h.mem b hb y).trans (e b hb y)⟩
theorem Rel.nil (n : Nat) {m : Nat → Int → Prop} (e : ∀ b, b < n → ∀ y, ¬ m b y) : Rel n m (List.replicate n []) := by
  have he : ∀ b, (List.replicate n ([] : List Int)).getD b [] = [] := by
    intro b
    rw [List.getD_eq_getElem?_getD, List.getElem?_replicate]
    split <;> rfl
  exact ⟨by simp, fun b _ => by rw [he]; exact List.Pairwise.nil, fun b hb y => by rw [he]; simp [e b hb y]⟩
theorem getD_setL {xs : List (List Int)} {k b : Nat} {v : List Int} (hk : k < xs.length) : (xs.set k v).getD b [] = if b = k then v else xs.getD b [] := by
  by_cases e : b = k
  · subst e
    rw [if_pos rfl, List.getD_eq_getElem?_getD, List.getElem?_set_self hk]
    rfl
  · rw [if_neg e, List.getD_eq_getElem?_getD, List.getElem?_set_ne (fun h => e h.symm), List.getD_eq_getElem?_getD]
theorem Rel.put {n : Nat} {m : Nat → Int → Prop} {xs : List (List Int)} (h : Rel n m xs) {k : Nat} (hk : k < n) (x : Int) : Rel n (fun b y => m b y ∨ (b = k ∧ y = x)) (xs.set k (putL (xs.getD k []) x)) := by
  have hkl : k < xs.length := by rw [h.len]; exact hk
  refine ⟨by rw [List.length_set]; exact h.len, fun b hb => ?_, fun b hb y => ?_⟩
  · rw [getD_setL hkl]
    split
    · exact putL_srt _ _ (h.srt k hk)
    · exact h.srt b hb
  · rw [getD_setL hkl]
    by_cases e : b = k
    · subst e
      rw [if_pos rfl, putL_mem, h.mem b hb]
      simp
    · rw [if_neg e, h.mem b hb]
      simp [e]
theorem Rel.uniq {n : Nat} {m : Nat → Int → Prop} {xs ys : List (List Int)} (h : Rel n m xs) (h' : Rel n m ys) : xs = ys := by
  refine List.ext_getElem (by rw [h.len, h'.len]) (fun b h1 h2 => ?_)
  have hb : b < n := by rw [← h.len]; exact h1
  have e1 : xs.getD b [] = xs[b] := by rw [List.getD_eq_getElem?_getD, List.getElem?_eq_getElem h1]; rfl
  have e2 : ys.getD b [] = ys[b] := by rw [List.getD_eq_getElem?_getD, List.getElem?_eq_getElem h2]; rfl
  rw [← e1, ← e2]
  exact srt_ext (h.srt b hb) (h'.srt b hb) (fun y => (h.mem b hb y).trans (h'.mem b hb y).symm)
theorem Rel.len8 {n : Nat} {m : Nat → Int → Prop} {xs : List (List Int)} (h : Rel n m xs) (hm : ∀ b, b < n → ∀ y, m b y → 0 ≤ y ∧ y ≤ 7) {b : Nat} (hb : b < n) : (xs.getD b []).length ≤ 8 := srt_len7 (h.srt b hb) (fun y hy => hm b hb y ((h.mem b hb y).1 hy))
def PT (L : List (List Int)) (t : Nat) (a y : Int) : Prop := a ≠ y ∧ ∃ s, s < t ∧ a ∈ L.getD s [] ∧ y ∈ L.getD s []
theorem PT_zero (L : List (List Int)) (a y : Int) : ¬ PT L 0 a y := fun ⟨_, s, h, _⟩ => by omega
theorem PT_succ (L : List (List Int)) (t : Nat) (a y : Int) : PT L (t + 1) a y ↔ PT L t a y ∨ (a ≠ y ∧ a ∈ L.getD t [] ∧ y ∈ L.getD t []) := by
  constructor
  · rintro ⟨hn, s, hs, h1, h2⟩
    by_cases e : s = t
    · subst e
      exact .inr ⟨hn, h1, h2⟩
    · exact .inl ⟨hn, s, by omega, h1, h2⟩
  · rintro (⟨hn, s, hs, h1, h2⟩ | ⟨hn, h1, h2⟩)
    · exact ⟨hn, s, by omega, h1, h2⟩
    · exact ⟨hn, t, by omega, h1, h2⟩
theorem getD_in7 {L : List (List Int)} (h7 : ∀ r ∈ L, In7 r) (s : Nat) : In7 (L.getD s []) := by
  by_cases h : s < L.length
  · exact h7 _ (getD_mem' h)
  · rw [List.getD_eq_getElem?_getD, List.getElem?_eq_none (by omega)]
    intro y hy
    simp at hy
theorem PT_in7 {L : List (List Int)} (h7 : ∀ r ∈ L, In7 r) {t : Nat} {a y : Int} (h : PT L t a y) : 0 ≤ y ∧ y ≤ 7 := by
  obtain ⟨_, s, _, _, h2⟩ := h
  exact getD_in7 h7 s y h2
def clB (L : List (List Int)) (a y : Int) : Bool := decide (a ≠ y) && L.any (fun l => decide (a ∈ l) && decide (y ∈ l))
theorem PT_end (L : List (List Int)) (a y : Int) : PT L L.length a y ↔ clB L a y = true := by
  unfold clB PT
  simp only [Bool.and_eq_true, decide_eq_true_eq, List.any_eq_true]
  constructor
  · rintro ⟨hn, s, hs, h1, h2⟩
    exact ⟨hn, _, getD_mem' hs, h1, h2⟩
  · rintro ⟨hn, l, hl, h1, h2⟩
    obtain ⟨s, hs, e⟩ := List.getElem_of_mem hl
    have e2 : L.getD s [] = l := by rw [List.getD_eq_getElem?_getD, List.getElem?_eq_getElem hs, e]; rfl
    exact ⟨hn, s, hs, by rw [e2]; exact h1, by rw [e2]; exact h2⟩
def clashM (L : List (List Int)) : List (List Bool) := (List.range 8).map (fun a : Nat => (List.range 8).map (fun y : Nat => clB L (a : Int) (y : Int)))
def clashL (L : List (List Int)) : List (List Int) := listsF (clashM L)
structure MRel (P : Nat → Nat → Prop) (M : List (List Bool)) : Prop where
  len : M.length = 8
  mat : Mat 8 M
  at_ : ∀ a, a < 8 → ∀ b, b < 8 → ((M.getD a []).getD b false = true ↔ P a b)
theorem MRel.congr {P P' : Nat → Nat → Prop} {M : List (List Bool)} (h : MRel P M) (e : ∀ a, a < 8 → ∀ b, b < 8 → (P a b ↔ P' a b)) : MRel P' M := ⟨h.len, h.mat, fun a ha b hb => (h.at_ a ha b hb).trans (e a ha b hb)⟩
theorem MRel.zero {P : Nat → Nat → Prop} (e : ∀ a, a < 8 → ∀ b, b < 8 → ¬ P a b) : MRel P (List.replicate 8 (List.replicate 8 false)) := by
  refine ⟨by simp, Mat.rep 8 8, fun a ha b hb => ?_⟩
  have h1 : (List.replicate 8 (List.replicate 8 false)).getD a [] = List.replicate 8 false := by
    rw [List.getD_eq_getElem?_getD, List.getElem?_replicate, if_pos ha]
    rfl
  have h2 : (List.replicate 8 false).getD b false = false := by
    rw [List.getD_eq_getElem?_getD, List.getElem?_replicate, if_pos hb]
    rfl
  rw [h1, h2]
  simp [e a ha b hb]
theorem MRel.put {P : Nat → Nat → Prop} {M : List (List Bool)} (h : MRel P M) {k m : Nat} (hk : k < 8) (hm : m < 8) (v : Bool) : MRel (fun a b => if a = k ∧ b = m then v = true else P a b) (M.set k ((M.getD k []).set m v)) := by
  have hkl : k < M.length := by rw [h.len]; exact hk
  have hrl := h.mat.row hkl
  refine ⟨by rw [List.length_set]; exact h.len, h.mat.put hkl m v, fun a ha b hb => ?_⟩
  by_cases e : a = k
  · subst e
    have h1 : (M.set a ((M.getD a []).set m v)).getD a [] = (M.getD a []).set m v := getD_set_self _ _ hkl
    rw [h1, set_bit v (by rw [hrl]; exact hb)]
    by_cases e2 : m = b
    · subst e2
      rw [if_pos rfl, if_pos ⟨rfl, rfl⟩]
    · rw [if_neg e2, if_neg (fun h => e2 h.2.symm)]
      exact h.at_ a ha b hb
  · rw [if_neg (fun h => e h.1), getD_set_ne _ _ (fun h => e h.symm)]
    exact h.at_ a ha b hb
theorem clashM_rel (L : List (List Int)) : MRel (fun a b => PT L L.length (a : Int) (b : Int)) (clashM L) := by
  have h1 : ∀ a, a < 8 → (clashM L).getD a [] = (List.range 8).map (fun y : Nat => clB L (a : Int) (y : Int)) := by
    intro a ha
    unfold clashM
    rw [List.getD_eq_getElem?_getD, List.getElem?_map, List.getElem?_range ha]
    rfl
  refine ⟨by simp [clashM], fun r hr => by obtain ⟨a, _, rfl⟩ := List.mem_map.1 hr; simp, fun a ha b hb => ?_⟩
  rw [h1 a ha, PT_end, List.getD_eq_getElem?_getD, List.getElem?_map, List.getElem?_range hb]
  simp
theorem row_ext {r r' : List Bool} (l1 : r.length = 8) (l2 : r'.length = 8) (h : ∀ b, b < 8 → (r.getD b false = true ↔ r'.getD b false = true)) : r = r' :=
  List.ext_getElem (by omega) (fun b g1 g2 => by
    have k := h b (by omega)
    rw [List.getD_eq_getElem?_getD, List.getD_eq_getElem?_getD, List.getElem?_eq_getElem g1, List.getElem?_eq_getElem g2] at k
    exact Bool.eq_iff_iff.2 k)
theorem MRel.uniq {P : Nat → Nat → Prop} {M M' : List (List Bool)} (h : MRel P M) (h' : MRel P M') : M = M' := by
  refine List.ext_getElem (by rw [h.len, h'.len]) (fun a h1 h2 => ?_)
  have ha : a < 8 := by rw [← h.len]; exact h1
  have e1 : M.getD a [] = M[a] := by rw [List.getD_eq_getElem?_getD, List.getElem?_eq_getElem h1]; rfl
  have e2 : M'.getD a [] = M'[a] := by rw [List.getD_eq_getElem?_getD, List.getElem?_eq_getElem h2]; rfl
  have l1 := h.mat.row h1
  have l2 := h'.mat.row h2
  rw [← e1, ← e2]
  exact row_ext l1 l2 (fun b hb => (h.at_ a ha b hb).trans (h'.at_ a ha b hb).symm)
theorem clashL_rel {L : List (List Int)} (h7 : ∀ r ∈ L, In7 r) : Rel 8 (fun b y => PT L L.length (b : Int) y) (clashL L) := by
  have hM := clashM_rel L
  have he : ∀ b, b < 8 → (clashL L).getD b [] = listTo ((clashM L).getD b []) 8 := by
    intro b hb
    have hbl : b < (clashM L).length := by rw [hM.len]; exact hb
    unfold clashL listsF
    rw [List.getD_eq_getElem?_getD, List.getElem?_map, List.getD_eq_getElem?_getD, List.getElem?_eq_getElem hbl]
    rfl
  refine ⟨by unfold clashL listsF; rw [List.length_map]; exact hM.len, fun b hb => by rw [he b hb]; exact listTo_srt _ _, fun b hb y => ?_⟩
  rw [he b hb, listTo_mem]
  constructor
  · rintro ⟨j, h1, rfl, h2⟩
    exact (hM.at_ b hb j h1).1 h2
  · intro h
    have hh := h
    obtain ⟨_, s, hs, _, h2⟩ := hh
    have hy := h7 _ (getD_mem' hs) y h2
    refine ⟨y.toNat, by omega, by omega, (hM.at_ b hb _ (by omega)).2 ?_⟩
    rw [show ((y.toNat : Nat) : Int) = y by omega]
    exact h
def clashesF (g : List (List Int)) (b : List S56) : Option (List (List Int) × Bool) :=
  if goodF g b then (liveL g b 98 (List.replicate b.length (List.replicate 8 false))).map (fun R => (clashL (listsF R), true)) else some ([], false)
end Go.Proofs.Ytkfpbblaomgihaa.Q

namespace Go.Proofs.Ytkfpbblaomgihaa.P
open Go.RowKit Go.Proofs.YtkfpbblaomgihaaW.PrintWords Go.Proofs.YtkfpbblaomgihaaW.PrintLast Go.Proofs.YtkfpbblaomgihaaW.PrintMore
attribute [local go_sem] max2_int min2_int max_two min_two max_three min_three max_four min_four
def blkLen (xs : List S56) (q : Nat) : Nat := if q % 2 = 0 then (xs.getD (q / 2) z56).f0.length else (xs.getD (q / 2) z56).f1.length
theorem blkRooms {W : World} {lo up base : Nat} {ok : Nat → Prop} {v : Value} {xs : List S56} (h : Kd.S k56 56 W base ok v xs) (hlo : lo ≤ base) (hhi : ∀ k, ok k → k < W.heap.size → k < up) : H.Rooms 3 56 2 W lo up v xs.length (blkLen xs) := by
  obtain ⟨A, c, e⟩ := Kd.S_slice h
  refine ⟨A, c, e, fun hm => ?_⟩
  obtain ⟨g, cap, rfl, hg, hlt, cs, hc⟩ := Kd.S_form h hm
  injection e with e1 e2 e3
  subst e1
  refine ⟨g, cs, rfl, hc, fun q hq => ?_⟩
  obtain ⟨oki, c1, hcl, hM, hcc, hfr, hoki, hH⟩ := Kd.S_elem h z56 ((q / 2 : Nat) : Int) (by omega) (by omega)
  obtain ⟨u0, u1, rfl, hR0, hR1⟩ := k56_openM hM
  rw [Int.toNat_natCast] at hR0 hR1 hcc
  have hz : (k56).sz = 2 := rfl
  rw [hz] at hcc
  unfold blkLen
  by_cases hp : q % 2 = 0
  · rw [if_pos hp]
    have hu := hcc 0 u0 rfl
    rw [show q / 2 * 2 + 0 = q by omega, blk_cell hc] at hu
    exact ⟨u0, hu, H.Room.of_R hR0 hlo (fun k hk hlt => hhi k (hoki k hk).1 hlt)⟩
  · rw [if_neg hp]
    have hu := hcc 1 u1 rfl
    rw [show q / 2 * 2 + 1 = q by omega, blk_cell hc] at hu
    exact ⟨u1, hu, H.Room.of_R hR1 hlo (fun k hk hlt => hhi k (hoki k hk).1 hlt)⟩
set_option maxHeartbeats 8000000 in
set_option maxRecDepth 100000 in
theorem laws_markBlockS.tame (lo up : Nat) (v : Value) (m : Nat) (f : Nat → Nat) (a : Int) (w : World) (h : H.Rooms 3 56 2 w lo up v m f) (ha : 0 ≤ a) (hn : a + H.sumN f (m * 2) ≤ 4611686018427387904) (hm : m ≤ 4611686018427387904) :
    Calls Try.prog 68 #[v, .int .i64 a] w fun e w' => e = .returned (.int .i64 (a + H.sumN f (m * 2))) ∧ H.Tame 3 lo up w w' := by
  obtain ⟨A, c, rfl, hA⟩ := h
  by_cases h0 : 0 < m
  · obtain ⟨g, cs, rfl, hb, hc⟩ := hA h0
    have HB := Aside0.mk hb
    have HC := Aside0.mk hc
    clear hA hb hc
    go_enter Try.func68, Try.ntmps68
    go_wp2
    go_loopw [5, 1] (fun v5 v1 wr => ∃ i : Nat, v5 = .int .i64 i ∧ v1 = .int .i64 (a + H.sumN f (i * 2)) ∧ i ≤ m ∧ Aside0 (H.Tame 3 lo up w wr)) (fun v5 _ _ => m - (intOf v5).toNat)
    case atStart => exact ⟨0, rfl, by simp [H.sumN], Nat.zero_le _, ⟨H.Tame.refl _ _ _ _⟩⟩
    case round =>
      obtain ⟨i, rfl, rfl, hi, HT⟩ := hrel
      by_cases hlt : i < m
      · obtain ⟨u, h1, h2⟩ := HC.out (i * 2) (by omega)
        obtain ⟨u', h1', h2'⟩ := HC.out (i * 2 + 1) (by omega)
        have hu : wr.cell? ⟨g, i * 2, none⟩ = some u := (blk_cell ((HT.out.kept _ _ _ HB.out (by decide)).trans HB.out) _).trans h1
        have H2 := Aside0.mk (h2.tame HT.out)
        have HU' := Aside0.mk (fun (W : World) (ht : H.Tame 3 lo up w W) => (show W.cell? ⟨g, i * 2 + 1, none⟩ = some u' from (blk_cell ((ht.kept _ _ _ HB.out (by decide)).trans HB.out) _).trans h1'))
        have H2' := Aside0.mk (fun (W : World) (ht : H.Tame 3 lo up w W) => h2'.tame ht)
        have hs1 : H.sumN f ((i + 1) * 2) = H.sumN f (i * 2) + f (i * 2) + f (i * 2 + 1) := by rw [show (i + 1) * 2 = i * 2 + 1 + 1 by omega]; rfl
        have hs2 := H.sumN_le f (show (i + 1) * 2 ≤ m * 2 by omega)
        have HS1 := Aside0.mk hs1
        have hb1 : 0 ≤ a + (H.sumN f (i * 2) : Int) := by omega
        have HB2 : Aside0 (a + (H.sumN f (i * 2) : Int) + f (i * 2) ≤ 4611686018427387904) := ⟨by omega⟩
        have hb3 : 0 ≤ a + (H.sumN f (i * 2) : Int) + f (i * 2) := by omega
        have HB4 : Aside0 (a + (H.sumN f (i * 2) : Int) + f (i * 2) + f (i * 2 + 1) ≤ 4611686018427387904) := ⟨by omega⟩
        have hlt' : (i : Int) < (m : Int) := by omega
        clear h1 h2 hs1 hs2 h1' h2'
        go_wp2_with (first | (go_at_call 69; ((with_reducible refine (laws_markIntS.tame lo up u (f (i * 2)) _ wr H2.out hb1 HB2.out).mono ?_); rintro e w' ⟨rfl, ht⟩; replace HT := Aside0.mk (HT.out.trans ht); have hu' := HU'.out _ HT.out; clear ht hu)) | (go_at_call 69; ((with_reducible refine (laws_markIntS.tame lo up u' (f (i * 2 + 1)) _ _ (H2'.out _ HT.out) hb3 HB4.out).mono ?_); rintro e w' ⟨rfl, ht⟩; replace HT := Aside0.mk (HT.out.trans ht); clear ht hu')))
        go_roundw
        case rel => exact ⟨i + 1, by go_num, by rw [HS1.out]; congr 1; push_cast; omega, by omega, HT⟩
        case measure => simp [intOf]; omega
      · have hE : i = m := by omega
        subst hE
        go_wp2
        go_ret
        exact ⟨rfl, HT.out⟩
  · obtain rfl : m = 0 := by omega
    go_enter Try.func68, Try.ntmps68
    go_wp2
    go_loopw [5, 1] (fun v5 v1 wr => v5 = .int .i64 0 ∧ v1 = .int .i64 a ∧ Aside0 (H.Tame 3 lo up w wr)) (fun v5 _ _ => 0)
    case atStart => exact ⟨rfl, rfl, ⟨H.Tame.refl _ _ _ _⟩⟩
    case round =>
      obtain ⟨rfl, rfl, HT⟩ := hrel
      go_wp2
      go_ret
      exact ⟨by simp [H.sumN], HT.out⟩
end Go.Proofs.Ytkfpbblaomgihaa.P

namespace Go.Proofs.Ytkfpbblaomgihaa.Q
open Go.RowKit Go.Proofs.Ytkfpbblaomgihaa.P Go.Proofs.Ytkfpbblaomgihaa.H Go.Proofs.YtkfpbblaomgihaaW.PrintWords
theorem blkLen_le {b : List S56} (h : SmallI b) (q : Nat) : blkLen b q ≤ 1048576 := by
  unfold blkLen
  have key : (b.getD (q / 2) z56).f0.length ≤ 1048576 ∧ (b.getD (q / 2) z56).f1.length ≤ 1048576 := by
    by_cases hq : q / 2 < b.length
    · exact h.at hq
    · rw [List.getD_eq_getElem?_getD, List.getElem?_eq_none (by omega)]
      exact ⟨by decide, by decide⟩
  split
  · exact key.1
  · exact key.2
end Go.Proofs.Ytkfpbblaomgihaa.Q

namespace Go.Proofs.Ytkfpbblaomgihaa.P
open Go.RowKit Go.Proofs.YtkfpbblaomgihaaW.PrintWords Go.Proofs.YtkfpbblaomgihaaW.PrintLast Go.Proofs.YtkfpbblaomgihaaW.PrintMore
attribute [local go_sem] max2_int min2_int max_two min_two max_three min_three max_four min_four
set_option maxHeartbeats 8000000 in
set_option maxRecDepth 100000 in
theorem laws_markGraph.tame (lo up : Nat) (v : Value) (m : Nat) (f : Nat → Nat) (a : Int) (w : World) (h : H.Rooms 3 37 1 w lo up v m f) (ha : 0 ≤ a) (hn : a + H.sumN f m ≤ 4611686018427387904) (hm : m ≤ 4611686018427387904) :
    Calls Try.prog 67 #[.agg #[v], .int .i64 a] w fun e w' => e = .returned (.int .i64 (a + H.sumN f m)) ∧ H.Tame 3 lo up w w' := by
  have HR := Aside0.mk h
  have HO := Aside0.mk (H.Own.nil w)
  obtain ⟨A, c, rfl, _⟩ := h
  go_enter Try.func67, Try.ntmps67
  go_wp2_with (first | ((with_reducible refine gate_dst (N := 2) rfl ?_); refine H.own_box HO.out ?hg (N := 2) ?hd (cs := #[.slice A m c]) (t := 30) ?hr ?_; (case hd => rfl); (case hg => rfl); (case hr => first | (go_simp; done) | (go_simp; rfl)); intro gb w1 ho_ hb_; replace HO := Aside0.mk ho_; have hx := ho_.cell 0 rfl 0; have HT := Aside0.mk (H.Tame.of_below (ti := 3) (lo := lo) (hi := up) hb_); clear ho_ hb_) | (go_at_call 29; refine (laws_markIntSS.tame lo up _ m f a _ (HR.out.tame HT.out (by decide)) ha hn hm).mono ?_; rintro e w' ⟨rfl, ht⟩; replace HT := Aside0.mk (HT.out.trans ht); clear ht hx))
  go_ret
  exact ⟨rfl, HT.out⟩
end Go.Proofs.Ytkfpbblaomgihaa.P

namespace Go.Proofs.Ytkfpbblaomgihaa.P
open Go.RowKit Go.Proofs.YtkfpbblaomgihaaW.PrintWords Go.Proofs.YtkfpbblaomgihaaW.PrintLast Go.Proofs.YtkfpbblaomgihaaW.PrintMore
attribute [local go_sem] max2_int min2_int max_two min_two max_three min_three max_four min_four
set_option maxHeartbeats 8000000 in
set_option maxRecDepth 100000 in
theorem laws_markFlow.tame (lo up : Nat) (v v' : Value) (m m' : Nat) (f f' : Nat → Nat) (a : Int) (w : World) (h : H.Rooms 3 37 1 w lo up v m f) (h' : H.Rooms 3 56 2 w lo up v' m' f') (ha : 0 ≤ a) (hn : a + H.sumN f m + H.sumN f' (m' * 2) ≤ 4611686018427387904) (hm : m ≤ 4611686018427387904) (hm' : m' ≤ 4611686018427387904) :
    Calls Try.prog 28 #[.agg #[v, v'], .int .i64 a] w fun e w' => e = .returned (.int .i64 (a + H.sumN f m + H.sumN f' (m' * 2))) ∧ H.Tame 3 lo up w w' := by
  have HR := Aside0.mk h
  have HR' := Aside0.mk h'
  have HO := Aside0.mk (H.Own.nil w)
  have hn1 : a + (H.sumN f m : Int) ≤ 4611686018427387904 := by omega
  have hb1 : 0 ≤ a + (H.sumN f m : Int) := by omega
  obtain ⟨A, c, rfl, _⟩ := h
  obtain ⟨A', c', rfl, _⟩ := h'
  go_enter Try.func28, Try.ntmps28
  go_wp2_with (first | ((with_reducible refine gate_dst (N := 2) rfl ?_); refine H.own_box HO.out ?hg (N := 2) ?hd (cs := #[.slice A m c, .slice A' m' c']) (t := 33) ?hr ?_; (case hd => rfl); (case hg => rfl); (case hr => first | (go_simp; done) | (go_simp; rfl)); intro gb w1 ho_ hb_; replace HO := Aside0.mk ho_; have hx := ho_.cell 0 rfl 0; have HT := Aside0.mk (H.Tame.of_below (ti := 3) (lo := lo) (hi := up) hb_); have HX := Aside0.mk (fun (W : World) (ht : H.Tame 3 lo up w1 W) => blk_cell ((ht.kept _ _ _ (HO.out.get 0 rfl) (by decide)).trans (HO.out.get 0 rfl)) 1); clear ho_ hb_) | (go_at_call 67; refine (laws_markGraph.tame lo up _ m f a _ (HR.out.tame HT.out (by decide)) ha hn1 hm).mono ?_; rintro e w' ⟨rfl, ht⟩; have hx1 := HX.out _ ht; replace HT := Aside0.mk (HT.out.trans ht); clear ht hx) | (go_at_call 68; refine (laws_markBlockS.tame lo up _ m' f' _ _ (HR'.out.tame HT.out (by decide)) hb1 hn hm').mono ?_; rintro e w' ⟨rfl, ht⟩; replace HT := Aside0.mk (HT.out.trans ht); clear ht hx1))
  go_ret
  exact ⟨rfl, HT.out⟩
end Go.Proofs.Ytkfpbblaomgihaa.P

namespace Go.Proofs.Ytkfpbblaomgihaa.P
open Go.RowKit Go.Proofs.YtkfpbblaomgihaaW.PrintWords Go.Proofs.YtkfpbblaomgihaaW.PrintLast Go.Proofs.YtkfpbblaomgihaaW.PrintMore
attribute [local go_sem] max2_int min2_int max_two min_two max_three min_three max_four min_four
def spec_ClashesOf.f (k : Nat) (l0_0 : List (List Int)) (l0_1 : List (S56)) : Option (List (List Int) × Bool) := (spec_GoodFlow.f k l0_0 l0_1).bind fun t => if t = true then (if goodF l0_0 l0_1 then (liveL l0_0 l0_1 98 (List.replicate l0_1.length (List.replicate 8 false))).map (fun R => (Q.clashL (listsF R), true)) else none) else some ([], false)
theorem put_any (l : List Int) (hl : l.length ≤ 1048576) (x : Int) (u : Value) (ok : Nat → Prop) (w0 W : World) (hB : Below w0.heap.size w0 W) (h : Kd.R (Kd.int .i64) 3 W w0.heap.size ok u l) :
    Calls Try.prog 78 #[u, .int .i64 x] W fun e w' => ∃ v0_ : Value, e = .returned (v0_) ∧ Kd.R (Kd.int .i64) 3 w' w0.heap.size (fun k_ => (some k_ = u.ownBlock) ∨ W.heap.size ≤ k_) v0_ (Q.putL l x) ∧ Below w0.heap.size w0 w' ∧ Kept W w' (fun k_ => some k_ = u.ownBlock) := by
  obtain ⟨k, hk⟩ := Ev.rounds (Q.put_ev l x hl)
  exact spec_l1Put.calls k (fun k_ => some k_ = u.ownBlock) u l x _ w0 W hB (Kd.R_tight rfl h) hk
set_option maxHeartbeats 8000000 in
set_option maxRecDepth 100000 in
theorem spec_ClashesOf.calls (k : Nat) (A0_0 : Option Addr) (c0_0 : Nat) (l0_0 : List (List Int)) (A0_1 : Option Addr) (c0_1 : Nat) (l0_1 : List (S56)) (r1 : List (List Int)) (r2 : Bool) (w : World) (hr0_0 : Kd.C (Kd.slice 3 (Kd.int .i64)) w A0_0 l0_0.length l0_0) (hc0_0 : l0_0.length ≤ c0_0) (hr0_1 : Kd.C k56 w A0_1 l0_1.length l0_1) (hc0_1 : l0_1.length ≤ c0_1) (h : spec_ClashesOf.f k l0_0 l0_1 = some (r1, r2)) :
    Calls Try.prog 39 #[.agg #[.slice A0_0 l0_0.length c0_0, .slice A0_1 l0_1.length c0_1]] w fun e w' => ∃ v0_ : Value, e = .returned (.tuple #[v0_, .bool r2]) ∧ Kd.S (Kd.slice 3 (Kd.int .i64)) 37 w' w.heap.size (fun _ => True) v0_ r1 ∧ Below w.heap.size w w' := by
  have HR0 := Aside0.mk hr0_0
  have HC0 := Aside0.mk hc0_0
  have HR1 := Aside0.mk hr0_1
  have HC1 := Aside0.mk hc0_1
  clear hr0_0 hc0_0 hr0_1 hc0_1
  have HO := Aside0.mk (H.Own.nil w)
  have hi33 : (Try.prog.info? 33).map (·.size) = some 2 := by kernel_rfl
  have HI := Aside0.mk hi33
  clear hi33
  unfold spec_ClashesOf.f at h
  obtain ⟨tg, hg0, h⟩ := Option.bind_eq_some_iff.1 h
  have HK := Aside0.mk (fun (W : World) (hb : Below w.heap.size w W) => spec_GoodFlow.calls k A0_0 c0_0 l0_0 A0_1 c0_1 l0_1 _ W (Kd.C_below HR0.out hb) HC0.out (Kd.C_below HR1.out hb) HC1.out hg0)
  clear hg0
  cases tg with
  | false =>
    rw [if_neg (by simp)] at h
    simp only [Option.some.injEq, Prod.mk.injEq] at h
    obtain ⟨rfl, rfl⟩ := h
    go_enter Try.func39, Try.ntmps39
    go_wp2_with (first | ((with_reducible refine gate_dst (N := 1) rfl ?_); refine H.own_box HO.out ?hg (N := 1) ?hd (cs := #[Value.slice A0_0 l0_0.length c0_0, Value.slice A0_1 l0_1.length c0_1]) (t := 33) ?hr ?_; (case hd => rfl); (case hg => rfl); (case hr => first | (go_simp; done) | (go_simp; rfl)); intro gp w_ ho_ hb_; replace HO := Aside0.mk ho_; clear ho_ hb_) | ((with_reducible refine gate_dst (N := 11) rfl ?_); refine wpList_load_row rfl 33 (.tmp 1) rfl _ rfl 33 _ (0, 0) _ (HO.out.get 0 rfl) Try.underlying33 rfl HI.out ?_) | (go_at_call 13; refine (HK.out _ HO.out.below).mono ?_; rintro e w' ⟨rfl, hb⟩; replace HO := Aside0.mk (HO.out.step hb); clear hb))
    go_ret2
    exact ⟨_, rfl, Kd.S_nil _ _ _ _ _, HO.out.below⟩
  | true =>
    rw [if_pos rfl] at h
    cases hg : goodF l0_0 l0_1 with
    | false => rw [hg] at h; exact absurd h (by simp)
    | true =>
    rw [hg, if_pos rfl] at h
    obtain ⟨R0, hR, he⟩ := Option.map_eq_some_iff.1 h
    simp only [Prod.mk.injEq] at he
    obtain ⟨rfl, rfl⟩ := he
    obtain ⟨L, hL1, hL2, hL3, _⟩ := Q.live_all hg
    have hRL : listsF R0 = L := by
      rw [hL1] at hR
      obtain rfl := Option.some.inj hR
      exact Q.listsF_setOf hL3.srt hL3.in7
    rw [hRL]
    obtain ⟨kl, hkl⟩ := Ev.rounds hL2
    have HLV := Aside0.mk (fun (W : World) (hb : Below w.heap.size w W) => spec_l12Live.calls kl A0_0 c0_0 l0_0 A0_1 c0_1 l0_1 _ W (Kd.C_below HR0.out hb) HC0.out (Kd.C_below HR1.out hb) HC1.out hkl)
    have hlen := goodF_len hg
    have hl1 : 1 ≤ L.length := by rw [hL3.len]; exact hlen.2.1
    have hl2 : L.length ≤ 12 := by rw [hL3.len]; exact hlen.2.2
    have HII := Aside0.mk (show (Try.prog.info? 37).map (·.size) = some 1 by kernel_rfl)
    have H7 := Aside0.mk hL3.in7
    have HSR := Aside0.mk hL3.srt
    clear hg h hR hlen hkl hL1 hL2 hL3 hRL
    go_enter Try.func39, Try.ntmps39
    go_wp2_with (first | ((with_reducible refine gate_dst (N := 1) rfl ?_); refine H.own_box HO.out ?hg (N := 1) ?hd (cs := #[Value.slice A0_0 l0_0.length c0_0, Value.slice A0_1 l0_1.length c0_1]) (t := 33) ?hr ?_; (case hd => rfl); (case hg => rfl); (case hr => first | (go_simp; done) | (go_simp; rfl)); intro gp w_ ho_ hb_; replace HO := Aside0.mk ho_; clear ho_ hb_) | ((with_reducible refine gate_dst (N := 11) rfl ?_); refine wpList_load_row rfl 33 (.tmp 1) rfl _ rfl 33 _ (0, 0) _ (HO.out.get 0 rfl) Try.underlying33 rfl HI.out ?_) | ((with_reducible refine gate_dst (N := 15) rfl ?_); refine wpList_load_row rfl 33 (.tmp 1) rfl _ rfl 33 _ (0, 0) _ (HO.out.get 0 rfl) Try.underlying33 rfl HI.out ?_) | (go_at_call 13; refine (HK.out _ HO.out.below).mono ?_; rintro e w' ⟨rfl, hb⟩; replace HO := Aside0.mk (HO.out.step hb); clear hb) | (((with_reducible refine gate_dst (N := 14) rfl ?_); refine Kd.S_make (Kd.slice 3 (Kd.int .i64)) (w0 := w) w.heap.size 37 rfl (N := 14) rfl 22 _ _ rfl 8 rfl rfl Try.underlying22 (.slice none 0 0) 24 info37 rfl (by decide) (by omega) [] (ok := fun _ => True) (okp := fun _ => True) ⟨_, rfl, Kd.R_nil _ _ _ _ _⟩ (fun _ hk => hk) trivial (by omega) (by decide) HO.out.below HO.out.size ?_; intro vs w_ ho_ hb_ hg_ hnew_; replace HO := Aside0.mk (HO.out.grown hg_ (fun k hk => by cases hk)); have HS0 := Aside0.mk ho_; clear ho_ hb_ hg_ hnew_); obtain ⟨N0, hN0⟩ : ∃ N0, w_.heap.size = N0 := ⟨_, rfl⟩; have HN0 := Aside0.mk hN0; clear hN0; replace HS0 := Aside0.mk (Kd.S_mono (ok' := fun k => k < N0) (H.S_upto HS0.out) (fun k hk => by rw [← HN0.out]; exact hk.2)); obtain ⟨gs, cs, rfl, hgs0, hgs1, _⟩ := Kd.S_form HS0.out (by simp); have HGS0 := Aside0.mk hgs0; have HGS1 := Aside0.mk (show gs < N0 by rw [← HN0.out]; exact hgs1); clear hgs0 hgs1) | (go_at_call 64; refine (HLV.out _ HO.out.below).mono ?_; rintro e w' ⟨vl, rfl, hv, hb⟩; obtain ⟨gl, cl, rfl, _, _, _⟩ := Kd.S_form hv (by omega); obtain ⟨N2, hN2⟩ : ∃ N2, w'.heap.size = N2 := ⟨_, rfl⟩; have HLS := Aside0.mk (Kd.S_lower (Kd.S_mono (ok' := fun k => N0 ≤ k ∧ k < N2) (H.S_upto hv) (fun k hk => ⟨by have := HN0.out; have := hk.1; omega, by rw [← hN2]; exact hk.2⟩)) HO.out.size); have HNW := Aside0.mk (Nat.le_of_eq hN2.symm); have HS := Aside0.mk (Kd.S_mono (ok' := fun k => k < N0 ∨ N2 ≤ k) (Kd.S_below HS0.out hb) (fun k hk => .inl hk)); replace HO := Aside0.mk (HO.out.step hb); clear hv hb hN2))
    have e8 : (List.replicate (Int.toNat 8) ([] : List Int)) = List.replicate 8 [] := rfl
    rw [e8] at HS
    try rw [e8]
    try rw [List.length_replicate] at HS
    try rw [List.length_replicate]
    clear HS0
    go_loopw [18] (fun v18 wr => ∃ (t : Nat) (xs : List (List Int)), v18 = .int .i64 t ∧ t ≤ L.length ∧ Aside0 (Kd.S (Kd.slice 3 (Kd.int .i64)) 37 wr w.heap.size (fun k => k < N0 ∨ N2 ≤ k) (.slice (some ⟨gs, 0, none⟩) 8 cs) xs) ∧ Aside0 (Q.Rel 8 (fun b y => Q.PT L t (b : Int) y) xs) ∧ Aside0 (Kd.S (Kd.slice 3 (Kd.int .i64)) 37 wr w.heap.size (fun k => N0 ≤ k ∧ k < N2) (.slice (some ⟨gl, 0, none⟩) L.length cl) L) ∧ Aside0 (N2 ≤ wr.heap.size) ∧ Aside0 (H.Own w wr [(gp, #[Value.slice A0_0 l0_0.length c0_0, Value.slice A0_1 l0_1.length c0_1], 33)])) (fun v18 _ => L.length - (intOf v18).toNat)
    case atStart => exact ⟨0, _, rfl, Nat.zero_le _, HS, ⟨Q.Rel.nil _ (fun b _ y => Q.PT_zero _ _ _)⟩, HLS, HNW, HO⟩
    case round =>
      clear HO HS HLS HNW
      obtain ⟨t, xs, rfl, ht, HS, HREL, HLS, HNW, HO⟩ := hrel
      by_cases hlt : t < L.length
      · have htl : (t : Int) < (L.length : Int) := by omega
        obtain ⟨okr, ur, hur, hRr, hokr, _⟩ := H.S_holeG HLS.out hlt
        have hR7 := Q.getD_in7 H7.out t
        obtain ⟨row, hrow⟩ : ∃ row, L.getD t [] = row := ⟨_, rfl⟩
        rw [hrow] at hRr hR7
        have HROW := Aside0.mk hrow
        have HR7 := Aside0.mk hR7
        have HRL := Aside0.mk (show row.length ≤ 8 by rw [← hrow]; exact Q.srt_len7 (HSR.out _ (Q.getD_mem' hlt)) (H7.out _ (Q.getD_mem' hlt)))
        have hrl := HRL.out
        obtain ⟨AR, cR, rfl⟩ := Kd.R_slice hRr
        have HRW := Aside0.mk (Kd.R_mono (ok' := fun k => N0 ≤ k ∧ k < N2) hRr hokr)
        clear hRr hR7 hrow hokr
        go_wp2
        go_loopw [24] (fun v24 wr => ∃ (i : Nat) (xs : List (List Int)), v24 = .int .i64 i ∧ i ≤ row.length ∧ Aside0 (Kd.S (Kd.slice 3 (Kd.int .i64)) 37 wr w.heap.size (fun k => k < N0 ∨ N2 ≤ k) (.slice (some ⟨gs, 0, none⟩) 8 cs) xs) ∧ Aside0 (Q.Rel 8 (fun b y => Q.PT L t (b : Int) y ∨ ((b : Int) ≠ y ∧ (b : Int) ∈ row.take i ∧ y ∈ row)) xs) ∧ Aside0 (Kd.S (Kd.slice 3 (Kd.int .i64)) 37 wr w.heap.size (fun k => N0 ≤ k ∧ k < N2) (.slice (some ⟨gl, 0, none⟩) L.length cl) L) ∧ Aside0 ((Kd.int .i64).R 3 wr w.heap.size (fun k => N0 ≤ k ∧ k < N2) (.slice AR row.length cR) row) ∧ Aside0 (N2 ≤ wr.heap.size) ∧ Aside0 (H.Own w wr [(gp, #[Value.slice A0_0 l0_0.length c0_0, Value.slice A0_1 l0_1.length c0_1], 33)])) (fun v24 _ => row.length - (intOf v24).toNat)
        case atStart => exact ⟨0, xs, rfl, Nat.zero_le _, HS, ⟨HREL.out.congr (fun b _ y => by simp)⟩, HLS, HRW, HNW, HO⟩
        case round =>
          clear HO HS HLS HNW HREL HRW hur
          obtain ⟨i, xs, rfl, hi, HS, HREL, HLS, HRW, HNW, HO⟩ := hrel
          by_cases hlt2 : i < row.length
          · obtain ⟨ad1, e1, hc1⟩ := Kd.at_int (Kd.R_reads' HRW.out).2.2 (i : Int) (by omega) (by omega)
            subst e1
            rw [Int.toNat_natCast] at hc1
            have hd : rd row (i : Int) = row.getD i 0 := rfl
            rw [hd] at hc1
            have htk : row.take (i + 1) = row.take i ++ [row.getD i 0] := by rw [List.take_add_one, List.getElem?_eq_getElem hlt2, List.getD_eq_getElem?_getD, List.getElem?_eq_getElem hlt2]; rfl
            have hmem : row.getD i 0 ∈ row := by rw [List.getD_eq_getElem?_getD, List.getElem?_eq_getElem hlt2]; exact List.getElem_mem hlt2
            have ha := HR7.out _ hmem
            obtain ⟨a0, hae⟩ : ∃ k : Nat, row.getD i 0 = (k : Int) := ⟨(row.getD i 0).toNat, by omega⟩
            rw [hae] at hc1 htk hmem ha
            have HTK := Aside0.mk htk
            have HMEM := Aside0.mk hmem
            have ha8 : (a0 : Int) < 8 := by omega
            have HA8 := Aside0.mk (show a0 < 8 by omega)
            have hil : (i : Int) < (row.length : Int) := by omega
            clear hd htk hae hmem ha
            go_wp2
            go_loopw [30] (fun v30 wr => ∃ (j : Nat) (xs : List (List Int)), v30 = .int .i64 j ∧ j ≤ row.length ∧ Aside0 (Kd.S (Kd.slice 3 (Kd.int .i64)) 37 wr w.heap.size (fun k => k < N0 ∨ N2 ≤ k) (.slice (some ⟨gs, 0, none⟩) 8 cs) xs) ∧ Aside0 (Q.Rel 8 (fun b y => (Q.PT L t (b : Int) y ∨ ((b : Int) ≠ y ∧ (b : Int) ∈ row.take i ∧ y ∈ row)) ∨ ((b : Int) ≠ y ∧ b = a0 ∧ y ∈ row.take j)) xs) ∧ Aside0 (Kd.S (Kd.slice 3 (Kd.int .i64)) 37 wr w.heap.size (fun k => N0 ≤ k ∧ k < N2) (.slice (some ⟨gl, 0, none⟩) L.length cl) L) ∧ Aside0 ((Kd.int .i64).R 3 wr w.heap.size (fun k => N0 ≤ k ∧ k < N2) (.slice (some ad1) row.length cR) row) ∧ Aside0 (N2 ≤ wr.heap.size) ∧ Aside0 (H.Own w wr [(gp, #[Value.slice A0_0 l0_0.length c0_0, Value.slice A0_1 l0_1.length c0_1], 33)])) (fun v30 _ => row.length - (intOf v30).toNat)
            case atStart => exact ⟨0, xs, rfl, Nat.zero_le _, HS, ⟨HREL.out.congr (fun b _ y => by simp)⟩, HLS, HRW, HNW, HO⟩
            case round =>
              clear HO HS HLS HNW HREL HRW hc1
              obtain ⟨j, xs, rfl, hj, HS, HREL, HLS, HRW, HNW, HO⟩ := hrel
              by_cases hlt3 : j < row.length
              · obtain ⟨ad2, e2, hc2⟩ := Kd.at_int (Kd.R_reads' HRW.out).2.2 (j : Int) (by omega) (by omega)
                injection e2 with e2
                subst e2
                rw [Int.toNat_natCast] at hc2
                have hd : rd row (j : Int) = row.getD j 0 := rfl
                rw [hd] at hc2
                have htk : row.take (j + 1) = row.take j ++ [row.getD j 0] := by rw [List.take_add_one, List.getElem?_eq_getElem hlt3, List.getD_eq_getElem?_getD, List.getElem?_eq_getElem hlt3]; rfl
                have hmem : row.getD j 0 ∈ row := by rw [List.getD_eq_getElem?_getD, List.getElem?_eq_getElem hlt3]; exact List.getElem_mem hlt3
                have hb := HR7.out _ hmem
                obtain ⟨b0, hbe⟩ : ∃ k : Nat, row.getD j 0 = (k : Int) := ⟨(row.getD j 0).toNat, by omega⟩
                rw [hbe] at hc2 htk hmem hb
                have HTK2 := Aside0.mk htk
                have hjl : (j : Int) < (row.length : Int) := by omega
                clear hd htk hbe hmem hb
                by_cases he : a0 = b0
                · subst he
                  go_wp2
                  go_roundw
                  case rel => exact ⟨j + 1, xs, by go_num, by omega, HS, ⟨HREL.out.congr (fun b _ y => by
                    rw [HTK2.out, List.mem_append, List.mem_singleton]
                    constructor
                    · rintro (h | ⟨h1, h2, h3⟩)
                      · exact .inl h
                      · exact .inr ⟨h1, h2, .inl h3⟩
                    · rintro (h | ⟨h1, h2, h3 | h3⟩)
                      · exact .inl h
                      · exact .inr ⟨h1, h2, h3⟩
                      · exact absurd (by omega) h1)⟩, HLS, HRW, HNW, HO⟩
                  case measure => simp [intOf]; omega
                · obtain ⟨oki, u, hu, hRu, hoki, hH⟩ := H.S_holeG HS.out HA8.out
                  have hne : ¬ (a0 : Int) = (b0 : Int) := by omega
                  have hgt := Kd.S_typed HS.out gs (by simp [Value.ownBlock])
                  have HRU := Aside0.mk hRu
                  have HOK := Aside0.mk hoki
                  have HH := Aside0.mk hH
                  have HGT := Aside0.mk hgt
                  have HXL := Aside0.mk (show (xs.getD a0 []).length ≤ 1048576 by
                    have := HREL.out.len8 (fun b hb y h => by
                      rcases h with (h | h) | h
                      · exact Q.PT_in7 H7.out h
                      · exact HR7.out y h.2.2
                      · exact HR7.out y (List.mem_of_mem_take h.2.2)) HA8.out
                    omega)
                  clear hRu hoki hH hgt HS
                  go_wp2_with (first | (go_at_call 78; refine (put_any (xs.getD a0 []) HXL.out (b0 : Int) u _ w _ HO.out.below HRU.out).mono ?_; rintro e w3 ⟨v0, rfl, hv0, hb, hk⟩; obtain ⟨A0, c0, rfl⟩ := Kd.R_slice hv0; have HV0 := Aside0.mk hv0; have HPU := Aside0.mk (fun k (hk : some k = u.ownBlock) => HOK.out k (HRU.out.1 k hk.symm)); replace HH := Aside0.mk (H.hole_keptG HH.out hk (fun k hk => HRU.out.1 k hk.symm)); replace HRW := Aside0.mk (H.R_keptB HRW.out hk (fun k h1 h2 => by have a1 := HRW.out.1 k h1; have a2 := (HPU.out k h2); omega)); replace HLS := Aside0.mk (Kd.S_step HLS.out (fun k hok hlt => hk.2 k hlt (fun h2 => by have a2 := HPU.out k h2; omega))); replace HGT := Aside0.mk (HGT.out.imp (fun cells hc => (hk.2 gs (blk_lt hc) (Kd.R_ne HRU.out hc (by decide))).trans hc)); have HNW' := HNW; replace HNW := Aside0.mk (Nat.le_trans HNW.out hk.1); replace HO := Aside0.mk (HO.out.keptU HRU.out hk hb (by simp)); clear hv0 hb hk hu hc2) | ((with_reducible refine gate_store (t := 37) (p := 45) rfl ?_); refine H.own_eputG HO.out HH.out HV0.out (Nat.le_refl _) (fun q hq => by rcases HV0.out.1 q hq with h | h; exact .inl (HRU.out.1 q h.symm); exact .inr ⟨.inr (Nat.le_trans HNW'.out h), h⟩) rfl rfl rfl rfl rfl HII.out HA8.out HGS0.out HGT.out (by simp) ?_; intro w_ ho_ hs_ hg_; replace HRW := Aside0.mk (Kd.R_step HRW.out (fun k hok hlt => hg_.block k hlt (fun he => by injection he with he; have := HGS1.out; omega))); replace HLS := Aside0.mk (Kd.S_step HLS.out (fun k hok hlt => hg_.block k hlt (fun he => by injection he with he; have := HGS1.out; omega))); replace HNW := Aside0.mk (Nat.le_trans HNW.out hg_.size); have HS := Aside0.mk hs_; replace HO := Aside0.mk ho_; clear ho_ hs_ hg_))
                  go_roundw
                  case rel => exact ⟨j + 1, _, by go_num, by omega, HS, ⟨(HREL.out.put HA8.out (b0 : Int)).congr (fun b _ y => by
                    rw [HTK2.out, List.mem_append, List.mem_singleton]
                    constructor
                    · rintro ((h | ⟨h1, h2, h3⟩) | ⟨h1, h2⟩)
                      · exact .inl h
                      · exact .inr ⟨h1, h2, .inl h3⟩
                      · exact .inr ⟨by rw [h1, h2]; omega, h1, .inr h2⟩
                    · rintro (h | ⟨h1, h2, h3 | h3⟩)
                      · exact .inl (.inl h)
                      · exact .inl (.inr ⟨h1, h2, h3⟩)
                      · exact .inr ⟨h2, h3⟩)⟩, HLS, HRW, HNW, HO⟩
                  case measure => simp [intOf]; omega
              · have hE : j = row.length := by omega
                subst hE
                go_wp2
                go_roundw
                case rel => exact ⟨i + 1, xs, by go_num, by omega, HS, ⟨HREL.out.congr (fun b _ y => by
                  rw [HTK.out, List.mem_append, List.mem_singleton, List.take_length]
                  constructor
                  · rintro ((h | ⟨h1, h2, h3⟩) | ⟨h1, h2, h3⟩)
                    · exact .inl h
                    · exact .inr ⟨h1, .inl h2, h3⟩
                    · exact .inr ⟨h1, .inr (by omega), h3⟩
                  · rintro (h | ⟨h1, h2 | h2, h3⟩)
                    · exact .inl (.inl h)
                    · exact .inl (.inr ⟨h1, h2, h3⟩)
                    · exact .inr ⟨h1, by omega, h3⟩)⟩, HLS, HRW, HNW, HO⟩
                case measure => simp [intOf]; omega
          · have hE : i = row.length := by omega
            subst hE
            go_wp2
            go_roundw
            case rel => exact ⟨t + 1, xs, by go_num, by omega, HS, ⟨HREL.out.congr (fun b _ y => by
              rw [Q.PT_succ, HROW.out, List.take_length])⟩, HLS, HNW, HO⟩
            case measure => simp [intOf]; omega
      · have hE : t = L.length := by omega
        subst hE
        have hfin : xs = Q.clashL L := HREL.out.uniq (Q.clashL_rel H7.out)
        subst hfin
        go_wp2
        go_ret2
        exact ⟨_, rfl, Kd.S_mono HS.out (fun _ _ => trivial), HO.out.below⟩
end Go.Proofs.Ytkfpbblaomgihaa.P

namespace Go.Proofs.Ytkfpbblaomgihaa.P
open Go.RowKit Go.Proofs.YtkfpbblaomgihaaW.PrintWords Go.Proofs.YtkfpbblaomgihaaW.PrintLast Go.Proofs.YtkfpbblaomgihaaW.PrintMore
attribute [local go_sem] max2_int min2_int max_two min_two max_three min_three max_four min_four
def impl_ClashesOf.f (l0_0 : List (List Int)) (l0_1 : List (S56)) : Option (List (List Int) × Bool) := Q.clashesF l0_0 l0_1
set_option maxHeartbeats 8000000 in
set_option maxRecDepth 100000 in
theorem impl_ClashesOf.calls (A0_0 : Option Addr) (c0_0 : Nat) (l0_0 : List (List Int)) (A0_1 : Option Addr) (c0_1 : Nat) (l0_1 : List (S56)) (r1 : List (List Int)) (r2 : Bool) (w : World) (hr0_0 : Kd.C (Kd.slice 3 (Kd.int .i64)) w A0_0 l0_0.length l0_0) (hc0_0 : l0_0.length ≤ c0_0) (hr0_1 : Kd.C k56 w A0_1 l0_1.length l0_1) (hc0_1 : l0_1.length ≤ c0_1) (h : impl_ClashesOf.f l0_0 l0_1 = some (r1, r2)) :
    Calls Try.prog 40 #[.agg #[.slice A0_0 l0_0.length c0_0, .slice A0_1 l0_1.length c0_1]] w fun e w' => ∃ v0_ : Value, e = .returned (.tuple #[v0_, .bool r2]) ∧ Kd.S (Kd.slice 3 (Kd.int .i64)) 37 w' w.heap.size (fun _ => True) v0_ r1 ∧ Below w.heap.size w w' := by
  have HR0 := Aside0.mk hr0_0
  have HC0 := Aside0.mk hc0_0
  have HR1 := Aside0.mk hr0_1
  have HC1 := Aside0.mk hc0_1
  clear hr0_0 hc0_0 hr0_1 hc0_1
  have HO := Aside0.mk (H.Own.nil w)
  have hi33 : (Try.prog.info? 33).map (·.size) = some 2 := by kernel_rfl
  have HI := Aside0.mk hi33
  clear hi33
  replace h : Q.clashesF l0_0 l0_1 = some (r1, r2) := h
  unfold Q.clashesF at h
  have HK := Aside0.mk (fun (W : World) (hb : Below w.heap.size w W) => impl_GoodFlow.calls A0_0 c0_0 l0_0 A0_1 c0_1 l0_1 _ W (Kd.C_below HR0.out hb) HC0.out (Kd.C_below HR1.out hb) HC1.out rfl)
  cases hg : goodF l0_0 l0_1 with
  | false =>
    rw [hg, if_neg (by simp)] at h
    simp only [Option.some.injEq, Prod.mk.injEq] at h
    obtain ⟨rfl, rfl⟩ := h
    rw [hg] at HK
    clear hg
    go_enter Try.func40, Try.ntmps40
    go_wp2_with (first | ((with_reducible refine gate_dst (N := 1) rfl ?_); refine H.own_box HO.out ?hg (N := 1) ?hd (cs := #[Value.slice A0_0 l0_0.length c0_0, Value.slice A0_1 l0_1.length c0_1]) (t := 33) ?hr ?_; (case hd => rfl); (case hg => rfl); (case hr => first | (go_simp; done) | (go_simp; rfl)); intro gp w_ ho_ hb_; replace HO := Aside0.mk ho_; clear ho_ hb_) | ((with_reducible refine gate_dst (N := 11) rfl ?_); refine wpList_load_row rfl 33 (.tmp 1) rfl _ rfl 33 _ (0, 0) _ (HO.out.get 0 rfl) Try.underlying33 rfl HI.out ?_) | (go_at_call 15; refine (HK.out _ HO.out.below).mono ?_; rintro e w' ⟨rfl, hb⟩; replace HO := Aside0.mk (HO.out.step hb); clear hb))
    go_ret2
    exact ⟨_, rfl, Kd.S_nil _ _ _ _ _, HO.out.below⟩
  | true =>
    rw [hg, if_pos rfl] at h
    obtain ⟨R, hR, he⟩ := Option.map_eq_some_iff.1 h
    simp only [Prod.mk.injEq] at he
    obtain ⟨rfl, rfl⟩ := he
    rw [hg] at HK
    have HG := Aside0.mk hg
    have HLV := Aside0.mk hR
    have hlen := goodF_len hg
    have hl1 : 1 ≤ l0_1.length := hlen.2.1
    have hl2 : l0_1.length ≤ 12 := hlen.2.2
    have HII := Aside0.mk (show (Try.prog.info? 78).map (·.size) = some 8 by kernel_rfl)
    clear hg h hR hlen
    have hmk : ∀ W : World, (Instr.makeSlice 76 (.int .i64 8) (.int .i64 8)).run Try.prog W = .ok (.slice (some ⟨W.heap.size, 0, none⟩) 8 8) (W.alloc (.cells (H.bcells (List.replicate 8 (List.replicate 8 false)).flatten) 78)) := fun W => make_names W 8 (by omega)
    go_enter Try.func40, Try.ntmps40
    go_wp2_with (first | ((with_reducible refine gate_dst (N := 1) rfl ?_); refine H.own_box HO.out ?hg (N := 1) ?hd (cs := #[Value.slice A0_0 l0_0.length c0_0, Value.slice A0_1 l0_1.length c0_1]) (t := 33) ?hr ?_; (case hd => rfl); (case hg => rfl); (case hr => first | (go_simp; done) | (go_simp; rfl)); intro gp w_ ho_ hb_; replace HO := Aside0.mk ho_; clear ho_ hb_) | ((with_reducible refine gate_dst (N := 11) rfl ?_); refine wpList_load_row rfl 33 (.tmp 1) rfl _ rfl 33 _ (0, 0) _ (HO.out.get 0 rfl) Try.underlying33 rfl HI.out ?_) | (go_at_call 15; refine (HK.out _ HO.out.below).mono ?_; rintro e w' ⟨rfl, hb⟩; replace HO := Aside0.mk (HO.out.step hb); clear hb) | ((with_reducible refine gate_dst (N := 14) rfl ?_); refine H.own_make HO.out ?hg (N := 14) ?hd (n := 8) (cs := H.bcells (List.replicate 8 (List.replicate 8 false)).flatten) (t := 78) ?hr ?_; (case hd => rfl); (case hg => rfl); (case hr => first | (go_simp; done) | (go_simp; rfl)); intro gs w_ ho_ hb_; clear hmk; replace HO := Aside0.mk ho_; clear ho_ hb_) | (go_at_call 66; refine (impl_live.calls 98 ⟨gp, 0, none⟩ A0_0 c0_0 l0_0 A0_1 c0_1 l0_1 R _ (HO.out.cell 0 rfl 0) (HO.out.cell 0 rfl 1) (Kd.C_below HR0.out HO.out.below) (Kd.C_below HR1.out HO.out.below) HG.out HLV.out).mono ?_; rintro e w' ⟨gm, rfl, hRl, hRm, ho⟩; have HRL := Aside0.mk hRl; have HRM := Aside0.mk hRm; replace HO := Aside0.mk (HO.out.join ho); clear hRl hRm ho))
    have HM0 := Aside0.mk (Q.MRel.zero (P := fun a b => Q.PT (listsF R) 0 (a : Int) (b : Int)) (fun a _ b _ => Q.PT_zero _ _ _))
    have HLL := Aside0.mk (show (listsF R).length = l0_1.length by unfold listsF; rw [List.length_map]; exact HRL.out)
    have HLA := Aside0.mk (fun t (ht : t < l0_1.length) => show (listsF R).getD t [] = listTo (R.getD t []) 8 by
      have ht' : t < R.length := by rw [HRL.out]; exact ht
      unfold listsF
      rw [List.getD_eq_getElem?_getD, List.getElem?_map, List.getD_eq_getElem?_getD, List.getElem?_eq_getElem ht']
      rfl)
    go_loopw [17] (fun v17 wr => ∃ (t : Nat) (M : List (List Bool)), v17 = .int .i64 t ∧ t ≤ l0_1.length ∧ Aside0 (Q.MRel (fun a b => Q.PT (listsF R) t (a : Int) (b : Int)) M) ∧ Aside0 (H.Own w wr [(gp, #[Value.slice A0_0 l0_0.length c0_0, Value.slice A0_1 l0_1.length c0_1], 33), (gs, H.bcells M.flatten, 78), (gm, H.bcells R.flatten, 78)])) (fun v17 _ => l0_1.length - (intOf v17).toNat)
    case atStart => exact ⟨0, _, rfl, Nat.zero_le _, HM0, HO⟩
    case round =>
      clear HO
      obtain ⟨t, M, rfl, ht, HM, HO⟩ := hrel
      by_cases hlt : t < l0_1.length
      · have htl : (t : Int) < (l0_1.length : Int) := by omega
        have HIM := Aside0.mk (show t < R.length by rw [HRL.out]; exact hlt)
        have HRW := Aside0.mk (HRM.out.row HIM.out)
        have hla := HLA.out t hlt
        obtain ⟨row, hrow⟩ : ∃ row, R.getD t [] = row := ⟨_, rfl⟩
        rw [hrow] at HRW hla
        have HROW := Aside0.mk hrow
        obtain ⟨l, hl⟩ : ∃ l, listTo row 8 = l := ⟨_, rfl⟩
        have hlm := Q.listTo_mem row 8
        have hll := listTo_len row 8
        rw [hl] at hla hlm hll
        have HLAT := Aside0.mk hla
        have HLM := Aside0.mk hlm
        have HL := Aside0.mk hl
        clear hrow hla hlm hl
        go_wp2_with (first | ((with_reducible refine gate_dst (N := 20) rfl ?_); refine wpList_load_mid rfl 78 (.tmp 19) rfl gm (t * 8) rfl (row.map Value.bool) _ (by rw [← HROW.out]; exact HO.out.mrange 2 (n := 8) rfl HRM.out HIM.out) Try.underlying78 rfl (by rw [List.length_map, HRW.out]; exact HII.out) ?_) | ((with_reducible refine gate_dst (N := 6) rfl ?_); refine H.own_box HO.out ?hg (N := 6) ?hd (cs := H.bcells (List.replicate 8 false)) (t := 78) ?hr ?_; (case hd => rfl); (case hg => rfl); (case hr => first | (go_simp; done) | (go_simp; rfl)); intro gx w_ ho_ hb_; replace HO := Aside0.mk ho_; clear ho_ hb_) | ((with_reducible refine gate_store (t := 78) (p := 6) rfl ?_); refine H.own_ball HO.out 3 (bs' := row) rfl rfl rfl rfl rfl rfl HII.out HRW.out ?_; intro w_ ho_ hg_; replace HO := Aside0.mk ho_; clear ho_ hg_) | (go_at_call 79; refine (impl_list.calls gx 0 row _ (HO.out.brange 3 rfl) HRW.out).mono ?_; rw [HL.out]; rintro e w' ⟨v0, rfl, hv, hb⟩; obtain ⟨AV, cV, rfl⟩ := Kd.R_slice hv; have HV := Aside0.mk (Kd.R_lower hv HO.out.size); replace HO := Aside0.mk (HO.out.step hb); clear hv hb))
        go_loopw [23] (fun v23 wr => ∃ (i : Nat) (M : List (List Bool)), v23 = .int .i64 i ∧ i ≤ l.length ∧ Aside0 (Q.MRel (fun a b => Q.PT (listsF R) t (a : Int) (b : Int) ∨ ((a : Int) ≠ (b : Int) ∧ (a : Int) ∈ l.take i ∧ (b : Int) ∈ l)) M) ∧ Aside0 ((Kd.int .i64).R 3 wr w.heap.size (fun _ => True) (.slice AV l.length cV) l) ∧ Aside0 (H.Own w wr [(gp, #[Value.slice A0_0 l0_0.length c0_0, Value.slice A0_1 l0_1.length c0_1], 33), (gs, H.bcells M.flatten, 78), (gm, H.bcells R.flatten, 78), (gx, H.bcells row, 78)])) (fun v23 _ => l.length - (intOf v23).toNat)
        case atStart => exact ⟨0, M, rfl, Nat.zero_le _, ⟨HM.out.congr (fun a _ b _ => by simp)⟩, HV, HO⟩
        case round =>
          clear HO HM HV M
          obtain ⟨i, M, rfl, hi, HM, HV, HO⟩ := hrel
          by_cases hlt2 : i < l.length
          · obtain ⟨ad1, e1, hc1⟩ := Kd.at_int (Kd.R_reads' HV.out).2.2 (i : Int) (by omega) (by omega)
            subst e1
            rw [Int.toNat_natCast] at hc1
            have hd : rd l (i : Int) = l.getD i 0 := rfl
            rw [hd] at hc1
            have htk : l.take (i + 1) = l.take i ++ [l.getD i 0] := by rw [List.take_add_one, List.getElem?_eq_getElem hlt2, List.getD_eq_getElem?_getD, List.getElem?_eq_getElem hlt2]; rfl
            have hmem : l.getD i 0 ∈ l := by rw [List.getD_eq_getElem?_getD, List.getElem?_eq_getElem hlt2]; exact List.getElem_mem hlt2
            obtain ⟨a0, ha8, hae, _⟩ := (HLM.out _).1 hmem
            rw [hae] at hc1 htk hmem
            have HTK := Aside0.mk htk
            have HA8 := Aside0.mk ha8
            have HMEM := Aside0.mk hmem
            have ha8' : (a0 : Int) < 8 := by omega
            have hil : (i : Int) < (l.length : Int) := by omega
            clear hd htk hae hmem
            go_wp2_with (first | (go_at_call 79; refine (impl_list.calls gx 0 row _ (HO.out.brange 3 rfl) HRW.out).mono ?_; rw [HL.out]; rintro e w' ⟨v0, rfl, hv, hb⟩; obtain ⟨AU, cU, rfl⟩ := Kd.R_slice hv; have HU := Aside0.mk (Kd.R_lower hv HO.out.size); replace HV := Aside0.mk (Kd.R_below HV.out hb); replace HO := Aside0.mk (HO.out.step hb); clear hv hb hc1))
            go_loopw [29] (fun v29 wr => ∃ (j : Nat) (M : List (List Bool)), v29 = .int .i64 j ∧ j ≤ l.length ∧ Aside0 (Q.MRel (fun a b => (Q.PT (listsF R) t (a : Int) (b : Int) ∨ ((a : Int) ≠ (b : Int) ∧ (a : Int) ∈ l.take i ∧ (b : Int) ∈ l)) ∨ ((a : Int) ≠ (b : Int) ∧ a = a0 ∧ (b : Int) ∈ l.take j)) M) ∧ Aside0 ((Kd.int .i64).R 3 wr w.heap.size (fun _ => True) (.slice (some ad1) l.length cV) l) ∧ Aside0 ((Kd.int .i64).R 3 wr w.heap.size (fun _ => True) (.slice AU l.length cU) l) ∧ Aside0 (H.Own w wr [(gp, #[Value.slice A0_0 l0_0.length c0_0, Value.slice A0_1 l0_1.length c0_1], 33), (gs, H.bcells M.flatten, 78), (gm, H.bcells R.flatten, 78), (gx, H.bcells row, 78)])) (fun v29 _ => l.length - (intOf v29).toNat)
            case atStart => exact ⟨0, M, rfl, Nat.zero_le _, ⟨HM.out.congr (fun a _ b _ => by simp)⟩, HV, HU, HO⟩
            case round =>
              clear HO HM HV HU M
              obtain ⟨j, M, rfl, hj, HM, HV, HU, HO⟩ := hrel
              by_cases hlt3 : j < l.length
              · obtain ⟨ad2, e2, hc2⟩ := Kd.at_int (Kd.R_reads' HU.out).2.2 (j : Int) (by omega) (by omega)
                subst e2
                rw [Int.toNat_natCast] at hc2
                have hd : rd l (j : Int) = l.getD j 0 := rfl
                rw [hd] at hc2
                have htk : l.take (j + 1) = l.take j ++ [l.getD j 0] := by rw [List.take_add_one, List.getElem?_eq_getElem hlt3, List.getD_eq_getElem?_getD, List.getElem?_eq_getElem hlt3]; rfl
                have hmem : l.getD j 0 ∈ l := by rw [List.getD_eq_getElem?_getD, List.getElem?_eq_getElem hlt3]; exact List.getElem_mem hlt3
                obtain ⟨b0, hb8, hbe, _⟩ := (HLM.out _).1 hmem
                rw [hbe] at hc2 htk
                have HTK2 := Aside0.mk htk
                have HB8 := Aside0.mk hb8
                have hb8' : (b0 : Int) < 8 := by omega
                have hjl : (j : Int) < (l.length : Int) := by omega
                have HMM := Aside0.mk HM.out.mat
                have HML := Aside0.mk (show a0 < M.length by rw [HM.out.len]; exact HA8.out)
                clear hd htk hbe hmem
                go_wp2_with (first | ((with_reducible refine gate_store (t := 4) (p := 40) rfl ?_); refine H.own_mput HO.out 1 (n := 8) rfl HMM.out rfl rfl rfl rfl rfl (by kernel_rfl) HML.out HB8.out ?_; intro w_ ho_ hg_; replace HV := Aside0.mk (HO.out.keep 1 rfl HV.out hg_ (by decide)); replace HU := Aside0.mk (HO.out.keep 1 rfl HU.out hg_ (by decide)); clear hc2; replace HO := Aside0.mk ho_; clear ho_ hg_))
                go_roundw
                case rel => exact ⟨j + 1, _, by go_num, by omega, ⟨(HM.out.put HA8.out HB8.out _).congr (fun a _ b _ => by
                  rw [HTK2.out, List.mem_append, List.mem_singleton]
                  by_cases e : a = a0 ∧ b = b0
                  · obtain ⟨rfl, rfl⟩ := e
                    rw [if_pos ⟨rfl, rfl⟩]
                    by_cases e3 : a = b
                    · subst e3
                      simp [Q.PT]
                    · have e4 : ¬ (a : Int) = (b : Int) := by omega
                      simp [e3, e4]
                  · rw [if_neg e]
                    constructor
                    · rintro (h | ⟨h1, h2, h3⟩)
                      · exact .inl h
                      · exact .inr ⟨h1, h2, .inl h3⟩
                    · rintro (h | ⟨h1, h2, h3 | h3⟩)
                      · exact .inl h
                      · exact .inr ⟨h1, h2, h3⟩
                      · exact absurd ⟨h2, by omega⟩ e)⟩, HV, HU, HO⟩
                case measure => simp [intOf]; omega
              · have hE : j = l.length := by omega
                subst hE
                go_wp2
                go_roundw
                case rel => exact ⟨i + 1, M, by go_num, by omega, ⟨HM.out.congr (fun a _ b _ => by
                  rw [HTK.out, List.mem_append, List.mem_singleton, List.take_length]
                  constructor
                  · rintro ((h | ⟨h1, h2, h3⟩) | ⟨h1, h2, h3⟩)
                    · exact .inl h
                    · exact .inr ⟨h1, .inl h2, h3⟩
                    · exact .inr ⟨h1, .inr (by omega), h3⟩
                  · rintro (h | ⟨h1, h2 | h2, h3⟩)
                    · exact .inl (.inl h)
                    · exact .inl (.inr ⟨h1, h2, h3⟩)
                    · exact .inr ⟨h1, by omega, h3⟩)⟩, HV, HO⟩
                case measure => simp [intOf]; omega
          · have hE : i = l.length := by omega
            subst hE
            go_wp2
            go_roundw
            case rel => exact ⟨t + 1, M, by go_num, by omega, ⟨HM.out.congr (fun a _ b _ => by
              rw [Q.PT_succ, HLAT.out, List.take_length])⟩, ⟨HO.out.take (by simp)⟩⟩
            case measure => simp [intOf]; omega
      · have hE : t = l0_1.length := by omega
        subst hE
        have hM : M = Q.clashM (listsF R) := HM.out.uniq (by have := Q.clashM_rel (listsF R); rw [HLL.out] at this; exact this)
        have HMM := Aside0.mk HM.out.mat
        have HML := Aside0.mk HM.out.len
        have HMD := Aside0.mk (show listsF M = Q.clashL (listsF R) by rw [hM]; rfl)
        clear hM
        go_wp2_with (first | (go_at_call 65; refine (calls_of_args (by rw [HML.out]) (impl_lists.calls gs M _ (HO.out.get 1 rfl) HMM.out (by rw [HML.out]; decide) (by rw [HML.out]; decide))).mono ?_; rintro e w' ⟨v0, rfl, hs, hb⟩; have HS := Aside0.mk (Kd.S_lower hs HO.out.size); replace HO := Aside0.mk (HO.out.step hb); clear hs hb))
        go_ret2
        exact ⟨_, rfl, by rw [← HMD.out]; exact HS.out, HO.out.below⟩
end Go.Proofs.Ytkfpbblaomgihaa.P

namespace Go.Proofs.Ytkfpbblaomgihaa.P
open Go.RowKit Go.Proofs.YtkfpbblaomgihaaW.PrintWords Go.Proofs.YtkfpbblaomgihaaW.PrintLast Go.Proofs.YtkfpbblaomgihaaW.PrintMore
attribute [local go_sem] max2_int min2_int max_two min_two max_three min_three max_four min_four
def laws_FnExactClashesOf.good (k : Nat) (l0_0 : List (List Int)) (l0_1 : List S97) : Prop := ∃ z0 : Int, ∃ y0_0 : List (List Int), ∃ y0_1 : List S56, ∃ (s1 : List (List Int)) (s2 : Bool), laws_szFlow.f k l0_0 l0_1 1048576 = some z0 ∧ 0 ≤ z0 ∧ laws_toFlow.f k l0_0 l0_1 = some (y0_0, y0_1) ∧ spec_ClashesOf.f k y0_0 y0_1 = some (s1, s2) ∧ impl_ClashesOf.f y0_0 y0_1 = some (s1, s2) ∧ laws_eqIntSS.f k s1 s1 = some true ∧ laws_eqFlow.f k y0_0 y0_1 y0_0 y0_1 = some true ∧ 1 + (H.total s1 : Int) ≤ 4611686018427387904 ∧ laws_heldIntSS.f k (H.markSS s1 1) 1 = some (1 + (H.total s1 : Int)) ∧ y0_0.length ≤ 1048576 ∧ y0_1.length ≤ 1048576 ∧ 1 + ((H.total y0_0 : Int) + (H.sumN (blkLen y0_1) (y0_1.length * 2) : Int) : Int) ≤ 4611686018427387904
def laws_FnExactClashesOf.skip0 (k : Nat) (l0_0 : List (List Int)) (l0_1 : List S97) : Prop := ∃ z0 : Int, laws_szFlow.f k l0_0 l0_1 1048576 = some z0 ∧ z0 < 0
def laws_FnExactClashesOf.ok (k : Nat) (l0_0 : List (List Int)) (l0_1 : List S97) : Prop := laws_FnExactClashesOf.skip0 k l0_0 l0_1 ∨ laws_FnExactClashesOf.good k l0_0 l0_1
set_option maxHeartbeats 8000000 in
set_option maxRecDepth 100000 in
theorem laws_FnExactClashesOf.s0 (k : Nat) (A0_0 : Option Addr) (c0_0 : Nat) (l0_0 : List (List Int)) (A0_1 : Option Addr) (c0_1 : Nat) (l0_1 : List S97) (w : World) (hr0_0 : Kd.C (Kd.slice 3 (Kd.int .i64)) w A0_0 l0_0.length l0_0) (hc0_0 : l0_0.length ≤ c0_0) (hr0_1 : Kd.C k97 w A0_1 l0_1.length l0_1) (hc0_1 : l0_1.length ≤ c0_1) (h : laws_FnExactClashesOf.skip0 k l0_0 l0_1) :
    Calls Try.prog 10 #[.agg #[.slice A0_0 l0_0.length c0_0, .slice A0_1 l0_1.length c0_1]] w fun e w' => e = .returned (.bool true) ∧ Below w.heap.size w w' := by
  have HR0_0 := Aside0.mk hr0_0
  have HC0_0 := Aside0.mk hc0_0
  have HR0_1 := Aside0.mk hr0_1
  have HC0_1 := Aside0.mk hc0_1
  clear hr0_0 hc0_0 hr0_1 hc0_1
  have HO := Aside0.mk (H.Own.nil w)
  unfold laws_FnExactClashesOf.skip0 at h
  obtain ⟨z0, ⟨hsz0, hz0⟩⟩ := h
  have HSZ0 := Aside0.mk hsz0
  clear hsz0
  go_enter Try.func10, Try.ntmps10
  go_wp2_with (first | ((with_reducible refine gate_dst (N := 1) rfl ?_); refine H.own_box HO.out ?hg (N := 1) ?hd (cs := #[Value.slice A0_0 l0_0.length c0_0, Value.slice A0_1 l0_1.length c0_1]) (t := 27) ?hr ?_; (case hd => rfl); (case hg => rfl); (case hr => first | (go_simp; done) | (go_simp; rfl)); intro gb0 w_ ho_ hb_; replace HO := Aside0.mk ho_; clear ho_ hb_) | ((with_reducible refine gate_dst (N := 14) rfl ?_); refine wpList_load_row rfl 27 (.tmp 1) rfl _ rfl 27 _ (0, 0) _ (HO.out.get 0 rfl) Try.underlying27 rfl (by kernel_rfl) ?_) | ((with_reducible refine gate_dst (N := 20) rfl ?_); refine wpList_load_row rfl 27 (.tmp 1) rfl _ rfl 27 _ (0, 0) _ (HO.out.get 0 rfl) Try.underlying27 rfl (by kernel_rfl) ?_) | ((with_reducible refine gate_dst (N := 25) rfl ?_); refine wpList_load_row rfl 27 (.tmp 1) rfl _ rfl 27 _ (0, 0) _ (HO.out.get 0 rfl) Try.underlying27 rfl (by kernel_rfl) ?_) | ((with_reducible refine gate_dst (N := 28) rfl ?_); refine wpList_load_row rfl 33 (.tmp 6) rfl _ rfl 33 _ (0, 0) _ (HO.out.get 1 rfl) Try.underlying33 rfl (by kernel_rfl) ?_) | ((with_reducible refine gate_dst (N := 46) rfl ?_); refine wpList_load_row rfl 33 (.tmp 6) rfl _ rfl 33 _ (0, 0) _ (HO.out.get 1 rfl) Try.underlying33 rfl (by kernel_rfl) ?_) | ((with_reducible refine gate_dst (N := 74) rfl ?_); refine wpList_load_row rfl 27 (.tmp 1) rfl _ rfl 27 _ (0, 0) _ (HO.out.get 0 rfl) Try.underlying27 rfl (by kernel_rfl) ?_))
  refine (laws_szFlow.calls k _ _ l0_0 _ _ l0_1 1048576 z0 _ (Kd.C_below HR0_0.out HO.out.below) HC0_0.out (Kd.C_below HR0_1.out HO.out.below) HC0_1.out HSZ0.out).mono ?_
  rintro e w_ ⟨rfl, hb⟩
  replace HO := Aside0.mk (HO.out.step hb)
  clear hb
  go_wp2_with (first | ((with_reducible refine gate_dst (N := 1) rfl ?_); refine H.own_box HO.out ?hg (N := 1) ?hd (cs := #[Value.slice A0_0 l0_0.length c0_0, Value.slice A0_1 l0_1.length c0_1]) (t := 27) ?hr ?_; (case hd => rfl); (case hg => rfl); (case hr => first | (go_simp; done) | (go_simp; rfl)); intro gb0 w_ ho_ hb_; replace HO := Aside0.mk ho_; clear ho_ hb_) | ((with_reducible refine gate_dst (N := 14) rfl ?_); refine wpList_load_row rfl 27 (.tmp 1) rfl _ rfl 27 _ (0, 0) _ (HO.out.get 0 rfl) Try.underlying27 rfl (by kernel_rfl) ?_) | ((with_reducible refine gate_dst (N := 20) rfl ?_); refine wpList_load_row rfl 27 (.tmp 1) rfl _ rfl 27 _ (0, 0) _ (HO.out.get 0 rfl) Try.underlying27 rfl (by kernel_rfl) ?_) | ((with_reducible refine gate_dst (N := 25) rfl ?_); refine wpList_load_row rfl 27 (.tmp 1) rfl _ rfl 27 _ (0, 0) _ (HO.out.get 0 rfl) Try.underlying27 rfl (by kernel_rfl) ?_) | ((with_reducible refine gate_dst (N := 28) rfl ?_); refine wpList_load_row rfl 33 (.tmp 6) rfl _ rfl 33 _ (0, 0) _ (HO.out.get 1 rfl) Try.underlying33 rfl (by kernel_rfl) ?_) | ((with_reducible refine gate_dst (N := 46) rfl ?_); refine wpList_load_row rfl 33 (.tmp 6) rfl _ rfl 33 _ (0, 0) _ (HO.out.get 1 rfl) Try.underlying33 rfl (by kernel_rfl) ?_) | ((with_reducible refine gate_dst (N := 74) rfl ?_); refine wpList_load_row rfl 27 (.tmp 1) rfl _ rfl 27 _ (0, 0) _ (HO.out.get 0 rfl) Try.underlying27 rfl (by kernel_rfl) ?_))
  go_ret
  exact ⟨rfl, HO.out.below⟩
set_option maxHeartbeats 8000000 in
set_option maxRecDepth 100000 in
theorem laws_FnExactClashesOf.whole (k : Nat) (A0_0 : Option Addr) (c0_0 : Nat) (l0_0 : List (List Int)) (A0_1 : Option Addr) (c0_1 : Nat) (l0_1 : List S97) (w : World) (hr0_0 : Kd.C (Kd.slice 3 (Kd.int .i64)) w A0_0 l0_0.length l0_0) (hc0_0 : l0_0.length ≤ c0_0) (hr0_1 : Kd.C k97 w A0_1 l0_1.length l0_1) (hc0_1 : l0_1.length ≤ c0_1) (h : laws_FnExactClashesOf.good k l0_0 l0_1) :
    Calls Try.prog 10 #[.agg #[.slice A0_0 l0_0.length c0_0, .slice A0_1 l0_1.length c0_1]] w fun e w' => e = .returned (.bool true) ∧ Below w.heap.size w w' := by
  have HR0_0 := Aside0.mk hr0_0
  have HC0_0 := Aside0.mk hc0_0
  have HR0_1 := Aside0.mk hr0_1
  have HC0_1 := Aside0.mk hc0_1
  clear hr0_0 hc0_0 hr0_1 hc0_1
  have HO := Aside0.mk (H.Own.nil w)
  unfold laws_FnExactClashesOf.good at h
  obtain ⟨z0, y0_0, y0_1, s1, s2, hsz0, hz0, hto0, hspec, himpl, heqr, heq0, htot, hheld, hyl0, hym0, hb0⟩ := h
  have HSZ0 := Aside0.mk hsz0
  have HTO0 := Aside0.mk hto0
  have HSPEC := Aside0.mk hspec
  have HIMPL := Aside0.mk himpl
  have HEQR := Aside0.mk heqr
  have HEQ0 := Aside0.mk heq0
  have HTOT := Aside0.mk htot
  have HHELD := Aside0.mk hheld
  have HB0 := Aside0.mk hb0
  clear hsz0 hto0 hspec himpl heqr heq0 htot hheld hb0
  obtain ⟨K2, hK2⟩ : ∃ K2 : Int, 1 + (H.total s1 : Int) = K2 := ⟨_, rfl⟩
  have hk2 : 0 ≤ K2 := by omega
  have HK2 := Aside0.mk hK2
  clear hK2
  have HSZW := Aside0.mk (rfl : w.heap.size = w.heap.size)
  go_enter Try.func10, Try.ntmps10
  go_wp2_with (first | ((with_reducible refine gate_dst (N := 1) rfl ?_); refine H.own_box HO.out ?hg (N := 1) ?hd (cs := #[Value.slice A0_0 l0_0.length c0_0, Value.slice A0_1 l0_1.length c0_1]) (t := 27) ?hr ?_; (case hd => rfl); (case hg => rfl); (case hr => first | (go_simp; done) | (go_simp; rfl)); intro gb0 w_ ho_ hb_; replace HO := Aside0.mk ho_; clear ho_ hb_) | ((with_reducible refine gate_dst (N := 14) rfl ?_); refine wpList_load_row rfl 27 (.tmp 1) rfl _ rfl 27 _ (0, 0) _ (HO.out.get 0 rfl) Try.underlying27 rfl (by kernel_rfl) ?_) | ((with_reducible refine gate_dst (N := 20) rfl ?_); refine wpList_load_row rfl 27 (.tmp 1) rfl _ rfl 27 _ (0, 0) _ (HO.out.get 0 rfl) Try.underlying27 rfl (by kernel_rfl) ?_) | ((with_reducible refine gate_dst (N := 25) rfl ?_); refine wpList_load_row rfl 27 (.tmp 1) rfl _ rfl 27 _ (0, 0) _ (HO.out.get 0 rfl) Try.underlying27 rfl (by kernel_rfl) ?_) | ((with_reducible refine gate_dst (N := 28) rfl ?_); refine wpList_load_row rfl 33 (.tmp 6) rfl _ rfl 33 _ (0, 0) _ (HO.out.get 1 rfl) Try.underlying33 rfl (by kernel_rfl) ?_) | ((with_reducible refine gate_dst (N := 46) rfl ?_); refine wpList_load_row rfl 33 (.tmp 6) rfl _ rfl 33 _ (0, 0) _ (HO.out.get 1 rfl) Try.underlying33 rfl (by kernel_rfl) ?_) | ((with_reducible refine gate_dst (N := 74) rfl ?_); refine wpList_load_row rfl 27 (.tmp 1) rfl _ rfl 27 _ (0, 0) _ (HO.out.get 0 rfl) Try.underlying27 rfl (by kernel_rfl) ?_))
  refine (laws_szFlow.calls k _ _ l0_0 _ _ l0_1 1048576 z0 _ (Kd.C_below HR0_0.out HO.out.below) HC0_0.out (Kd.C_below HR0_1.out HO.out.below) HC0_1.out HSZ0.out).mono ?_
  rintro e w_ ⟨rfl, hb⟩
  replace HO := Aside0.mk (HO.out.step hb)
  clear hb
  go_wp2_with (first | ((with_reducible refine gate_dst (N := 1) rfl ?_); refine H.own_box HO.out ?hg (N := 1) ?hd (cs := #[Value.slice A0_0 l0_0.length c0_0, Value.slice A0_1 l0_1.length c0_1]) (t := 27) ?hr ?_; (case hd => rfl); (case hg => rfl); (case hr => first | (go_simp; done) | (go_simp; rfl)); intro gb0 w_ ho_ hb_; replace HO := Aside0.mk ho_; clear ho_ hb_) | ((with_reducible refine gate_dst (N := 14) rfl ?_); refine wpList_load_row rfl 27 (.tmp 1) rfl _ rfl 27 _ (0, 0) _ (HO.out.get 0 rfl) Try.underlying27 rfl (by kernel_rfl) ?_) | ((with_reducible refine gate_dst (N := 20) rfl ?_); refine wpList_load_row rfl 27 (.tmp 1) rfl _ rfl 27 _ (0, 0) _ (HO.out.get 0 rfl) Try.underlying27 rfl (by kernel_rfl) ?_) | ((with_reducible refine gate_dst (N := 25) rfl ?_); refine wpList_load_row rfl 27 (.tmp 1) rfl _ rfl 27 _ (0, 0) _ (HO.out.get 0 rfl) Try.underlying27 rfl (by kernel_rfl) ?_) | ((with_reducible refine gate_dst (N := 28) rfl ?_); refine wpList_load_row rfl 33 (.tmp 6) rfl _ rfl 33 _ (0, 0) _ (HO.out.get 1 rfl) Try.underlying33 rfl (by kernel_rfl) ?_) | ((with_reducible refine gate_dst (N := 46) rfl ?_); refine wpList_load_row rfl 33 (.tmp 6) rfl _ rfl 33 _ (0, 0) _ (HO.out.get 1 rfl) Try.underlying33 rfl (by kernel_rfl) ?_) | ((with_reducible refine gate_dst (N := 74) rfl ?_); refine wpList_load_row rfl 27 (.tmp 1) rfl _ rfl 27 _ (0, 0) _ (HO.out.get 0 rfl) Try.underlying27 rfl (by kernel_rfl) ?_))
  refine (laws_toFlow.calls k _ _ l0_0 _ _ l0_1 y0_0 y0_1 _ (Kd.C_below HR0_0.out HO.out.below) HC0_0.out (Kd.C_below HR0_1.out HO.out.below) HC0_1.out HTO0.out).mono ?_
  rintro e w_ ⟨vTy0_0, vTy0_1, rfl, hTy0_0, hTy0_1, hb⟩
  obtain ⟨ATy0_0, cTy0_0, rfl⟩ := Kd.S_slice hTy0_0
  obtain ⟨ATy0_1, cTy0_1, rfl⟩ := Kd.S_slice hTy0_1
  replace HO := Aside0.mk (HO.out.step hb)
  have HTy0_0 := Aside0.mk (H.S_upto hTy0_0)
  have HTy0_1 := Aside0.mk (H.S_upto hTy0_1)
  clear hb hTy0_0 hTy0_1
  go_wp2_with (first | ((with_reducible refine gate_dst (N := 1) rfl ?_); refine H.own_box HO.out ?hg (N := 1) ?hd (cs := #[Value.slice A0_0 l0_0.length c0_0, Value.slice A0_1 l0_1.length c0_1]) (t := 27) ?hr ?_; (case hd => rfl); (case hg => rfl); (case hr => first | (go_simp; done) | (go_simp; rfl)); intro gb0 w_ ho_ hb_; replace HO := Aside0.mk ho_; clear ho_ hb_) | ((with_reducible refine gate_dst (N := 14) rfl ?_); refine wpList_load_row rfl 27 (.tmp 1) rfl _ rfl 27 _ (0, 0) _ (HO.out.get 0 rfl) Try.underlying27 rfl (by kernel_rfl) ?_) | ((with_reducible refine gate_dst (N := 20) rfl ?_); refine wpList_load_row rfl 27 (.tmp 1) rfl _ rfl 27 _ (0, 0) _ (HO.out.get 0 rfl) Try.underlying27 rfl (by kernel_rfl) ?_) | ((with_reducible refine gate_dst (N := 25) rfl ?_); refine wpList_load_row rfl 27 (.tmp 1) rfl _ rfl 27 _ (0, 0) _ (HO.out.get 0 rfl) Try.underlying27 rfl (by kernel_rfl) ?_) | ((with_reducible refine gate_dst (N := 28) rfl ?_); refine wpList_load_row rfl 33 (.tmp 6) rfl _ rfl 33 _ (0, 0) _ (HO.out.get 1 rfl) Try.underlying33 rfl (by kernel_rfl) ?_) | ((with_reducible refine gate_dst (N := 46) rfl ?_); refine wpList_load_row rfl 33 (.tmp 6) rfl _ rfl 33 _ (0, 0) _ (HO.out.get 1 rfl) Try.underlying33 rfl (by kernel_rfl) ?_) | ((with_reducible refine gate_dst (N := 74) rfl ?_); refine wpList_load_row rfl 27 (.tmp 1) rfl _ rfl 27 _ (0, 0) _ (HO.out.get 0 rfl) Try.underlying27 rfl (by kernel_rfl) ?_))
  have HWB := Aside0.mk HO.out.size
  refine (spec_ClashesOf.calls k _ _ y0_0 _ _ y0_1 s1 s2 _ (Kd.S_reads' HTy0_0.out).2.2 (Kd.S_reads' HTy0_0.out).2.1 (Kd.S_reads' HTy0_1.out).2.2 (Kd.S_reads' HTy0_1.out).2.1 HSPEC.out).mono ?_
  rintro e w_ ⟨vW, rfl, hs, hb⟩
  obtain ⟨AW, cW, rfl⟩ := Kd.S_slice hs
  replace HO := Aside0.mk (HO.out.step hb)
  replace HTy0_0 := Aside0.mk (Kd.S_below HTy0_0.out hb)
  replace HTy0_1 := Aside0.mk (Kd.S_below HTy0_1.out hb);
  have HW := Aside0.mk (H.S_upto hs)
  clear hs hb
  clear HTy0_0 HTy0_1
  go_wp2_with (first | ((with_reducible refine gate_dst (N := 1) rfl ?_); refine H.own_box HO.out ?hg (N := 1) ?hd (cs := #[Value.slice A0_0 l0_0.length c0_0, Value.slice A0_1 l0_1.length c0_1]) (t := 27) ?hr ?_; (case hd => rfl); (case hg => rfl); (case hr => first | (go_simp; done) | (go_simp; rfl)); intro gb0 w_ ho_ hb_; replace HO := Aside0.mk ho_; clear ho_ hb_) | ((with_reducible refine gate_dst (N := 14) rfl ?_); refine wpList_load_row rfl 27 (.tmp 1) rfl _ rfl 27 _ (0, 0) _ (HO.out.get 0 rfl) Try.underlying27 rfl (by kernel_rfl) ?_) | ((with_reducible refine gate_dst (N := 20) rfl ?_); refine wpList_load_row rfl 27 (.tmp 1) rfl _ rfl 27 _ (0, 0) _ (HO.out.get 0 rfl) Try.underlying27 rfl (by kernel_rfl) ?_) | ((with_reducible refine gate_dst (N := 25) rfl ?_); refine wpList_load_row rfl 27 (.tmp 1) rfl _ rfl 27 _ (0, 0) _ (HO.out.get 0 rfl) Try.underlying27 rfl (by kernel_rfl) ?_) | ((with_reducible refine gate_dst (N := 28) rfl ?_); refine wpList_load_row rfl 33 (.tmp 6) rfl _ rfl 33 _ (0, 0) _ (HO.out.get 1 rfl) Try.underlying33 rfl (by kernel_rfl) ?_) | ((with_reducible refine gate_dst (N := 46) rfl ?_); refine wpList_load_row rfl 33 (.tmp 6) rfl _ rfl 33 _ (0, 0) _ (HO.out.get 1 rfl) Try.underlying33 rfl (by kernel_rfl) ?_) | ((with_reducible refine gate_dst (N := 74) rfl ?_); refine wpList_load_row rfl 27 (.tmp 1) rfl _ rfl 27 _ (0, 0) _ (HO.out.get 0 rfl) Try.underlying27 rfl (by kernel_rfl) ?_) | ((with_reducible refine gate_dst (N := 6) rfl ?_); refine H.own_box HO.out ?hg (N := 6) ?hd (cs := #[Value.slice none 0 0, Value.slice none 0 0]) (t := 33) ?hr ?_; (case hd => rfl); (case hg => rfl); (case hr => first | (go_simp; done) | (go_simp; rfl)); intro gx0 w_ ho_ hb_; replace HW := Aside0.mk (Kd.S_below HW.out hb_); replace HLE := Aside0.mk (Nat.le_trans HLE.out hb_.size); replace HO := Aside0.mk ho_; clear ho_ hb_) | ((with_reducible refine gate_store (t := 33) (p := 6) rfl ?_); refine H.own_store HO.out 1 rfl rfl rfl rfl rfl (u := .agg #[Value.slice AXy0_0 y0_0.length cXy0_0, Value.slice AXy0_1 y0_1.length cXy0_1]) (seg := [Value.slice AXy0_0 y0_0.length cXy0_0, Value.slice AXy0_1 y0_1.length cXy0_1]) rfl rfl (by kernel_rfl) (by simp [Value.oneCell']) (by simp) (cs' := #[Value.slice AXy0_0 y0_0.length cXy0_0, Value.slice AXy0_1 y0_1.length cXy0_1]) rfl ?_; intro w_ ho_ hg_; replace HW := Aside0.mk (HO.out.keepS 1 rfl HW.out hg_ (by decide)); replace HLE := Aside0.mk (Nat.le_trans HLE.out hg_.size); replace HO := Aside0.mk ho_; clear ho_ hg_))
  obtain ⟨N1, hN1⟩ : ∃ N1, _ = N1 := ⟨w_.heap.size, rfl⟩
  have HN1 := Aside0.mk (show w.heap.size ≤ N1 by rw [← hN1]; exact HO.out.size)
  replace HW := Aside0.mk (Kd.S_mono (ok' := fun k_ => w.heap.size ≤ k_ ∧ k_ < N1) (H.S_upto (Kd.S_lower HW.out HWB.out)) (fun k_ hk_ => by rw [← hN1]; exact hk_))
  clear HWB
  refine (laws_toFlow.calls k _ _ l0_0 _ _ l0_1 y0_0 y0_1 _ (Kd.C_below HR0_0.out HO.out.below) HC0_0.out (Kd.C_below HR0_1.out HO.out.below) HC0_1.out HTO0.out).mono ?_
  rintro e w_ ⟨vXy0_0, vXy0_1, rfl, hXy0_0, hXy0_1, hb⟩
  obtain ⟨AXy0_0, cXy0_0, rfl⟩ := Kd.S_slice hXy0_0
  obtain ⟨AXy0_1, cXy0_1, rfl⟩ := Kd.S_slice hXy0_1
  have HXy0_0 := Aside0.mk (H.S_upto (Kd.S_lower hXy0_0 (show N1 ≤ _ from by rw [← hN1]; exact Nat.le_refl _)))
  have HXy0_1 := Aside0.mk (H.S_upto (Kd.S_lower hXy0_1 (show N1 ≤ _ from by rw [← hN1]; exact Nat.le_refl _)))
  replace HO := Aside0.mk (HO.out.step hb)
  replace HW := Aside0.mk (Kd.S_below HW.out hb);
  have HLE := Aside0.mk (show N1 ≤ _ from Nat.le_trans (Nat.le_of_eq hN1.symm) hb.size)
  clear hN1
  clear hb hXy0_0 hXy0_1
  go_wp2_with (first | ((with_reducible refine gate_dst (N := 1) rfl ?_); refine H.own_box HO.out ?hg (N := 1) ?hd (cs := #[Value.slice A0_0 l0_0.length c0_0, Value.slice A0_1 l0_1.length c0_1]) (t := 27) ?hr ?_; (case hd => rfl); (case hg => rfl); (case hr => first | (go_simp; done) | (go_simp; rfl)); intro gb0 w_ ho_ hb_; replace HO := Aside0.mk ho_; clear ho_ hb_) | ((with_reducible refine gate_dst (N := 14) rfl ?_); refine wpList_load_row rfl 27 (.tmp 1) rfl _ rfl 27 _ (0, 0) _ (HO.out.get 0 rfl) Try.underlying27 rfl (by kernel_rfl) ?_) | ((with_reducible refine gate_dst (N := 20) rfl ?_); refine wpList_load_row rfl 27 (.tmp 1) rfl _ rfl 27 _ (0, 0) _ (HO.out.get 0 rfl) Try.underlying27 rfl (by kernel_rfl) ?_) | ((with_reducible refine gate_dst (N := 25) rfl ?_); refine wpList_load_row rfl 27 (.tmp 1) rfl _ rfl 27 _ (0, 0) _ (HO.out.get 0 rfl) Try.underlying27 rfl (by kernel_rfl) ?_) | ((with_reducible refine gate_dst (N := 28) rfl ?_); refine wpList_load_row rfl 33 (.tmp 6) rfl _ rfl 33 _ (0, 0) _ (HO.out.get 1 rfl) Try.underlying33 rfl (by kernel_rfl) ?_) | ((with_reducible refine gate_dst (N := 46) rfl ?_); refine wpList_load_row rfl 33 (.tmp 6) rfl _ rfl 33 _ (0, 0) _ (HO.out.get 1 rfl) Try.underlying33 rfl (by kernel_rfl) ?_) | ((with_reducible refine gate_dst (N := 74) rfl ?_); refine wpList_load_row rfl 27 (.tmp 1) rfl _ rfl 27 _ (0, 0) _ (HO.out.get 0 rfl) Try.underlying27 rfl (by kernel_rfl) ?_) | ((with_reducible refine gate_dst (N := 6) rfl ?_); refine H.own_box HO.out ?hg (N := 6) ?hd (cs := #[Value.slice none 0 0, Value.slice none 0 0]) (t := 33) ?hr ?_; (case hd => rfl); (case hg => rfl); (case hr => first | (go_simp; done) | (go_simp; rfl)); intro gx0 w_ ho_ hb_; replace HW := Aside0.mk (Kd.S_below HW.out hb_); replace HXy0_0 := Aside0.mk (Kd.S_below HXy0_0.out hb_); replace HXy0_1 := Aside0.mk (Kd.S_below HXy0_1.out hb_); replace HLE := Aside0.mk (Nat.le_trans HLE.out hb_.size); replace HO := Aside0.mk ho_; clear ho_ hb_) | ((with_reducible refine gate_store (t := 33) (p := 6) rfl ?_); refine H.own_store HO.out 1 rfl rfl rfl rfl rfl (u := .agg #[Value.slice AXy0_0 y0_0.length cXy0_0, Value.slice AXy0_1 y0_1.length cXy0_1]) (seg := [Value.slice AXy0_0 y0_0.length cXy0_0, Value.slice AXy0_1 y0_1.length cXy0_1]) rfl rfl (by kernel_rfl) (by simp [Value.oneCell']) (by simp) (cs' := #[Value.slice AXy0_0 y0_0.length cXy0_0, Value.slice AXy0_1 y0_1.length cXy0_1]) rfl ?_; intro w_ ho_ hg_; replace HW := Aside0.mk (HO.out.keepS 1 rfl HW.out hg_ (by decide)); replace HXy0_0 := Aside0.mk (HO.out.keepS 1 rfl HXy0_0.out hg_ (by decide)); replace HXy0_1 := Aside0.mk (HO.out.keepS 1 rfl HXy0_1.out hg_ (by decide)); replace HLE := Aside0.mk (Nat.le_trans HLE.out hg_.size); replace HO := Aside0.mk ho_; clear ho_ hg_))
  obtain ⟨N2, hN2⟩ : ∃ N2, _ = N2 := ⟨w_.heap.size, rfl⟩
  replace HXy0_0 := Aside0.mk (Kd.S_mono (ok' := fun k_ => N1 ≤ k_ ∧ k_ < N2) (H.S_upto HXy0_0.out) (fun k_ hk_ => by rw [← hN2]; exact hk_))
  replace HXy0_1 := Aside0.mk (Kd.S_mono (ok' := fun k_ => N1 ≤ k_ ∧ k_ < N2) (H.S_upto HXy0_1.out) (fun k_ hk_ => by rw [← hN2]; exact hk_))
  have HLT := Aside0.mk HO.out.lt
  rw [hN2] at HLT
  have HN2 := Aside0.mk (show w.heap.size ≤ N2 by rw [← hN2]; exact HO.out.size)
  have HN12 := Aside0.mk (show N1 ≤ N2 by rw [← hN2]; exact HLE.out)
  refine (impl_ClashesOf.calls _ _ y0_0 _ _ y0_1 s1 s2 _ (Kd.S_reads' HXy0_0.out).2.2 (Kd.S_reads' HXy0_0.out).2.1 (Kd.S_reads' HXy0_1.out).2.2 (Kd.S_reads' HXy0_1.out).2.1 HIMPL.out).mono ?_
  rintro e w_ ⟨vG, rfl, hs, hb⟩
  obtain ⟨AG, cG, rfl⟩ := Kd.S_slice hs
  replace HO := Aside0.mk (HO.out.step hb)
  replace HW := Aside0.mk (Kd.S_below HW.out hb)
  replace HXy0_0 := Aside0.mk (Kd.S_below HXy0_0.out hb)
  replace HXy0_1 := Aside0.mk (Kd.S_below HXy0_1.out hb);
  have HG := Aside0.mk (H.S_upto hs)
  rw [hN2] at HG
  obtain ⟨N3, hN3⟩ : ∃ N3, w_.heap.size = N3 := ⟨_, rfl⟩
  rw [hN3] at HG
  clear hs hb hN2 hN3
  go_wp2_with (first | ((with_reducible refine gate_dst (N := 1) rfl ?_); refine H.own_box HO.out ?hg (N := 1) ?hd (cs := #[Value.slice A0_0 l0_0.length c0_0, Value.slice A0_1 l0_1.length c0_1]) (t := 27) ?hr ?_; (case hd => rfl); (case hg => rfl); (case hr => first | (go_simp; done) | (go_simp; rfl)); intro gb0 w_ ho_ hb_; replace HO := Aside0.mk ho_; clear ho_ hb_) | ((with_reducible refine gate_dst (N := 14) rfl ?_); refine wpList_load_row rfl 27 (.tmp 1) rfl _ rfl 27 _ (0, 0) _ (HO.out.get 0 rfl) Try.underlying27 rfl (by kernel_rfl) ?_) | ((with_reducible refine gate_dst (N := 20) rfl ?_); refine wpList_load_row rfl 27 (.tmp 1) rfl _ rfl 27 _ (0, 0) _ (HO.out.get 0 rfl) Try.underlying27 rfl (by kernel_rfl) ?_) | ((with_reducible refine gate_dst (N := 25) rfl ?_); refine wpList_load_row rfl 27 (.tmp 1) rfl _ rfl 27 _ (0, 0) _ (HO.out.get 0 rfl) Try.underlying27 rfl (by kernel_rfl) ?_) | ((with_reducible refine gate_dst (N := 28) rfl ?_); refine wpList_load_row rfl 33 (.tmp 6) rfl _ rfl 33 _ (0, 0) _ (HO.out.get 1 rfl) Try.underlying33 rfl (by kernel_rfl) ?_) | ((with_reducible refine gate_dst (N := 46) rfl ?_); refine wpList_load_row rfl 33 (.tmp 6) rfl _ rfl 33 _ (0, 0) _ (HO.out.get 1 rfl) Try.underlying33 rfl (by kernel_rfl) ?_) | ((with_reducible refine gate_dst (N := 74) rfl ?_); refine wpList_load_row rfl 27 (.tmp 1) rfl _ rfl 27 _ (0, 0) _ (HO.out.get 0 rfl) Try.underlying27 rfl (by kernel_rfl) ?_))
  refine (laws_eqIntSS.calls k _ _ s1 _ _ s1 true _ (Kd.S_reads' HG.out).2.2 (Kd.S_reads' HG.out).2.1 (Kd.S_reads' HW.out).2.2 (Kd.S_reads' HW.out).2.1 HEQR.out).mono ?_
  rintro e w_ ⟨rfl, hd⟩
  replace HO := Aside0.mk (HO.out.step hd.below)
  replace HW := Aside0.mk (Kd.S_below HW.out hd.below)
  replace HXy0_0 := Aside0.mk (Kd.S_below HXy0_0.out hd.below)
  replace HXy0_1 := Aside0.mk (Kd.S_below HXy0_1.out hd.below)
  replace HG := Aside0.mk (Kd.S_below HG.out hd.below);
  clear hd
  go_wp2_with (first | ((with_reducible refine gate_dst (N := 1) rfl ?_); refine H.own_box HO.out ?hg (N := 1) ?hd (cs := #[Value.slice A0_0 l0_0.length c0_0, Value.slice A0_1 l0_1.length c0_1]) (t := 27) ?hr ?_; (case hd => rfl); (case hg => rfl); (case hr => first | (go_simp; done) | (go_simp; rfl)); intro gb0 w_ ho_ hb_; replace HO := Aside0.mk ho_; clear ho_ hb_) | ((with_reducible refine gate_dst (N := 14) rfl ?_); refine wpList_load_row rfl 27 (.tmp 1) rfl _ rfl 27 _ (0, 0) _ (HO.out.get 0 rfl) Try.underlying27 rfl (by kernel_rfl) ?_) | ((with_reducible refine gate_dst (N := 20) rfl ?_); refine wpList_load_row rfl 27 (.tmp 1) rfl _ rfl 27 _ (0, 0) _ (HO.out.get 0 rfl) Try.underlying27 rfl (by kernel_rfl) ?_) | ((with_reducible refine gate_dst (N := 25) rfl ?_); refine wpList_load_row rfl 27 (.tmp 1) rfl _ rfl 27 _ (0, 0) _ (HO.out.get 0 rfl) Try.underlying27 rfl (by kernel_rfl) ?_) | ((with_reducible refine gate_dst (N := 28) rfl ?_); refine wpList_load_row rfl 33 (.tmp 6) rfl _ rfl 33 _ (0, 0) _ (HO.out.get 1 rfl) Try.underlying33 rfl (by kernel_rfl) ?_) | ((with_reducible refine gate_dst (N := 46) rfl ?_); refine wpList_load_row rfl 33 (.tmp 6) rfl _ rfl 33 _ (0, 0) _ (HO.out.get 1 rfl) Try.underlying33 rfl (by kernel_rfl) ?_) | ((with_reducible refine gate_dst (N := 74) rfl ?_); refine wpList_load_row rfl 27 (.tmp 1) rfl _ rfl 27 _ (0, 0) _ (HO.out.get 0 rfl) Try.underlying27 rfl (by kernel_rfl) ?_))
  replace HO := Aside0.mk HO.out.drew
  replace HW := Aside0.mk (Kd.S_drew HW.out)
  replace HXy0_0 := Aside0.mk (Kd.S_drew HXy0_0.out)
  replace HXy0_1 := Aside0.mk (Kd.S_drew HXy0_1.out)
  replace HG := Aside0.mk (Kd.S_drew HG.out)
  refine start_ (n := 5) (S := fun w' => w'.rangeAt gx0 0 [Value.slice AXy0_0 y0_0.length cXy0_0, Value.slice AXy0_1 y0_1.length cXy0_1] ∧ w'.rangeAt gb0 0 [Value.slice A0_0 l0_0.length c0_0, Value.slice A0_1 l0_1.length c0_1]) (ds := []) #[false, false, false, false, false] (by kernel_rfl) rfl rfl ⟨(HO.out.range 1 rfl), (HO.out.range 0 rfl)⟩ (fun hHeld => ?_)
  refine take_ (i := 0) (N := some 41) (v := .agg #[Value.slice AXy0_0 y0_0.length cXy0_0, Value.slice AXy0_1 y0_1.length cXy0_1]) (a' := ?_) #[true, false, false, false, false] rfl rfl (by kernel_rfl) (fun _ _ _ h => h) (yieldsIf_load_mid (by rfl) 33 (.tmp 6) rfl gx0 0 rfl [Value.slice AXy0_0 y0_0.length cXy0_0, Value.slice AXy0_1 y0_1.length cXy0_1] _ (fun W h => h.1) Try.underlying33 rfl (by kernel_rfl)) hHeld ?_ ?_
  rotate_left
  · simp only [Act.put, List.setIfInBounds_toArray, List.set_cons_zero, List.set_cons_succ, i64_w, i32_w]
    rfl
  refine take_ (i := 1) (N := some 42) (v := .agg #[Value.slice A0_0 l0_0.length c0_0, Value.slice A0_1 l0_1.length c0_1]) (a' := ?_) #[true, true, false, false, false] rfl rfl (by kernel_rfl) (fun _ _ _ h => h) (yieldsIf_load_mid (by rfl) 27 (.tmp 1) rfl gb0 0 rfl [Value.slice A0_0 l0_0.length c0_0, Value.slice A0_1 l0_1.length c0_1] _ (fun W h => h.2) Try.underlying27 rfl (by kernel_rfl)) hHeld ?_ ?_
  rotate_left
  · simp only [Act.put, List.setIfInBounds_toArray, List.set_cons_zero, List.set_cons_succ, i64_w, i32_w]
    rfl
  refine one_ (i := 2) (N := some 43) #[true, true, true, false, false] rfl rfl (by kernel_rfl) (by decide) (fun K hK => ?_)
  refine goes_ Try.func14 (by kernel_rfl) rfl #[.agg #[.slice A0_0 l0_0.length c0_0, .slice A0_1 l0_1.length c0_1]] (by rfl) rfl rfl (by simp only [List.map_toArray, List.map_cons, List.map_nil]; rfl) ?_
  with_reducible refine (laws_toFlow.calls k _ _ l0_0 _ _ l0_1 y0_0 y0_1 _ (Kd.C_below HR0_0.out HO.out.below) HC0_0.out (Kd.C_below HR0_1.out HO.out.below) HC0_1.out HTO0.out).mono ?_
  rintro e w_ ⟨vEy0_0, vEy0_1, rfl, hEy0_0, hEy0_1, hb⟩
  refine ⟨_, rfl, ?_⟩
  obtain ⟨AEy0_0, cEy0_0, rfl⟩ := Kd.S_slice hEy0_0
  obtain ⟨AEy0_1, cEy0_1, rfl⟩ := Kd.S_slice hEy0_1
  replace HO := Aside0.mk (HO.out.step hb)
  replace HW := Aside0.mk (Kd.S_below HW.out hb)
  replace HXy0_0 := Aside0.mk (Kd.S_below HXy0_0.out hb)
  replace HXy0_1 := Aside0.mk (Kd.S_below HXy0_1.out hb)
  replace HG := Aside0.mk (Kd.S_below HG.out hb);
  have HEy0_0 := Aside0.mk hEy0_0
  have HEy0_1 := Aside0.mk hEy0_1
  clear hb hEy0_0 hEy0_1
  refine hK.out _ _ ⟨(HO.out.range 1 rfl), (HO.out.range 0 rfl)⟩ (fun hHeld => ?_)
  clear hK K
  refine norm_ (a' := ?_) ?_ ?_
  rotate_left
  · show Act.put _ (some 43) _ = _
    simp only [Act.put, List.setIfInBounds_toArray, List.set_cons_zero, List.set_cons_succ, i64_w, i32_w]
    rfl
  refine one_ (i := 3) (N := some 44) #[true, true, true, true, false] rfl rfl (by kernel_rfl) (by decide) (fun K hK => ?_)
  refine goes_ Try.func16 (by kernel_rfl) rfl #[.agg #[Value.slice AXy0_0 y0_0.length cXy0_0, Value.slice AXy0_1 y0_1.length cXy0_1], .agg #[Value.slice AEy0_0 y0_0.length cEy0_0, Value.slice AEy0_1 y0_1.length cEy0_1]] (by rfl) rfl rfl (by simp only [List.map_toArray, List.map_cons, List.map_nil]; rfl) ?_
  with_reducible refine (laws_eqFlow.calls k _ _ y0_0 _ _ y0_1 _ _ y0_0 _ _ y0_1 true _ (Kd.S_reads' HXy0_0.out).2.2 (Kd.S_reads' HXy0_0.out).2.1 (Kd.S_reads' HXy0_1.out).2.2 (Kd.S_reads' HXy0_1.out).2.1 (Kd.S_reads' HEy0_0.out).2.2 (Kd.S_reads' HEy0_0.out).2.1 (Kd.S_reads' HEy0_1.out).2.2 (Kd.S_reads' HEy0_1.out).2.1 HEQ0.out).mono ?_
  rintro e w_ ⟨rfl, hb⟩
  refine ⟨_, rfl, ?_⟩
  replace HO := Aside0.mk (HO.out.step hb)
  replace HW := Aside0.mk (Kd.S_below HW.out hb)
  replace HXy0_0 := Aside0.mk (Kd.S_below HXy0_0.out hb)
  replace HXy0_1 := Aside0.mk (Kd.S_below HXy0_1.out hb)
  replace HG := Aside0.mk (Kd.S_below HG.out hb);
  clear hb
  refine hK.out _ _ ⟨(HO.out.range 1 rfl), (HO.out.range 0 rfl)⟩ (fun hHeld => ?_)
  clear hK K
  refine norm_ (a' := ?_) ?_ ?_
  rotate_left
  · show Act.put _ (some 44) _ = _
    simp only [Act.put, List.setIfInBounds_toArray, List.set_cons_zero, List.set_cons_succ, i64_w, i32_w]
    rfl
  refine pure_ (i := 4) (N := some 45) (v := ?_) (a' := ?_) #[true, true, true, true, true] rfl rfl (by kernel_rfl) (fun _ _ _ h => h) (Or.inl ⟨by rfl, ?_⟩) ?_ ?_
  rotate_left
  · intro w'
    go_simp
    with_reducible rfl
  rotate_left
  · simp only [Act.put, List.setIfInBounds_toArray, List.set_cons_zero, List.set_cons_succ, i64_w, i32_w]
    rfl
  refine done_ (by kernel_rfl) ?_
  clear HEy0_0 HEy0_1
  go_wp2_with (first | ((with_reducible refine gate_dst (N := 1) rfl ?_); refine H.own_box HO.out ?hg (N := 1) ?hd (cs := #[Value.slice A0_0 l0_0.length c0_0, Value.slice A0_1 l0_1.length c0_1]) (t := 27) ?hr ?_; (case hd => rfl); (case hg => rfl); (case hr => first | (go_simp; done) | (go_simp; rfl)); intro gb0 w_ ho_ hb_; replace HO := Aside0.mk ho_; clear ho_ hb_) | ((with_reducible refine gate_dst (N := 14) rfl ?_); refine wpList_load_row rfl 27 (.tmp 1) rfl _ rfl 27 _ (0, 0) _ (HO.out.get 0 rfl) Try.underlying27 rfl (by kernel_rfl) ?_) | ((with_reducible refine gate_dst (N := 20) rfl ?_); refine wpList_load_row rfl 27 (.tmp 1) rfl _ rfl 27 _ (0, 0) _ (HO.out.get 0 rfl) Try.underlying27 rfl (by kernel_rfl) ?_) | ((with_reducible refine gate_dst (N := 25) rfl ?_); refine wpList_load_row rfl 27 (.tmp 1) rfl _ rfl 27 _ (0, 0) _ (HO.out.get 0 rfl) Try.underlying27 rfl (by kernel_rfl) ?_) | ((with_reducible refine gate_dst (N := 28) rfl ?_); refine wpList_load_row rfl 33 (.tmp 6) rfl _ rfl 33 _ (0, 0) _ (HO.out.get 1 rfl) Try.underlying33 rfl (by kernel_rfl) ?_) | ((with_reducible refine gate_dst (N := 46) rfl ?_); refine wpList_load_row rfl 33 (.tmp 6) rfl _ rfl 33 _ (0, 0) _ (HO.out.get 1 rfl) Try.underlying33 rfl (by kernel_rfl) ?_) | ((with_reducible refine gate_dst (N := 74) rfl ?_); refine wpList_load_row rfl 27 (.tmp 1) rfl _ rfl 27 _ (0, 0) _ (HO.out.get 0 rfl) Try.underlying27 rfl (by kernel_rfl) ?_))
  have hm0 : (0 : Int) ≤ 1 := by decide
  have HB := Aside0.mk HB0.out
  obtain ⟨M1, hM1⟩ : ∃ M1 : Int, 1 + (H.total y0_0 : Int) + (H.sumN (blkLen y0_1) (y0_1.length * 2) : Int) = M1 := ⟨_, rfl⟩
  have hmb1 : M1 ≤ 4611686018427387904 := by have := HB.out; omega
  have hm1 : 0 ≤ M1 := by omega
  refine (laws_markFlow.tame N1 N2 _ _ y0_0.length y0_1.length _ _ 1 _ (H.Rooms.of_S HXy0_0.out (Nat.le_refl _) (fun k_ hk_ _ => hk_.2)) (blkRooms HXy0_1.out (Nat.le_refl _) (fun k_ hk_ _ => hk_.2)) hm0 (by rw [H.sum_total _ _ (Nat.le_refl _), List.take_length]; omega) (by omega) (by omega)).mono ?_
  rintro e w_ ⟨he, ht⟩
  rw [H.sum_total _ _ (Nat.le_refl _), List.take_length, hM1] at he
  subst he
  replace HO := Aside0.mk (HO.out.tame ht HN1.out (by simp))
  replace HW := Aside0.mk (H.S_tame HW.out ht (.inl (Nat.le_refl _)))
  clear HXy0_0
  clear HXy0_1
  replace HG := Aside0.mk (H.S_tame HG.out ht (.inr (Nat.le_refl _)))
  clear ht hM1
  go_wp2_with (first | ((with_reducible refine gate_dst (N := 1) rfl ?_); refine H.own_box HO.out ?hg (N := 1) ?hd (cs := #[Value.slice A0_0 l0_0.length c0_0, Value.slice A0_1 l0_1.length c0_1]) (t := 27) ?hr ?_; (case hd => rfl); (case hg => rfl); (case hr => first | (go_simp; done) | (go_simp; rfl)); intro gb0 w_ ho_ hb_; replace HO := Aside0.mk ho_; clear ho_ hb_) | ((with_reducible refine gate_dst (N := 14) rfl ?_); refine wpList_load_row rfl 27 (.tmp 1) rfl _ rfl 27 _ (0, 0) _ (HO.out.get 0 rfl) Try.underlying27 rfl (by kernel_rfl) ?_) | ((with_reducible refine gate_dst (N := 20) rfl ?_); refine wpList_load_row rfl 27 (.tmp 1) rfl _ rfl 27 _ (0, 0) _ (HO.out.get 0 rfl) Try.underlying27 rfl (by kernel_rfl) ?_) | ((with_reducible refine gate_dst (N := 25) rfl ?_); refine wpList_load_row rfl 27 (.tmp 1) rfl _ rfl 27 _ (0, 0) _ (HO.out.get 0 rfl) Try.underlying27 rfl (by kernel_rfl) ?_) | ((with_reducible refine gate_dst (N := 28) rfl ?_); refine wpList_load_row rfl 33 (.tmp 6) rfl _ rfl 33 _ (0, 0) _ (HO.out.get 1 rfl) Try.underlying33 rfl (by kernel_rfl) ?_) | ((with_reducible refine gate_dst (N := 46) rfl ?_); refine wpList_load_row rfl 33 (.tmp 6) rfl _ rfl 33 _ (0, 0) _ (HO.out.get 1 rfl) Try.underlying33 rfl (by kernel_rfl) ?_) | ((with_reducible refine gate_dst (N := 74) rfl ?_); refine wpList_load_row rfl 27 (.tmp 1) rfl _ rfl 27 _ (0, 0) _ (HO.out.get 0 rfl) Try.underlying27 rfl (by kernel_rfl) ?_))
  refine (laws_eqIntSS.calls k _ _ s1 _ _ s1 true _ (Kd.S_reads' HG.out).2.2 (Kd.S_reads' HG.out).2.1 (Kd.S_reads' HW.out).2.2 (Kd.S_reads' HW.out).2.1 HEQR.out).mono ?_
  rintro e w_ ⟨rfl, hd⟩
  replace HO := Aside0.mk (HO.out.step hd.below)
  replace HW := Aside0.mk (Kd.S_below HW.out hd.below)
  replace HG := Aside0.mk (Kd.S_below HG.out hd.below);
  clear hd
  go_wp2_with (first | ((with_reducible refine gate_dst (N := 1) rfl ?_); refine H.own_box HO.out ?hg (N := 1) ?hd (cs := #[Value.slice A0_0 l0_0.length c0_0, Value.slice A0_1 l0_1.length c0_1]) (t := 27) ?hr ?_; (case hd => rfl); (case hg => rfl); (case hr => first | (go_simp; done) | (go_simp; rfl)); intro gb0 w_ ho_ hb_; replace HO := Aside0.mk ho_; clear ho_ hb_) | ((with_reducible refine gate_dst (N := 14) rfl ?_); refine wpList_load_row rfl 27 (.tmp 1) rfl _ rfl 27 _ (0, 0) _ (HO.out.get 0 rfl) Try.underlying27 rfl (by kernel_rfl) ?_) | ((with_reducible refine gate_dst (N := 20) rfl ?_); refine wpList_load_row rfl 27 (.tmp 1) rfl _ rfl 27 _ (0, 0) _ (HO.out.get 0 rfl) Try.underlying27 rfl (by kernel_rfl) ?_) | ((with_reducible refine gate_dst (N := 25) rfl ?_); refine wpList_load_row rfl 27 (.tmp 1) rfl _ rfl 27 _ (0, 0) _ (HO.out.get 0 rfl) Try.underlying27 rfl (by kernel_rfl) ?_) | ((with_reducible refine gate_dst (N := 28) rfl ?_); refine wpList_load_row rfl 33 (.tmp 6) rfl _ rfl 33 _ (0, 0) _ (HO.out.get 1 rfl) Try.underlying33 rfl (by kernel_rfl) ?_) | ((with_reducible refine gate_dst (N := 46) rfl ?_); refine wpList_load_row rfl 33 (.tmp 6) rfl _ rfl 33 _ (0, 0) _ (HO.out.get 1 rfl) Try.underlying33 rfl (by kernel_rfl) ?_) | ((with_reducible refine gate_dst (N := 74) rfl ?_); refine wpList_load_row rfl 27 (.tmp 1) rfl _ rfl 27 _ (0, 0) _ (HO.out.get 0 rfl) Try.underlying27 rfl (by kernel_rfl) ?_))
  refine (laws_markIntSS.exact _ s1 1 (fun k_ => N2 ≤ k_ ∧ k_ < N3) w _ HO.out.below (Kd.S_lower HG.out HN2.out) (by decide) HTOT.out).mono ?_
  rintro e w_ ⟨he, hs, hb, hk⟩
  rw [HK2.out] at he
  subst he
  replace HO := Aside0.mk (HO.out.kept hk hb (fun x hx hp => by have := HLT.out x hx; omega))
  replace HW := Aside0.mk (H.S_kept2 HW.out hk (.inl HN12.out))
  replace HG := Aside0.mk hs
  clear hs hb hk
  have HG' : Aside0 (∀ W (ok : Nat → Prop), Kd.S (Kd.slice 3 (Kd.int .i64)) 37 W w.heap.size ok (.slice AG s1.length cG) (H.markSS s1 1) → (Kd.slice 3 (Kd.int .i64)).C W AG (H.markSS s1 1).length (H.markSS s1 1) ∧ (H.markSS s1 1).length ≤ cG) := ⟨fun W ok h => by have h2 := Kd.S_reads' h; exact ⟨h2.2.2, by rw [← h2.1]; exact h2.2.1⟩⟩
  go_wp2_with (first | ((with_reducible refine gate_dst (N := 1) rfl ?_); refine H.own_box HO.out ?hg (N := 1) ?hd (cs := #[Value.slice A0_0 l0_0.length c0_0, Value.slice A0_1 l0_1.length c0_1]) (t := 27) ?hr ?_; (case hd => rfl); (case hg => rfl); (case hr => first | (go_simp; done) | (go_simp; rfl)); intro gb0 w_ ho_ hb_; replace HO := Aside0.mk ho_; clear ho_ hb_) | ((with_reducible refine gate_dst (N := 14) rfl ?_); refine wpList_load_row rfl 27 (.tmp 1) rfl _ rfl 27 _ (0, 0) _ (HO.out.get 0 rfl) Try.underlying27 rfl (by kernel_rfl) ?_) | ((with_reducible refine gate_dst (N := 20) rfl ?_); refine wpList_load_row rfl 27 (.tmp 1) rfl _ rfl 27 _ (0, 0) _ (HO.out.get 0 rfl) Try.underlying27 rfl (by kernel_rfl) ?_) | ((with_reducible refine gate_dst (N := 25) rfl ?_); refine wpList_load_row rfl 27 (.tmp 1) rfl _ rfl 27 _ (0, 0) _ (HO.out.get 0 rfl) Try.underlying27 rfl (by kernel_rfl) ?_) | ((with_reducible refine gate_dst (N := 28) rfl ?_); refine wpList_load_row rfl 33 (.tmp 6) rfl _ rfl 33 _ (0, 0) _ (HO.out.get 1 rfl) Try.underlying33 rfl (by kernel_rfl) ?_) | ((with_reducible refine gate_dst (N := 46) rfl ?_); refine wpList_load_row rfl 33 (.tmp 6) rfl _ rfl 33 _ (0, 0) _ (HO.out.get 1 rfl) Try.underlying33 rfl (by kernel_rfl) ?_) | ((with_reducible refine gate_dst (N := 74) rfl ?_); refine wpList_load_row rfl 27 (.tmp 1) rfl _ rfl 27 _ (0, 0) _ (HO.out.get 0 rfl) Try.underlying27 rfl (by kernel_rfl) ?_))
  refine (calls_of_args (by rw [H.markSS_len]) (laws_heldIntSS.calls k AG cG (H.markSS s1 1) 1 _ _ (HG'.out _ _ HG.out).1 (HG'.out _ _ HG.out).2 HHELD.out)).mono ?_
  rintro e w_ ⟨he, hd⟩
  rw [HK2.out] at he
  subst he
  replace HO := Aside0.mk (HO.out.step hd.below)
  replace HW := Aside0.mk (Kd.S_below HW.out hd.below)
  replace HG := Aside0.mk (Kd.S_below HG.out hd.below);
  clear hd
  go_wp2_with (first | ((with_reducible refine gate_dst (N := 1) rfl ?_); refine H.own_box HO.out ?hg (N := 1) ?hd (cs := #[Value.slice A0_0 l0_0.length c0_0, Value.slice A0_1 l0_1.length c0_1]) (t := 27) ?hr ?_; (case hd => rfl); (case hg => rfl); (case hr => first | (go_simp; done) | (go_simp; rfl)); intro gb0 w_ ho_ hb_; replace HO := Aside0.mk ho_; clear ho_ hb_) | ((with_reducible refine gate_dst (N := 14) rfl ?_); refine wpList_load_row rfl 27 (.tmp 1) rfl _ rfl 27 _ (0, 0) _ (HO.out.get 0 rfl) Try.underlying27 rfl (by kernel_rfl) ?_) | ((with_reducible refine gate_dst (N := 20) rfl ?_); refine wpList_load_row rfl 27 (.tmp 1) rfl _ rfl 27 _ (0, 0) _ (HO.out.get 0 rfl) Try.underlying27 rfl (by kernel_rfl) ?_) | ((with_reducible refine gate_dst (N := 25) rfl ?_); refine wpList_load_row rfl 27 (.tmp 1) rfl _ rfl 27 _ (0, 0) _ (HO.out.get 0 rfl) Try.underlying27 rfl (by kernel_rfl) ?_) | ((with_reducible refine gate_dst (N := 28) rfl ?_); refine wpList_load_row rfl 33 (.tmp 6) rfl _ rfl 33 _ (0, 0) _ (HO.out.get 1 rfl) Try.underlying33 rfl (by kernel_rfl) ?_) | ((with_reducible refine gate_dst (N := 46) rfl ?_); refine wpList_load_row rfl 33 (.tmp 6) rfl _ rfl 33 _ (0, 0) _ (HO.out.get 1 rfl) Try.underlying33 rfl (by kernel_rfl) ?_) | ((with_reducible refine gate_dst (N := 74) rfl ?_); refine wpList_load_row rfl 27 (.tmp 1) rfl _ rfl 27 _ (0, 0) _ (HO.out.get 0 rfl) Try.underlying27 rfl (by kernel_rfl) ?_))
  refine (laws_toFlow.calls k _ _ l0_0 _ _ l0_1 y0_0 y0_1 _ (Kd.C_below HR0_0.out HO.out.below) HC0_0.out (Kd.C_below HR0_1.out HO.out.below) HC0_1.out HTO0.out).mono ?_
  rintro e w_ ⟨vVy0_0, vVy0_1, rfl, hVy0_0, hVy0_1, hb⟩
  obtain ⟨AVy0_0, cVy0_0, rfl⟩ := Kd.S_slice hVy0_0
  obtain ⟨AVy0_1, cVy0_1, rfl⟩ := Kd.S_slice hVy0_1
  replace HO := Aside0.mk (HO.out.step hb)
  replace HW := Aside0.mk (Kd.S_below HW.out hb)
  replace HG := Aside0.mk (Kd.S_below HG.out hb);
  have HVy0_0 := Aside0.mk (H.S_upto hVy0_0)
  have HVy0_1 := Aside0.mk (H.S_upto hVy0_1)
  clear hb hVy0_0 hVy0_1
  go_wp2_with (first | ((with_reducible refine gate_dst (N := 1) rfl ?_); refine H.own_box HO.out ?hg (N := 1) ?hd (cs := #[Value.slice A0_0 l0_0.length c0_0, Value.slice A0_1 l0_1.length c0_1]) (t := 27) ?hr ?_; (case hd => rfl); (case hg => rfl); (case hr => first | (go_simp; done) | (go_simp; rfl)); intro gb0 w_ ho_ hb_; replace HO := Aside0.mk ho_; clear ho_ hb_) | ((with_reducible refine gate_dst (N := 14) rfl ?_); refine wpList_load_row rfl 27 (.tmp 1) rfl _ rfl 27 _ (0, 0) _ (HO.out.get 0 rfl) Try.underlying27 rfl (by kernel_rfl) ?_) | ((with_reducible refine gate_dst (N := 20) rfl ?_); refine wpList_load_row rfl 27 (.tmp 1) rfl _ rfl 27 _ (0, 0) _ (HO.out.get 0 rfl) Try.underlying27 rfl (by kernel_rfl) ?_) | ((with_reducible refine gate_dst (N := 25) rfl ?_); refine wpList_load_row rfl 27 (.tmp 1) rfl _ rfl 27 _ (0, 0) _ (HO.out.get 0 rfl) Try.underlying27 rfl (by kernel_rfl) ?_) | ((with_reducible refine gate_dst (N := 28) rfl ?_); refine wpList_load_row rfl 33 (.tmp 6) rfl _ rfl 33 _ (0, 0) _ (HO.out.get 1 rfl) Try.underlying33 rfl (by kernel_rfl) ?_) | ((with_reducible refine gate_dst (N := 46) rfl ?_); refine wpList_load_row rfl 33 (.tmp 6) rfl _ rfl 33 _ (0, 0) _ (HO.out.get 1 rfl) Try.underlying33 rfl (by kernel_rfl) ?_) | ((with_reducible refine gate_dst (N := 74) rfl ?_); refine wpList_load_row rfl 27 (.tmp 1) rfl _ rfl 27 _ (0, 0) _ (HO.out.get 0 rfl) Try.underlying27 rfl (by kernel_rfl) ?_))
  refine (impl_ClashesOf.calls _ _ y0_0 _ _ y0_1 s1 s2 _ (Kd.S_reads' HVy0_0.out).2.2 (Kd.S_reads' HVy0_0.out).2.1 (Kd.S_reads' HVy0_1.out).2.2 (Kd.S_reads' HVy0_1.out).2.1 HIMPL.out).mono ?_
  rintro e w_ ⟨vH, rfl, hs, hb⟩
  obtain ⟨AH, cH, rfl⟩ := Kd.S_slice hs
  replace HO := Aside0.mk (HO.out.step hb)
  replace HW := Aside0.mk (Kd.S_below HW.out hb)
  replace HG := Aside0.mk (Kd.S_below HG.out hb)
  replace HVy0_0 := Aside0.mk (Kd.S_below HVy0_0.out hb)
  replace HVy0_1 := Aside0.mk (Kd.S_below HVy0_1.out hb);
  have HH := Aside0.mk hs
  clear hs hb
  clear HVy0_0 HVy0_1
  go_wp2_with (first | ((with_reducible refine gate_dst (N := 1) rfl ?_); refine H.own_box HO.out ?hg (N := 1) ?hd (cs := #[Value.slice A0_0 l0_0.length c0_0, Value.slice A0_1 l0_1.length c0_1]) (t := 27) ?hr ?_; (case hd => rfl); (case hg => rfl); (case hr => first | (go_simp; done) | (go_simp; rfl)); intro gb0 w_ ho_ hb_; replace HO := Aside0.mk ho_; clear ho_ hb_) | ((with_reducible refine gate_dst (N := 14) rfl ?_); refine wpList_load_row rfl 27 (.tmp 1) rfl _ rfl 27 _ (0, 0) _ (HO.out.get 0 rfl) Try.underlying27 rfl (by kernel_rfl) ?_) | ((with_reducible refine gate_dst (N := 20) rfl ?_); refine wpList_load_row rfl 27 (.tmp 1) rfl _ rfl 27 _ (0, 0) _ (HO.out.get 0 rfl) Try.underlying27 rfl (by kernel_rfl) ?_) | ((with_reducible refine gate_dst (N := 25) rfl ?_); refine wpList_load_row rfl 27 (.tmp 1) rfl _ rfl 27 _ (0, 0) _ (HO.out.get 0 rfl) Try.underlying27 rfl (by kernel_rfl) ?_) | ((with_reducible refine gate_dst (N := 28) rfl ?_); refine wpList_load_row rfl 33 (.tmp 6) rfl _ rfl 33 _ (0, 0) _ (HO.out.get 1 rfl) Try.underlying33 rfl (by kernel_rfl) ?_) | ((with_reducible refine gate_dst (N := 46) rfl ?_); refine wpList_load_row rfl 33 (.tmp 6) rfl _ rfl 33 _ (0, 0) _ (HO.out.get 1 rfl) Try.underlying33 rfl (by kernel_rfl) ?_) | ((with_reducible refine gate_dst (N := 74) rfl ?_); refine wpList_load_row rfl 27 (.tmp 1) rfl _ rfl 27 _ (0, 0) _ (HO.out.get 0 rfl) Try.underlying27 rfl (by kernel_rfl) ?_))
  refine (laws_eqIntSS.calls k _ _ s1 _ _ s1 true _ (Kd.S_reads' HH.out).2.2 (Kd.S_reads' HH.out).2.1 (Kd.S_reads' HW.out).2.2 (Kd.S_reads' HW.out).2.1 HEQR.out).mono ?_
  rintro e w_ ⟨rfl, hd⟩
  replace HO := Aside0.mk (HO.out.step hd.below)
  replace HW := Aside0.mk (Kd.S_below HW.out hd.below)
  replace HG := Aside0.mk (Kd.S_below HG.out hd.below)
  replace HH := Aside0.mk (Kd.S_below HH.out hd.below);
  clear hd
  go_wp2_with (first | ((with_reducible refine gate_dst (N := 1) rfl ?_); refine H.own_box HO.out ?hg (N := 1) ?hd (cs := #[Value.slice A0_0 l0_0.length c0_0, Value.slice A0_1 l0_1.length c0_1]) (t := 27) ?hr ?_; (case hd => rfl); (case hg => rfl); (case hr => first | (go_simp; done) | (go_simp; rfl)); intro gb0 w_ ho_ hb_; replace HO := Aside0.mk ho_; clear ho_ hb_) | ((with_reducible refine gate_dst (N := 14) rfl ?_); refine wpList_load_row rfl 27 (.tmp 1) rfl _ rfl 27 _ (0, 0) _ (HO.out.get 0 rfl) Try.underlying27 rfl (by kernel_rfl) ?_) | ((with_reducible refine gate_dst (N := 20) rfl ?_); refine wpList_load_row rfl 27 (.tmp 1) rfl _ rfl 27 _ (0, 0) _ (HO.out.get 0 rfl) Try.underlying27 rfl (by kernel_rfl) ?_) | ((with_reducible refine gate_dst (N := 25) rfl ?_); refine wpList_load_row rfl 27 (.tmp 1) rfl _ rfl 27 _ (0, 0) _ (HO.out.get 0 rfl) Try.underlying27 rfl (by kernel_rfl) ?_) | ((with_reducible refine gate_dst (N := 28) rfl ?_); refine wpList_load_row rfl 33 (.tmp 6) rfl _ rfl 33 _ (0, 0) _ (HO.out.get 1 rfl) Try.underlying33 rfl (by kernel_rfl) ?_) | ((with_reducible refine gate_dst (N := 46) rfl ?_); refine wpList_load_row rfl 33 (.tmp 6) rfl _ rfl 33 _ (0, 0) _ (HO.out.get 1 rfl) Try.underlying33 rfl (by kernel_rfl) ?_) | ((with_reducible refine gate_dst (N := 74) rfl ?_); refine wpList_load_row rfl 27 (.tmp 1) rfl _ rfl 27 _ (0, 0) _ (HO.out.get 0 rfl) Try.underlying27 rfl (by kernel_rfl) ?_))
  refine (calls_of_args (by rw [H.markSS_len]) (laws_heldIntSS.calls k AG cG (H.markSS s1 1) 1 _ _ (HG'.out _ _ HG.out).1 (HG'.out _ _ HG.out).2 HHELD.out)).mono ?_
  rintro e w_ ⟨he, hd⟩
  rw [HK2.out] at he
  subst he
  replace HO := Aside0.mk (HO.out.step hd.below)
  replace HW := Aside0.mk (Kd.S_below HW.out hd.below)
  replace HG := Aside0.mk (Kd.S_below HG.out hd.below)
  replace HH := Aside0.mk (Kd.S_below HH.out hd.below);
  clear hd
  go_wp2_with (first | ((with_reducible refine gate_dst (N := 1) rfl ?_); refine H.own_box HO.out ?hg (N := 1) ?hd (cs := #[Value.slice A0_0 l0_0.length c0_0, Value.slice A0_1 l0_1.length c0_1]) (t := 27) ?hr ?_; (case hd => rfl); (case hg => rfl); (case hr => first | (go_simp; done) | (go_simp; rfl)); intro gb0 w_ ho_ hb_; replace HO := Aside0.mk ho_; clear ho_ hb_) | ((with_reducible refine gate_dst (N := 14) rfl ?_); refine wpList_load_row rfl 27 (.tmp 1) rfl _ rfl 27 _ (0, 0) _ (HO.out.get 0 rfl) Try.underlying27 rfl (by kernel_rfl) ?_) | ((with_reducible refine gate_dst (N := 20) rfl ?_); refine wpList_load_row rfl 27 (.tmp 1) rfl _ rfl 27 _ (0, 0) _ (HO.out.get 0 rfl) Try.underlying27 rfl (by kernel_rfl) ?_) | ((with_reducible refine gate_dst (N := 25) rfl ?_); refine wpList_load_row rfl 27 (.tmp 1) rfl _ rfl 27 _ (0, 0) _ (HO.out.get 0 rfl) Try.underlying27 rfl (by kernel_rfl) ?_) | ((with_reducible refine gate_dst (N := 28) rfl ?_); refine wpList_load_row rfl 33 (.tmp 6) rfl _ rfl 33 _ (0, 0) _ (HO.out.get 1 rfl) Try.underlying33 rfl (by kernel_rfl) ?_) | ((with_reducible refine gate_dst (N := 46) rfl ?_); refine wpList_load_row rfl 33 (.tmp 6) rfl _ rfl 33 _ (0, 0) _ (HO.out.get 1 rfl) Try.underlying33 rfl (by kernel_rfl) ?_) | ((with_reducible refine gate_dst (N := 74) rfl ?_); refine wpList_load_row rfl 27 (.tmp 1) rfl _ rfl 27 _ (0, 0) _ (HO.out.get 0 rfl) Try.underlying27 rfl (by kernel_rfl) ?_))
  go_ret
  exact ⟨rfl, HO.out.below⟩
theorem laws_FnExactClashesOf.calls (k : Nat) (A0_0 : Option Addr) (c0_0 : Nat) (l0_0 : List (List Int)) (A0_1 : Option Addr) (c0_1 : Nat) (l0_1 : List S97) (w : World) (hr0_0 : Kd.C (Kd.slice 3 (Kd.int .i64)) w A0_0 l0_0.length l0_0) (hc0_0 : l0_0.length ≤ c0_0) (hr0_1 : Kd.C k97 w A0_1 l0_1.length l0_1) (hc0_1 : l0_1.length ≤ c0_1) (h : laws_FnExactClashesOf.ok k l0_0 l0_1) :
    Calls Try.prog 10 #[.agg #[.slice A0_0 l0_0.length c0_0, .slice A0_1 l0_1.length c0_1]] w fun e w' => e = .returned (.bool true) ∧ Below w.heap.size w w' := by
  unfold laws_FnExactClashesOf.ok at h
  rcases h with h | h
  · exact laws_FnExactClashesOf.s0 k A0_0 c0_0 l0_0 A0_1 c0_1 l0_1 w hr0_0 hc0_0 hr0_1 hc0_1 h
  · exact laws_FnExactClashesOf.whole k A0_0 c0_0 l0_0 A0_1 c0_1 l0_1 w hr0_0 hc0_0 hr0_1 hc0_1 h
end Go.Proofs.Ytkfpbblaomgihaa.P

namespace Go.Proofs.Ytkfpbblaomgihaa.Q
open Go.RowKit Go.Proofs.Ytkfpbblaomgihaa.P Go.Proofs.Ytkfpbblaomgihaa.H Go.Proofs.YtkfpbblaomgihaaW.PrintWords
theorem clashesOf_of (l0_0 : List (List Int)) (l0_1 : List S97) (hl0 : Len (Len I64) l0_0 ∧ Len I64B l0_1) (core : Small l0_0 → SmallI (l0_1.map cvBlock) → ∃ (s1 : List (List Int)) (s2 : Bool), Ev (fun k => spec_ClashesOf.f k l0_0 (l0_1.map cvBlock)) (s1, s2) ∧ impl_ClashesOf.f l0_0 (l0_1.map cvBlock) = some (s1, s2) ∧ Small s1) : ∃ k, laws_FnExactClashesOf.ok k l0_0 l0_1 := by
  unfold laws_FnExactClashesOf.ok
  obtain ⟨z0, ⟨Kz0, hz0⟩, hcase0⟩ := szFlow_ev l0_0 l0_1 1048576 (by decide) (by decide) hl0.1 hl0.2
  rcases hcase0 with hneg0 | ⟨h00, h10', hs0, hb0⟩
  case inl =>
    exact ⟨Kz0, .inl (by unfold laws_FnExactClashesOf.skip0; exact ⟨z0, hz0 _ (by omega), hneg0⟩)⟩
  obtain ⟨s1, s2, ⟨Ksp, hsp⟩, him, hsm⟩ := core hs0 hb0.cv
  obtain ⟨Keq, heq⟩ := eqIntSS_ev s1 hsm
  have htot := total_small hsm
  obtain ⟨Khd, hhd⟩ := heldSS_ev s1 1 (by decide) (by omega) hsm.1
  obtain ⟨Kt0, ht0⟩ := toFlow_ev l0_0 l0_1 hs0 hb0
  obtain ⟨Ke0, he0⟩ := eqFlow_ev l0_0 (l0_1.map cvBlock) hs0 hb0.cv
  have hty0 := total_small hs0
  have hln0 := hs0.1
  have hlm0 := hb0.cv.1
  have htz0 := sumN_bound (blkLen_le hb0.cv) ((l0_1.map cvBlock).length * 2)
  have hlb0 : (l0_1.map cvBlock).length * 2 * 1048576 ≤ 2199023255552 := by omega
  refine ⟨Kz0 + Ksp + Keq + Khd + Kt0 + Ke0, .inr (?_)⟩
  unfold laws_FnExactClashesOf.good
  exact ⟨z0, l0_0, (l0_1.map cvBlock), s1, s2, hz0 _ (by omega), h00, ht0 _ (by omega), hsp _ (by omega), him, heq _ (by omega), he0 _ (by omega), by omega, hhd _ (by omega), hln0, hlm0, by omega⟩
end Go.Proofs.Ytkfpbblaomgihaa.Q

namespace Go.Proofs.Ytkfpbblaomgihaa.Q
open Go.RowKit Go.Proofs.Ytkfpbblaomgihaa.P Go.Proofs.Ytkfpbblaomgihaa.H Go.Proofs.YtkfpbblaomgihaaW.PrintWords
theorem clash_core (g : List (List Int)) (b : List S56) (hg : Small g) (hb : SmallI b) :
    ∃ (s1 : List (List Int)) (s2 : Bool), Ev (fun k => spec_ClashesOf.f k g b) (s1, s2) ∧ impl_ClashesOf.f g b = some (s1, s2) ∧ Small s1 := by
  unfold spec_ClashesOf.f impl_ClashesOf.f clashesF
  cases hG : goodF g b with
  | false =>
    refine ⟨[], false, (specGoodFlow_ev g b hg hb).bind ?_, by rw [if_neg (by simp)], small_nil⟩
    rw [hG]
    exact ev_is fun k => by rw [if_neg (by simp)]
  | true =>
    obtain ⟨L, h1, h2, h3, h4⟩ := live_all hG
    refine ⟨clashL (listsF (L.map setOf)), true, (specGoodFlow_ev g b hg hb).bind ?_, by rw [if_pos rfl, h1, Option.map_some], ?_⟩
    · rw [hG]
      exact ev_is fun k => by rw [if_pos rfl, if_pos rfl, h1, Option.map_some]
    · refine ⟨by unfold clashL clashM listsF; simp, fun r hr => ?_⟩
      unfold clashL listsF at hr
      obtain ⟨x, _, rfl⟩ := List.mem_map.1 hr
      have := listTo_len x 8
      omega
theorem clashesOf_law (g : List (List Int)) (b : List S97) (hn : g.length ≤ 9223372036854775807) (hm : b.length ≤ 9223372036854775807) (hl : Len (Len I64) g ∧ Len I64B b) : ∃ k, laws_FnExactClashesOf.ok k g b :=
  clashesOf_of g b hl (fun hg hb => clash_core g (b.map cvBlock) hg hb)
end Go.Proofs.Ytkfpbblaomgihaa.Q
