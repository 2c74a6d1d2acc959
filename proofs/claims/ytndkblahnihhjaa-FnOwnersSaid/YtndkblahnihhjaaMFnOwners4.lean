import Derived.Test.YtndkblahnihhjaaMFnOwners1
import Derived.Test.YtndkblahnihhjaaMFnOwners2
import Derived.Test.YtndkblahnihhjaaMFnOwners3
set_option linter.unusedVariables false
set_option linter.unusedSimpArgs false
set_option linter.unusedSectionVars false
namespace Go.Proofs.Ytndkblahnihhjaa.Q.B
open Go.RowKit Go.Proofs.Ytndkblahnihhjaa.P Go.Proofs.Ytndkblahnihhjaa.H Go.Proofs.YtndkblahnihhjaaW.PrintWords
theorem getD_memI {l : List Int} {m : Nat} (h : m < l.length) : l.getD m 0 ∈ l := by
  rw [List.getD_eq_getElem?_getD, List.getElem?_eq_getElem h]
  exact List.getElem_mem h
def blk (R l : List Int) (j : Nat) : Bool := decide (l.getD j 0 ∈ R) && (decide (j = 0) || decide (l.getD (j - 1) 0 < l.getD j 0))
def blkAll (R l : List Int) (i : Nat) : Bool := decide (∀ j, j < l.length → i ≤ j → blk R l j = true)
theorem blkAll_end (R l : List Int) : blkAll R l l.length = true := by
  unfold blkAll
  exact decide_eq_true (fun j h1 h2 => by omega)
theorem blkAll_step (R l : List Int) {i : Nat} (h : i < l.length) : blkAll R l i = (blk R l i && blkAll R l (i + 1)) := by
  unfold blkAll
  rw [Bool.eq_iff_iff]
  simp only [Bool.and_eq_true, decide_eq_true_eq]
  constructor
  · intro a
    exact ⟨a i h (Nat.le_refl _), fun j h1 h2 => a j h1 (by omega)⟩
  · rintro ⟨a, b⟩ j h1 h2
    by_cases e : j = i
    · subst e
      exact a
    · exact b j h1 (by omega)
section
variable {g : List (List Int)}
theorem rlAt_mem (hG : goodG g = true) (y : Int) : rlAt g y = true ↔ y ∈ listTo (reachF g 0 (-1)) 12 := by
  have hr := goodG_rows hG
  have hn1 : 1 ≤ g.length := hr.1.1
  have hn2 : g.length ≤ 12 := hr.1.2
  unfold rlAt inB
  simp only [Bool.and_eq_true, decide_eq_true_eq]
  constructor
  · rintro ⟨⟨h1, h2⟩, h3⟩
    rw [show y = ((y.toNat : Nat) : Int) by omega]
    exact (reach_bit hG (-1) (by omega)).2 h3
  · intro h
    have hy := ((listTo_reach hG y).1 h).rng hG (by decide) (by omega)
    rw [show y = ((y.toNat : Nat) : Int) by omega] at h
    exact ⟨by omega, (reach_bit hG (-1) (by omega)).1 h⟩
theorem rlF_blk (hG : goodG g = true) (l : List Int) : rlF g l = blkAll (listTo (reachF g 0 (-1)) 12) l 0 := by
  unfold rlF blkAll upB
  rw [Bool.eq_iff_iff]
  simp only [Bool.and_eq_true, decide_eq_true_eq, List.all_eq_true]
  constructor
  · rintro ⟨h1, h2⟩ j hj _
    have h3 := h2 j hj (Nat.zero_le _)
    unfold upAt at h3
    unfold blk
    rw [Bool.and_eq_true] at h3 ⊢
    exact ⟨decide_eq_true ((rlAt_mem hG _).1 (h1 _ (getD_memI hj))), h3.2⟩
  · intro h
    refine ⟨fun y hy => ?_, fun j hj _ => ?_⟩
    · obtain ⟨j, hj, e⟩ := List.getElem_of_mem hy
      have h3 := h j hj (Nat.zero_le _)
      unfold blk at h3
      rw [Bool.and_eq_true, decide_eq_true_eq, List.getD_eq_getElem?_getD, List.getElem?_eq_getElem hj] at h3
      rw [← e]
      exact (rlAt_mem hG _).2 h3.1
    · have h3 := h j hj (Nat.zero_le _)
      unfold blk at h3
      rw [Bool.and_eq_true, decide_eq_true_eq] at h3
      have h4 := (rlAt_mem hG _).2 h3.1
      unfold rlAt at h4
      rw [Bool.and_eq_true] at h4
      unfold upAt
      rw [Bool.and_eq_true]
      exact ⟨h4.1, h3.2⟩
theorem blocks_ev (hG : goodG g = true) (l : List Int) (hl : l.length ≤ 1048576) : Ev (fun k => spec_l11Blocks.f k g l) (rlF g l) := by
  rw [rlF_blk hG]
  unfold spec_l11Blocks.f
  refine (specReach_ev hG (-1)).bind ?_
  have hRl := listTo_small (reachF g 0 (-1))
  generalize listTo (reachF g 0 (-1)) 12 = R at hRl
  refine down0 (n := l.length) (p := fun i => Ev (fun k => spec_l11Blocks.l0 k l R l (l.length : Int) (i : Int)) (blkAll R l i)) ?h0 ?hs
  case h0 =>
    rw [blkAll_end]
    exact Ev.step (f := fun _ => some true) (fun k => by simp only [spec_l11Blocks.l0]; rw [if_neg (by omega)]) (Ev.now _)
  case hs =>
    intro i hi ih
    rw [blkAll_step R l hi]
    have hrd : rd l (i : Int) = l.getD i 0 := rfl
    unfold blk
    by_cases h0 : i = 0
    · subst h0
      refine Ev.step (fun k => ?_) ((has_ev R (l.getD 0 0) hRl).bind (f := fun k t => if t = true then spec_l11Blocks.l0 k l R l (l.length : Int) ((0 : Int) + 1) else some false) ?_)
      · simp only [spec_l11Blocks.l0]
        rw [if_pos (by omega), if_pos (by omega), if_pos (by omega), hrd, if_neg (by omega), w64 (by omega) (by omega)]
        rfl
      · cases decide (l.getD 0 0 ∈ R) with
        | true => exact Ev.congr (fun k => by rw [if_pos rfl]; rfl) ih
        | false => exact ev_is fun k => by rw [if_neg (by simp)]; rfl
    · have ew : wrap64 ((i : Int) - 1) = ((i - 1 : Nat) : Int) := by rw [w64 (by omega) (by omega)]; omega
      have hrd1 : rd l (wrap64 ((i : Int) - 1)) = l.getD (i - 1) 0 := by rw [ew]; rfl
      refine Ev.step (fun k => ?_) ((has_ev R (l.getD i 0) hRl).bind (f := fun k t => if t = true then (if l.getD (i - 1) 0 ≥ l.getD i 0 then some false else spec_l11Blocks.l0 k l R l (l.length : Int) ((i : Int) + 1)) else some false) ?_)
      · simp only [spec_l11Blocks.l0]
        rw [if_pos (by omega), if_pos (by omega), if_pos (by omega), hrd, if_pos (by omega), if_pos (by rw [ew]; omega), if_pos (by rw [ew]; omega), hrd1, w64 (show -9223372036854775808 ≤ (i : Int) + 1 by omega) (by omega)]
      · rw [decide_eq_false h0, Bool.false_or]
        cases decide (l.getD i 0 ∈ R) with
        | true =>
          by_cases c : l.getD (i - 1) 0 < l.getD i 0
          · rw [decide_eq_true c]
            exact Ev.congr (fun k => by rw [if_pos rfl, if_neg (by omega)]; rfl) ih
          · rw [decide_eq_false c]
            exact ev_is fun k => by rw [if_pos rfl, if_pos (by omega)]; rfl
        | false => exact ev_is fun k => by rw [if_neg (by simp)]; rfl
end
theorem rl_rng {g : List (List Int)} {l : List Int} (h : rlF g l = true) : ∀ y ∈ l, 0 ≤ y ∧ y < (g.length : Int) := by
  intro y hy
  unfold rlF at h
  rw [Bool.and_eq_true] at h
  have h1 := List.all_eq_true.1 h.1 y hy
  unfold rlAt inB at h1
  simp only [Bool.and_eq_true, decide_eq_true_eq] at h1
  omega
theorem up_srt {l : List Int} {lo hi : Int} (hu : upB l lo hi 0 = true) : Srt l := by
  refine List.pairwise_iff_getElem.2 ?_
  have hstep : ∀ j, j + 1 < l.length → l.getD j 0 < l.getD (j + 1) 0 := by
    intro j hj
    have h1 := of_decide_eq_true hu (j + 1) hj (Nat.zero_le _)
    unfold upAt at h1
    simp only [Bool.and_eq_true, Bool.or_eq_true, decide_eq_true_eq] at h1
    rcases h1.2 with h2 | h2
    · omega
    · exact h2
  intro i j hi hj hij
  have : ∀ d, i + d + 1 < l.length → l.getD i 0 < l.getD (i + d + 1) 0 := by
    intro d
    induction d with
    | zero => intro h; exact hstep i h
    | succ d ih => intro h; exact Int.lt_trans (ih (by omega)) (hstep (i + d + 1) h)
  have := this (j - i - 1) (by omega)
  rw [show i + (j - i - 1) + 1 = j by omega, List.getD_eq_getElem?_getD, List.getElem?_eq_getElem hi, List.getD_eq_getElem?_getD, List.getElem?_eq_getElem hj] at this
  exact this
theorem rl_srt {g : List (List Int)} {l : List Int} (h : rlF g l = true) : Srt l := by
  unfold rlF at h
  rw [Bool.and_eq_true] at h
  exact up_srt h.2
theorem rl_len12 {g : List (List Int)} {l : List Int} (hn : g.length ≤ 12) (h : rlF g l = true) : l.length ≤ 12 := srt_len12 (rl_srt h) (fun y hy => by have := rl_rng h y hy; omega)
end Go.Proofs.Ytndkblahnihhjaa.Q.B

namespace Go.Proofs.Ytndkblahnihhjaa.P
open Go.RowKit Go.Proofs.YtndkblahnihhjaaW.PrintWords Go.Proofs.YtndkblahnihhjaaW.PrintLast Go.Proofs.YtndkblahnihhjaaW.PrintMore
attribute [local go_sem] max2_int min2_int max_two min_two max_three min_three max_four min_four
set_option maxHeartbeats 8000000 in
set_option maxRecDepth 100000 in
theorem impl_dominators.calls (p : Addr) (A0 : Option Addr) (c0 : Nat) (g : List (List Int)) (w : World) (hp0 : w.cell? p = some (.slice A0 g.length c0)) (hr0 : Kd.C (Kd.slice 3 (Kd.int .i64)) w A0 g.length g) (hG : H.goodG g = true) :
    Calls Try.prog 54 #[.pointer (some p)] w fun e w' => ∃ gm, e = .returned (.slice (some ⟨gm, 0, none⟩) g.length g.length) ∧ H.Own w w' [(gm, H.bcells (H.domF g).flatten, 63)] := by
  have hr := H.goodG_rows hG
  have HP0 := Aside0.mk hp0
  have HR0 := Aside0.mk hr0
  have HI := Aside0.mk (show (Try.prog.info? 63).map (·.size) = some 12 by kernel_rfl)
  have HO := Aside0.mk (H.Own.nil w)
  have hn1 : 1 ≤ g.length := hr.1.1
  have hn2 : g.length ≤ 12 := hr.1.2
  have HRE := Aside0.mk (fun (W : World) (hO : Below w.heap.size w W) (wo : Int) => impl_reach.calls p A0 c0 g 0 wo W ((hO.cell (World.block_lt_of_cell? w _ HP0.out)).trans HP0.out) (Kd.C_below HR0.out hO) hG (by decide) (by omega))
  have HRL := Aside0.mk (fun wo => H.reach_len (wo := wo) hG (s := 0) (by decide) (by omega))
  have HDM := Aside0.mk (fun k b => H.matF_mat (fun b' j => (decide (j < k) || (decide (j = k) && decide (b' < b))) && H.domV g b' j) g.length)
  have HDL := Aside0.mk (fun k b => H.matF_len (fun b' j => (decide (j < k) || (decide (j = k) && decide (b' < b))) && H.domV g b' j) g.length)
  have hmk : ∀ W : World, (Instr.makeSlice 68 (.int .i64 (g.length : Int)) (.int .i64 (g.length : Int))).run Try.prog W = .ok (.slice (some ⟨W.heap.size, 0, none⟩) g.length g.length) (W.alloc (.cells (H.bcells (List.replicate g.length H.none12).flatten) 63)) := fun W => make_sets W g.length (by omega)
  clear hr hr0 hG
  go_enter Try.func54, Try.ntmps54
  go_wp2_with (first | ((with_reducible refine gate_dst (N := 13) rfl ?_); refine H.own_make HO.out ?bxg (N := 13) ?bxd (n := g.length) (cs := H.bcells (List.replicate g.length H.none12).flatten) (t := 63) ?bxr ?_; (case bxd => rfl); (case bxg => rfl); (case bxr => first | (go_simp; done) | (go_simp; rfl)); intro gs w_ ho_ hb_; clear hmk; replace HO := Aside0.mk ho_; clear ho_ hb_) | (go_at_call 62; refine (HRE.out _ HO.out.below (-1)).mono ?_; rintro e w' ⟨rfl, hb⟩; replace HO := Aside0.mk (HO.out.step hb); have hp1 := HO.out.old HP0.out; clear hb hp0) | ((with_reducible refine gate_dst (N := 4) rfl ?_); refine H.own_box HO.out ?bxg (N := 4) ?bxd (cs := H.bcells H.none12) (t := 63) ?bxr ?_; (case bxd => rfl); (case bxg => rfl); (case bxr => first | (go_simp; done) | (go_simp; rfl)); intro ga w_ ho_ hb_; clear hp1; replace HO := Aside0.mk ho_; clear ho_ hb_) | ((with_reducible refine gate_store (t := 63) (p := 4) rfl ?_); refine H.own_ball HO.out 1 (bs' := H.reachF g 0 (-1)) rfl rfl rfl rfl rfl rfl HI.out (HRL.out (-1)) ?_; intro w_ ho_ hg_; replace HO := Aside0.mk ho_; have hp1 := HO.out.old HP0.out; clear ho_ hg_))
  obtain ⟨al, hal⟩ : ∃ al, H.reachF g 0 (-1) = al := ⟨_, rfl⟩
  have HALL := HRL.out (-1)
  rw [hal] at HO HALL
  have HAL := Aside0.mk hal
  have HALN := Aside0.mk HALL
  clear hal HALL
  go_loopw [21] (fun v21 wr => ∃ k : Nat, v21 = .int .i64 k ∧ k ≤ g.length ∧ Aside0 (H.Own w wr [(gs, H.bcells (H.domTo g k 0).flatten, 63), (ga, H.bcells al, 63)])) (fun v21 _ => g.length - (intOf v21).toNat)
  case atStart => exact ⟨0, rfl, Nat.zero_le _, ⟨by rw [H.domTo_zero]; exact HO.out⟩⟩
  case round =>
    clear HO hp1
    obtain ⟨k, rfl, hk, HO⟩ := hrel
    by_cases hlt : k < g.length
    · have hk12 : (k : Int) < 12 := by omega
      have hc := HO.out.bat 1 rfl (j := k) (by rw [HALN.out]; omega)
      have HKL := Aside0.mk hlt
      have hpk := HO.out.old HP0.out
      cases hb : al.getD k false with
      | false =>
        rw [hb] at hc
        have HSK := Aside0.mk (H.domTo_skip g (k := k) (by rw [HAL.out]; exact hb))
        clear hb
        go_wp2
        go_roundw
        case rel => exact ⟨k + 1, by go_num, by omega, ⟨by rw [HSK.out]; exact HO.out⟩⟩
        case measure => simp [intOf]; omega
      | true =>
        rw [hb] at hc
        have HBK := Aside0.mk hb
        clear hb
        go_wp2_with (first | (go_at_call 62; refine (HRE.out _ HO.out.below (k : Int)).mono ?_; rintro e w' ⟨rfl, hb⟩; replace HO := Aside0.mk (HO.out.step hb); clear hb hc hpk) | ((with_reducible refine gate_dst (N := 6) rfl ?_); refine H.own_box HO.out ?bxg (N := 6) ?bxd (cs := H.bcells H.none12) (t := 63) ?bxr ?_; (case bxd => rfl); (case bxg => rfl); (case bxr => first | (go_simp; done) | (go_simp; rfl)); intro gl w_ ho_ hb_; replace HO := Aside0.mk ho_; clear ho_ hb_) | ((with_reducible refine gate_store (t := 63) (p := 6) rfl ?_); refine H.own_ball HO.out 2 (bs' := H.reachF g 0 (k : Int)) rfl rfl rfl rfl rfl rfl HI.out (HRL.out (k : Int)) ?_; intro w_ ho_ hg_; replace HO := Aside0.mk ho_; clear ho_ hg_))
        obtain ⟨lf, hlf⟩ : ∃ lf, H.reachF g 0 (k : Int) = lf := ⟨_, rfl⟩
        have hll := HRL.out (k : Int)
        rw [hlf] at HO hll
        have HLF := Aside0.mk hlf
        have HLL := Aside0.mk hll
        clear hlf hll
        go_loopw [33] (fun v33 wr => ∃ b : Nat, v33 = .int .i64 b ∧ b ≤ g.length ∧ Aside0 (H.Own w wr [(gs, H.bcells (H.domTo g k b).flatten, 63), (ga, H.bcells al, 63), (gl, H.bcells lf, 63)])) (fun v33 _ => g.length - (intOf v33).toNat)
        case atStart => exact ⟨0, rfl, Nat.zero_le _, HO⟩
        case round =>
          clear HO
          obtain ⟨b, rfl, hb, HO⟩ := hrel
          by_cases hlt2 : b < g.length
          · have hb12 : (b : Int) < 12 := by omega
            have hbg : (b : Int) < (g.length : Int) := by omega
            have HBL := Aside0.mk hlt2
            have HK12 := Aside0.mk (show k < 12 by omega)
            have HB12 := Aside0.mk (show b < 12 by omega)
            go_wp2
            replace HO := Aside0.mk HO.out.drew
            cases hx : al.getD b false with
            | false =>
              have HV := Aside0.mk (show H.domV g b k = false by unfold H.domV; rw [HAL.out, hx]; simp)
              have HX := Aside0.mk hx
              clear hx
              refine start_ (n := 15) (S := fun w' => w'.cell? ⟨ga, b, none⟩ = some (.bool false)) (ds := [14]) #[false, false, false, false, false, false, false, false, false, false, false, false, false, false, false] (by kernel_rfl) rfl rfl ((HX.out ▸ HO.out.bat 1 rfl (by rw [HALN.out]; exact HB12.out))) (fun hHeld => ?_)
              refine pure_ (i := 0) (N := some 36) (v := ?_) (a' := ?_) #[true, false, false, false, false, false, false, false, false, false, false, false, false, false, false] rfl rfl (by kernel_rfl) (fun _ _ _ h => h) (Or.inl ⟨by rfl, ?_⟩) ?_ ?_
              rotate_left
              · intro w'
                go_simp
                with_reducible rfl
              rotate_left
              · simp only [Act.put, List.setIfInBounds_toArray, List.set_cons_zero, List.set_cons_succ, i64_w, i32_w]
                rfl
              refine pure_ (i := 1) (N := some 37) (v := ?_) (a' := ?_) #[true, true, false, false, false, false, false, false, false, false, false, false, false, false, false] rfl rfl (by kernel_rfl) (fun _ _ _ h => h) (Or.inl ⟨by rfl, ?_⟩) ?_ ?_
              rotate_left
              · intro w'
                go_simp
                with_reducible rfl
              rotate_left
              · simp only [Act.put, List.setIfInBounds_toArray, List.set_cons_zero, List.set_cons_succ, i64_w, i32_w]
                rfl
              refine pure_ (i := 2) (N := some 38) (v := ?_) (a' := ?_) #[true, true, true, false, false, false, false, false, false, false, false, false, false, false, false] rfl rfl (by kernel_rfl) (fun _ _ _ h => h) (Or.inl ⟨by rfl, ?_⟩) ?_ ?_
              rotate_left
              · intro w'
                go_simp
                with_reducible rfl
              rotate_left
              · simp only [Act.put, List.setIfInBounds_toArray, List.set_cons_zero, List.set_cons_succ, i64_w, i32_w]
                rfl
              refine pure_ (i := 3) (N := some 39) (v := ?_) (a' := ?_) #[true, true, true, true, false, false, false, false, false, false, false, false, false, false, false] rfl rfl (by kernel_rfl) (fun _ _ _ h => h) (Or.inl ⟨by rfl, ?_⟩) ?_ ?_
              rotate_left
              · intro w'
                go_simp
                with_reducible rfl
              rotate_left
              · simp only [Act.put, List.setIfInBounds_toArray, List.set_cons_zero, List.set_cons_succ, i64_w, i32_w]
                rfl
              refine pure_ (i := 4) (N := some 40) (v := ?_) (a' := ?_) #[true, true, true, true, true, false, false, false, false, false, false, false, false, false, false] rfl rfl (by kernel_rfl) (fun _ _ _ h => h) (Or.inl ⟨by rfl, ?_⟩) ?_ ?_
              rotate_left
              · intro w'
                go_simp
                with_reducible rfl
              rotate_left
              · simp only [Act.put, List.setIfInBounds_toArray, List.set_cons_zero, List.set_cons_succ, i64_w, i32_w]
                rfl
              refine pure_ (i := 12) (N := some 48) (v := ?_) (a' := ?_) #[true, true, true, true, true, false, false, false, false, false, false, false, true, false, false] rfl rfl (by kernel_rfl) (fun _ _ _ h => h) (Or.inl ⟨by rfl, ?_⟩) ?_ ?_
              rotate_left
              · intro w'
                go_simp
                with_reducible rfl
              rotate_left
              · simp only [Act.put, List.setIfInBounds_toArray, List.set_cons_zero, List.set_cons_succ, i64_w, i32_w]
                rfl
              refine take_ (i := 5) (N := some 41) (v := ?_) (a' := ?_) #[true, true, true, true, true, true, false, false, false, false, false, false, true, false, false] rfl rfl (by kernel_rfl) (fun _ _ _ h => h) (Or.inl ⟨by rfl, ?_⟩) hHeld ?_ ?_
              rotate_left
              · intro w' s0
                go_simp
                with_reducible rfl
              rotate_left
              · simp only [Act.put, List.setIfInBounds_toArray, List.set_cons_zero, List.set_cons_succ, i64_w, i32_w]
                rfl
              refine pure_ (i := 6) (N := some 42) (v := ?_) (a' := ?_) #[true, true, true, true, true, true, true, false, false, false, false, false, true, false, false] rfl rfl (by kernel_rfl) (fun _ _ _ h => h) (Or.inl ⟨by rfl, ?_⟩) ?_ ?_
              rotate_left
              · intro w'
                go_simp
                with_reducible rfl
              rotate_left
              · simp only [Act.put, List.setIfInBounds_toArray, List.set_cons_zero, List.set_cons_succ, i64_w, i32_w]
                rfl
              refine pure_ (i := 7) (N := some 43) (v := undef) (a' := ?_) #[true, true, true, true, true, true, true, true, false, false, false, false, true, false, false] rfl rfl (by kernel_rfl) (fun _ _ _ h => h) (Or.inr ⟨by rfl, rfl⟩) ?_ ?_
              rotate_left
              · simp only [Act.put, List.setIfInBounds_toArray, List.set_cons_zero, List.set_cons_succ, i64_w, i32_w]
                rfl
              refine pure_ (i := 8) (N := some 44) (v := undef) (a' := ?_) #[true, true, true, true, true, true, true, true, true, false, false, false, true, false, false] rfl rfl (by kernel_rfl) (fun _ _ _ h => h) (Or.inr ⟨by rfl, rfl⟩) ?_ ?_
              rotate_left
              · simp only [Act.put, List.setIfInBounds_toArray, List.set_cons_zero, List.set_cons_succ, i64_w, i32_w]
                rfl
              refine pure_ (i := 9) (N := some 45) (v := undef) (a' := ?_) #[true, true, true, true, true, true, true, true, true, true, false, false, true, false, false] rfl rfl (by kernel_rfl) (fun _ _ _ h => h) (Or.inr ⟨by rfl, rfl⟩) ?_ ?_
              rotate_left
              · simp only [Act.put, List.setIfInBounds_toArray, List.set_cons_zero, List.set_cons_succ, i64_w, i32_w]
                rfl
              refine pure_ (i := 10) (N := some 46) (v := undef) (a' := ?_) #[true, true, true, true, true, true, true, true, true, true, true, false, true, false, false] rfl rfl (by kernel_rfl) (fun _ _ _ h => h) (Or.inr ⟨by rfl, rfl⟩) ?_ ?_
              rotate_left
              · simp only [Act.put, List.setIfInBounds_toArray, List.set_cons_zero, List.set_cons_succ, i64_w, i32_w]
                rfl
              refine pure_ (i := 11) (N := some 47) (v := ?_) (a' := ?_) #[true, true, true, true, true, true, true, true, true, true, true, true, true, false, false] rfl rfl (by kernel_rfl) (fun _ _ _ h => h) (Or.inl ⟨by rfl, ?_⟩) ?_ ?_
              rotate_left
              · intro w'
                go_simp
                with_reducible rfl
              rotate_left
              · simp only [Act.put, List.setIfInBounds_toArray, List.set_cons_zero, List.set_cons_succ, i64_w, i32_w]
                rfl
              refine pure_ (i := 13) (N := some 49) (v := ?_) (a' := ?_) #[true, true, true, true, true, true, true, true, true, true, true, true, true, true, false] rfl rfl (by kernel_rfl) (fun _ _ _ h => h) (Or.inl ⟨by rfl, ?_⟩) ?_ ?_
              rotate_left
              · intro w'
                go_simp
                with_reducible rfl
              rotate_left
              · simp only [Act.put, List.setIfInBounds_toArray, List.set_cons_zero, List.set_cons_succ, i64_w, i32_w]
                rfl
              refine last_ (i := 14) (N := none) #[true, true, true, true, true, true, true, true, true, true, true, true, true, true, true] rfl rfl (by kernel_rfl) (by decide) (fun K hK => ?_)
              refine H.own_mput_step HO.out (by rfl) 0 (n := 12) rfl (HDM.out k b) rfl rfl rfl rfl (by kernel_rfl) (by show b < (H.domTo g k b).length; rw [H.domTo, HDL.out]; exact HBL.out) HK12.out ?_
              intro w_ ho_ hg_
              replace HO := Aside0.mk ho_
              clear ho_ hg_
              refine hK.out _ _ ?_
              clear hK K
              refine done_ (by kernel_rfl) ?_
              go_wp2
              go_roundw
              case rel => exact ⟨b + 1, by go_num, by omega, ⟨by rw [← H.domTo_put g HBL.out HV.out]; exact HO.out⟩⟩
              case measure => simp [intOf]; omega
            | true =>
              cases hy : lf.getD b false with
              | true =>
                have HV := Aside0.mk (show H.domV g b k = false by unfold H.domV; rw [HAL.out, hx, HLF.out, hy]; simp)
                have HX := Aside0.mk hx
                have HY := Aside0.mk hy
                clear hx hy
                refine start_ (n := 15) (S := fun w' => w'.cell? ⟨ga, b, none⟩ = some (.bool true) ∧ w'.cell? ⟨gl, b, none⟩ = some (.bool true)) (ds := [14]) #[false, false, false, false, false, false, false, false, false, false, false, false, false, false, false] (by kernel_rfl) rfl rfl ⟨(HX.out ▸ HO.out.bat 1 rfl (by rw [HALN.out]; exact HB12.out)), (HY.out ▸ HO.out.bat 2 rfl (by rw [HLL.out]; exact HB12.out))⟩ (fun hHeld => ?_)
                refine pure_ (i := 0) (N := some 36) (v := ?_) (a' := ?_) #[true, false, false, false, false, false, false, false, false, false, false, false, false, false, false] rfl rfl (by kernel_rfl) (fun _ _ _ h => h) (Or.inl ⟨by rfl, ?_⟩) ?_ ?_
                rotate_left
                · intro w'
                  go_simp
                  with_reducible rfl
                rotate_left
                · simp only [Act.put, List.setIfInBounds_toArray, List.set_cons_zero, List.set_cons_succ, i64_w, i32_w]
                  rfl
                refine pure_ (i := 1) (N := some 37) (v := ?_) (a' := ?_) #[true, true, false, false, false, false, false, false, false, false, false, false, false, false, false] rfl rfl (by kernel_rfl) (fun _ _ _ h => h) (Or.inl ⟨by rfl, ?_⟩) ?_ ?_
                rotate_left
                · intro w'
                  go_simp
                  with_reducible rfl
                rotate_left
                · simp only [Act.put, List.setIfInBounds_toArray, List.set_cons_zero, List.set_cons_succ, i64_w, i32_w]
                  rfl
                refine pure_ (i := 2) (N := some 38) (v := ?_) (a' := ?_) #[true, true, true, false, false, false, false, false, false, false, false, false, false, false, false] rfl rfl (by kernel_rfl) (fun _ _ _ h => h) (Or.inl ⟨by rfl, ?_⟩) ?_ ?_
                rotate_left
                · intro w'
                  go_simp
                  with_reducible rfl
                rotate_left
                · simp only [Act.put, List.setIfInBounds_toArray, List.set_cons_zero, List.set_cons_succ, i64_w, i32_w]
                  rfl
                refine pure_ (i := 3) (N := some 39) (v := ?_) (a' := ?_) #[true, true, true, true, false, false, false, false, false, false, false, false, false, false, false] rfl rfl (by kernel_rfl) (fun _ _ _ h => h) (Or.inl ⟨by rfl, ?_⟩) ?_ ?_
                rotate_left
                · intro w'
                  go_simp
                  with_reducible rfl
                rotate_left
                · simp only [Act.put, List.setIfInBounds_toArray, List.set_cons_zero, List.set_cons_succ, i64_w, i32_w]
                  rfl
                refine pure_ (i := 4) (N := some 40) (v := ?_) (a' := ?_) #[true, true, true, true, true, false, false, false, false, false, false, false, false, false, false] rfl rfl (by kernel_rfl) (fun _ _ _ h => h) (Or.inl ⟨by rfl, ?_⟩) ?_ ?_
                rotate_left
                · intro w'
                  go_simp
                  with_reducible rfl
                rotate_left
                · simp only [Act.put, List.setIfInBounds_toArray, List.set_cons_zero, List.set_cons_succ, i64_w, i32_w]
                  rfl
                refine pure_ (i := 12) (N := some 48) (v := ?_) (a' := ?_) #[true, true, true, true, true, false, false, false, false, false, false, false, true, false, false] rfl rfl (by kernel_rfl) (fun _ _ _ h => h) (Or.inl ⟨by rfl, ?_⟩) ?_ ?_
                rotate_left
                · intro w'
                  go_simp
                  with_reducible rfl
                rotate_left
                · simp only [Act.put, List.setIfInBounds_toArray, List.set_cons_zero, List.set_cons_succ, i64_w, i32_w]
                  rfl
                refine take_ (i := 5) (N := some 41) (v := ?_) (a' := ?_) #[true, true, true, true, true, true, false, false, false, false, false, false, true, false, false] rfl rfl (by kernel_rfl) (fun _ _ _ h => h) (Or.inl ⟨by rfl, ?_⟩) hHeld ?_ ?_
                rotate_left
                · rintro w' ⟨s0, s1⟩
                  go_simp
                  with_reducible rfl
                rotate_left
                · simp only [Act.put, List.setIfInBounds_toArray, List.set_cons_zero, List.set_cons_succ, i64_w, i32_w]
                  rfl
                refine pure_ (i := 6) (N := some 42) (v := ?_) (a' := ?_) #[true, true, true, true, true, true, true, false, false, false, false, false, true, false, false] rfl rfl (by kernel_rfl) (fun _ _ _ h => h) (Or.inl ⟨by rfl, ?_⟩) ?_ ?_
                rotate_left
                · intro w'
                  go_simp
                  with_reducible rfl
                rotate_left
                · simp only [Act.put, List.setIfInBounds_toArray, List.set_cons_zero, List.set_cons_succ, i64_w, i32_w]
                  rfl
                refine pure_ (i := 7) (N := some 43) (v := ?_) (a' := ?_) #[true, true, true, true, true, true, true, true, false, false, false, false, true, false, false] rfl rfl (by kernel_rfl) (fun _ _ _ h => h) (Or.inl ⟨by rfl, ?_⟩) ?_ ?_
                rotate_left
                · intro w'
                  go_simp
                  with_reducible rfl
                rotate_left
                · simp only [Act.put, List.setIfInBounds_toArray, List.set_cons_zero, List.set_cons_succ, i64_w, i32_w]
                  rfl
                refine pure_ (i := 8) (N := some 44) (v := ?_) (a' := ?_) #[true, true, true, true, true, true, true, true, true, false, false, false, true, false, false] rfl rfl (by kernel_rfl) (fun _ _ _ h => h) (Or.inl ⟨by rfl, ?_⟩) ?_ ?_
                rotate_left
                · intro w'
                  go_simp
                  with_reducible rfl
                rotate_left
                · simp only [Act.put, List.setIfInBounds_toArray, List.set_cons_zero, List.set_cons_succ, i64_w, i32_w]
                  rfl
                refine take_ (i := 9) (N := some 45) (v := ?_) (a' := ?_) #[true, true, true, true, true, true, true, true, true, true, false, false, true, false, false] rfl rfl (by kernel_rfl) (fun _ _ _ h => h) (Or.inl ⟨by rfl, ?_⟩) hHeld ?_ ?_
                rotate_left
                · rintro w' ⟨s0, s1⟩
                  go_simp
                  with_reducible rfl
                rotate_left
                · simp only [Act.put, List.setIfInBounds_toArray, List.set_cons_zero, List.set_cons_succ, i64_w, i32_w]
                  rfl
                refine pure_ (i := 10) (N := some 46) (v := ?_) (a' := ?_) #[true, true, true, true, true, true, true, true, true, true, true, false, true, false, false] rfl rfl (by kernel_rfl) (fun _ _ _ h => h) (Or.inl ⟨by rfl, ?_⟩) ?_ ?_
                rotate_left
                · intro w'
                  go_simp
                  with_reducible rfl
                rotate_left
                · simp only [Act.put, List.setIfInBounds_toArray, List.set_cons_zero, List.set_cons_succ, i64_w, i32_w]
                  rfl
                refine pure_ (i := 11) (N := some 47) (v := ?_) (a' := ?_) #[true, true, true, true, true, true, true, true, true, true, true, true, true, false, false] rfl rfl (by kernel_rfl) (fun _ _ _ h => h) (Or.inl ⟨by rfl, ?_⟩) ?_ ?_
                rotate_left
                · intro w'
                  go_simp
                  with_reducible rfl
                rotate_left
                · simp only [Act.put, List.setIfInBounds_toArray, List.set_cons_zero, List.set_cons_succ, i64_w, i32_w]
                  rfl
                refine pure_ (i := 13) (N := some 49) (v := ?_) (a' := ?_) #[true, true, true, true, true, true, true, true, true, true, true, true, true, true, false] rfl rfl (by kernel_rfl) (fun _ _ _ h => h) (Or.inl ⟨by rfl, ?_⟩) ?_ ?_
                rotate_left
                · intro w'
                  go_simp
                  with_reducible rfl
                rotate_left
                · simp only [Act.put, List.setIfInBounds_toArray, List.set_cons_zero, List.set_cons_succ, i64_w, i32_w]
                  rfl
                refine last_ (i := 14) (N := none) #[true, true, true, true, true, true, true, true, true, true, true, true, true, true, true] rfl rfl (by kernel_rfl) (by decide) (fun K hK => ?_)
                refine H.own_mput_step HO.out (by rfl) 0 (n := 12) rfl (HDM.out k b) rfl rfl rfl rfl (by kernel_rfl) (by show b < (H.domTo g k b).length; rw [H.domTo, HDL.out]; exact HBL.out) HK12.out ?_
                intro w_ ho_ hg_
                replace HO := Aside0.mk ho_
                clear ho_ hg_
                refine hK.out _ _ ?_
                clear hK K
                refine done_ (by kernel_rfl) ?_
                go_wp2
                go_roundw
                case rel => exact ⟨b + 1, by go_num, by omega, ⟨by rw [← H.domTo_put g HBL.out HV.out]; exact HO.out⟩⟩
                case measure => simp [intOf]; omega
              | false =>
                have HV := Aside0.mk (show H.domV g b k = true by unfold H.domV; rw [HAL.out, hx, HLF.out, hy, HBK.out]; simp)
                have HX := Aside0.mk hx
                have HY := Aside0.mk hy
                clear hx hy
                refine start_ (n := 15) (S := fun w' => w'.cell? ⟨ga, b, none⟩ = some (.bool true) ∧ w'.cell? ⟨gl, b, none⟩ = some (.bool false)) (ds := [14]) #[false, false, false, false, false, false, false, false, false, false, false, false, false, false, false] (by kernel_rfl) rfl rfl ⟨(HX.out ▸ HO.out.bat 1 rfl (by rw [HALN.out]; exact HB12.out)), (HY.out ▸ HO.out.bat 2 rfl (by rw [HLL.out]; exact HB12.out))⟩ (fun hHeld => ?_)
                refine pure_ (i := 0) (N := some 36) (v := ?_) (a' := ?_) #[true, false, false, false, false, false, false, false, false, false, false, false, false, false, false] rfl rfl (by kernel_rfl) (fun _ _ _ h => h) (Or.inl ⟨by rfl, ?_⟩) ?_ ?_
                rotate_left
                · intro w'
                  go_simp
                  with_reducible rfl
                rotate_left
                · simp only [Act.put, List.setIfInBounds_toArray, List.set_cons_zero, List.set_cons_succ, i64_w, i32_w]
                  rfl
                refine pure_ (i := 1) (N := some 37) (v := ?_) (a' := ?_) #[true, true, false, false, false, false, false, false, false, false, false, false, false, false, false] rfl rfl (by kernel_rfl) (fun _ _ _ h => h) (Or.inl ⟨by rfl, ?_⟩) ?_ ?_
                rotate_left
                · intro w'
                  go_simp
                  with_reducible rfl
                rotate_left
                · simp only [Act.put, List.setIfInBounds_toArray, List.set_cons_zero, List.set_cons_succ, i64_w, i32_w]
                  rfl
                refine pure_ (i := 2) (N := some 38) (v := ?_) (a' := ?_) #[true, true, true, false, false, false, false, false, false, false, false, false, false, false, false] rfl rfl (by kernel_rfl) (fun _ _ _ h => h) (Or.inl ⟨by rfl, ?_⟩) ?_ ?_
                rotate_left
                · intro w'
                  go_simp
                  with_reducible rfl
                rotate_left
                · simp only [Act.put, List.setIfInBounds_toArray, List.set_cons_zero, List.set_cons_succ, i64_w, i32_w]
                  rfl
                refine pure_ (i := 3) (N := some 39) (v := ?_) (a' := ?_) #[true, true, true, true, false, false, false, false, false, false, false, false, false, false, false] rfl rfl (by kernel_rfl) (fun _ _ _ h => h) (Or.inl ⟨by rfl, ?_⟩) ?_ ?_
                rotate_left
                · intro w'
                  go_simp
                  with_reducible rfl
                rotate_left
                · simp only [Act.put, List.setIfInBounds_toArray, List.set_cons_zero, List.set_cons_succ, i64_w, i32_w]
                  rfl
                refine pure_ (i := 4) (N := some 40) (v := ?_) (a' := ?_) #[true, true, true, true, true, false, false, false, false, false, false, false, false, false, false] rfl rfl (by kernel_rfl) (fun _ _ _ h => h) (Or.inl ⟨by rfl, ?_⟩) ?_ ?_
                rotate_left
                · intro w'
                  go_simp
                  with_reducible rfl
                rotate_left
                · simp only [Act.put, List.setIfInBounds_toArray, List.set_cons_zero, List.set_cons_succ, i64_w, i32_w]
                  rfl
                refine pure_ (i := 12) (N := some 48) (v := ?_) (a' := ?_) #[true, true, true, true, true, false, false, false, false, false, false, false, true, false, false] rfl rfl (by kernel_rfl) (fun _ _ _ h => h) (Or.inl ⟨by rfl, ?_⟩) ?_ ?_
                rotate_left
                · intro w'
                  go_simp
                  with_reducible rfl
                rotate_left
                · simp only [Act.put, List.setIfInBounds_toArray, List.set_cons_zero, List.set_cons_succ, i64_w, i32_w]
                  rfl
                refine take_ (i := 5) (N := some 41) (v := ?_) (a' := ?_) #[true, true, true, true, true, true, false, false, false, false, false, false, true, false, false] rfl rfl (by kernel_rfl) (fun _ _ _ h => h) (Or.inl ⟨by rfl, ?_⟩) hHeld ?_ ?_
                rotate_left
                · rintro w' ⟨s0, s1⟩
                  go_simp
                  with_reducible rfl
                rotate_left
                · simp only [Act.put, List.setIfInBounds_toArray, List.set_cons_zero, List.set_cons_succ, i64_w, i32_w]
                  rfl
                refine pure_ (i := 6) (N := some 42) (v := ?_) (a' := ?_) #[true, true, true, true, true, true, true, false, false, false, false, false, true, false, false] rfl rfl (by kernel_rfl) (fun _ _ _ h => h) (Or.inl ⟨by rfl, ?_⟩) ?_ ?_
                rotate_left
                · intro w'
                  go_simp
                  with_reducible rfl
                rotate_left
                · simp only [Act.put, List.setIfInBounds_toArray, List.set_cons_zero, List.set_cons_succ, i64_w, i32_w]
                  rfl
                refine pure_ (i := 7) (N := some 43) (v := ?_) (a' := ?_) #[true, true, true, true, true, true, true, true, false, false, false, false, true, false, false] rfl rfl (by kernel_rfl) (fun _ _ _ h => h) (Or.inl ⟨by rfl, ?_⟩) ?_ ?_
                rotate_left
                · intro w'
                  go_simp
                  with_reducible rfl
                rotate_left
                · simp only [Act.put, List.setIfInBounds_toArray, List.set_cons_zero, List.set_cons_succ, i64_w, i32_w]
                  rfl
                refine pure_ (i := 8) (N := some 44) (v := ?_) (a' := ?_) #[true, true, true, true, true, true, true, true, true, false, false, false, true, false, false] rfl rfl (by kernel_rfl) (fun _ _ _ h => h) (Or.inl ⟨by rfl, ?_⟩) ?_ ?_
                rotate_left
                · intro w'
                  go_simp
                  with_reducible rfl
                rotate_left
                · simp only [Act.put, List.setIfInBounds_toArray, List.set_cons_zero, List.set_cons_succ, i64_w, i32_w]
                  rfl
                refine take_ (i := 9) (N := some 45) (v := ?_) (a' := ?_) #[true, true, true, true, true, true, true, true, true, true, false, false, true, false, false] rfl rfl (by kernel_rfl) (fun _ _ _ h => h) (Or.inl ⟨by rfl, ?_⟩) hHeld ?_ ?_
                rotate_left
                · rintro w' ⟨s0, s1⟩
                  go_simp
                  with_reducible rfl
                rotate_left
                · simp only [Act.put, List.setIfInBounds_toArray, List.set_cons_zero, List.set_cons_succ, i64_w, i32_w]
                  rfl
                refine pure_ (i := 10) (N := some 46) (v := ?_) (a' := ?_) #[true, true, true, true, true, true, true, true, true, true, true, false, true, false, false] rfl rfl (by kernel_rfl) (fun _ _ _ h => h) (Or.inl ⟨by rfl, ?_⟩) ?_ ?_
                rotate_left
                · intro w'
                  go_simp
                  with_reducible rfl
                rotate_left
                · simp only [Act.put, List.setIfInBounds_toArray, List.set_cons_zero, List.set_cons_succ, i64_w, i32_w]
                  rfl
                refine pure_ (i := 11) (N := some 47) (v := ?_) (a' := ?_) #[true, true, true, true, true, true, true, true, true, true, true, true, true, false, false] rfl rfl (by kernel_rfl) (fun _ _ _ h => h) (Or.inl ⟨by rfl, ?_⟩) ?_ ?_
                rotate_left
                · intro w'
                  go_simp
                  with_reducible rfl
                rotate_left
                · simp only [Act.put, List.setIfInBounds_toArray, List.set_cons_zero, List.set_cons_succ, i64_w, i32_w]
                  rfl
                refine pure_ (i := 13) (N := some 49) (v := ?_) (a' := ?_) #[true, true, true, true, true, true, true, true, true, true, true, true, true, true, false] rfl rfl (by kernel_rfl) (fun _ _ _ h => h) (Or.inl ⟨by rfl, ?_⟩) ?_ ?_
                rotate_left
                · intro w'
                  go_simp
                  with_reducible rfl
                rotate_left
                · simp only [Act.put, List.setIfInBounds_toArray, List.set_cons_zero, List.set_cons_succ, i64_w, i32_w]
                  rfl
                refine last_ (i := 14) (N := none) #[true, true, true, true, true, true, true, true, true, true, true, true, true, true, true] rfl rfl (by kernel_rfl) (by decide) (fun K hK => ?_)
                refine H.own_mput_step HO.out (by rfl) 0 (n := 12) rfl (HDM.out k b) rfl rfl rfl rfl (by kernel_rfl) (by show b < (H.domTo g k b).length; rw [H.domTo, HDL.out]; exact HBL.out) HK12.out ?_
                intro w_ ho_ hg_
                replace HO := Aside0.mk ho_
                clear ho_ hg_
                refine hK.out _ _ ?_
                clear hK K
                refine done_ (by kernel_rfl) ?_
                go_wp2
                go_roundw
                case rel => exact ⟨b + 1, by go_num, by omega, ⟨by rw [← H.domTo_put g HBL.out HV.out]; exact HO.out⟩⟩
                case measure => simp [intOf]; omega
          · have hE : b = g.length := by omega
            subst hE
            go_wp2
            go_roundw
            case rel => exact ⟨k + 1, by go_num, by omega, ⟨by rw [← H.domTo_end]; exact HO.out.take (by simp)⟩⟩
            case measure => simp [intOf]; omega
    · have hE : k = g.length := by omega
      subst hE
      go_wp2
      go_ret
      exact ⟨gs, rfl, by rw [← H.domTo_last]; exact HO.out.take (by simp)⟩
end Go.Proofs.Ytndkblahnihhjaa.P

namespace Go.Proofs.Ytndkblahnihhjaa.P
open Go.RowKit Go.Proofs.YtndkblahnihhjaaW.PrintWords Go.Proofs.YtndkblahnihhjaaW.PrintLast Go.Proofs.YtndkblahnihhjaaW.PrintMore
attribute [local go_sem] max2_int min2_int max_two min_two max_three min_three max_four min_four
set_option maxHeartbeats 8000000 in
set_option maxRecDepth 100000 in
theorem impl_preds.calls (p : Addr) (A0 : Option Addr) (c0 : Nat) (g : List (List Int)) (w : World) (hp0 : w.cell? p = some (.slice A0 g.length c0)) (hr0 : Kd.C (Kd.slice 3 (Kd.int .i64)) w A0 g.length g) (hG : H.goodG g = true) :
    Calls Try.prog 61 #[.pointer (some p)] w fun e w' => ∃ gm, e = .returned (.slice (some ⟨gm, 0, none⟩) g.length g.length) ∧ H.Own w w' [(gm, H.bcells (H.prdF g).flatten, 63)] := by
  have hr := H.goodG_rows hG
  have HP0 := Aside0.mk hp0
  have HR0 := Aside0.mk hr0
  have HROW := Aside0.mk (H.goodG_row hG)
  have HI := Aside0.mk (show (Try.prog.info? 63).map (·.size) = some 12 by kernel_rfl)
  have HO := Aside0.mk (H.Own.nil w)
  have hn1 : 1 ≤ g.length := hr.1.1
  have hn2 : g.length ≤ 12 := hr.1.2
  have HRE := Aside0.mk (fun (W : World) (hO : Below w.heap.size w W) (wo : Int) => impl_reach.calls p A0 c0 g 0 wo W ((hO.cell (World.block_lt_of_cell? w _ HP0.out)).trans HP0.out) (Kd.C_below HR0.out hO) hG (by decide) (by omega))
  have HRL := Aside0.mk (fun wo => H.reach_len (wo := wo) hG (s := 0) (by decide) (by omega))
  have HDM := Aside0.mk (fun b i => H.matF_mat (fun x j => (decide (j < b) && H.prdV g x j) || (decide (j = b) && (decide ((x : Int) ∈ (g.getD b []).take i) && (H.reachF g 0 (-1)).getD b false))) g.length)
  have HDL := Aside0.mk (fun b i => H.matF_len (fun x j => (decide (j < b) && H.prdV g x j) || (decide (j = b) && (decide ((x : Int) ∈ (g.getD b []).take i) && (H.reachF g 0 (-1)).getD b false))) g.length)
  have hmk : ∀ W : World, (Instr.makeSlice 68 (.int .i64 (g.length : Int)) (.int .i64 (g.length : Int))).run Try.prog W = .ok (.slice (some ⟨W.heap.size, 0, none⟩) g.length g.length) (W.alloc (.cells (H.bcells (List.replicate g.length H.none12).flatten) 63)) := fun W => make_sets W g.length (by omega)
  clear hr hr0 hG
  go_enter Try.func61, Try.ntmps61
  go_wp2_with (first | ((with_reducible refine gate_dst (N := 14) rfl ?_); refine H.own_make HO.out ?bxg (N := 14) ?bxd (n := g.length) (cs := H.bcells (List.replicate g.length H.none12).flatten) (t := 63) ?bxr ?_; (case bxd => rfl); (case bxg => rfl); (case bxr => first | (go_simp; done) | (go_simp; rfl)); intro gs w_ ho_ hb_; clear hmk; replace HO := Aside0.mk ho_; clear ho_ hb_) | (go_at_call 62; refine (HRE.out _ HO.out.below (-1)).mono ?_; rintro e w' ⟨rfl, hb⟩; replace HO := Aside0.mk (HO.out.step hb); have hp1 := HO.out.old HP0.out; clear hb hp0) | ((with_reducible refine gate_dst (N := 4) rfl ?_); refine H.own_box HO.out ?bxg (N := 4) ?bxd (cs := H.bcells H.none12) (t := 63) ?bxr ?_; (case bxd => rfl); (case bxg => rfl); (case bxr => first | (go_simp; done) | (go_simp; rfl)); intro ga w_ ho_ hb_; clear hp1; replace HO := Aside0.mk ho_; clear ho_ hb_) | ((with_reducible refine gate_store (t := 63) (p := 4) rfl ?_); refine H.own_ball HO.out 1 (bs' := H.reachF g 0 (-1)) rfl rfl rfl rfl rfl rfl HI.out (HRL.out (-1)) ?_; intro w_ ho_ hg_; replace HO := Aside0.mk ho_; have hp1 := HO.out.old HP0.out; clear ho_ hg_))
  obtain ⟨al, hal⟩ : ∃ al, H.reachF g 0 (-1) = al := ⟨_, rfl⟩
  have HALL := HRL.out (-1)
  rw [hal] at HO HALL
  have HAL := Aside0.mk hal
  have HALN := Aside0.mk HALL
  clear hal HALL
  go_loopw [22] (fun v22 wr => ∃ b : Nat, v22 = .int .i64 b ∧ b ≤ g.length ∧ Aside0 (H.Own w wr [(gs, H.bcells (H.prdTo g b 0).flatten, 63), (ga, H.bcells al, 63)])) (fun v22 _ => g.length - (intOf v22).toNat)
  case atStart => exact ⟨0, rfl, Nat.zero_le _, ⟨by rw [H.prdTo_zero]; exact HO.out⟩⟩
  case round =>
    clear HO hp1
    obtain ⟨b, rfl, hb, HO⟩ := hrel
    by_cases hlt : b < g.length
    · obtain ⟨ad, A1, c1, e1, hc0, hc1, hc2⟩ := at_L1 HR0.out (b : Int) (by omega) (by omega)
      subst e1
      rw [Int.toNat_natCast] at hc0
      have hrd : rd_L1 g (b : Int) = g.getD b [] := rfl
      rw [hrd] at hc0 hc1 hc2
      have hrow := HROW.out b
      have hpe := H.prdTo_end g b
      have HPP := Aside0.mk (fun i x (hx : x < g.length) (hi : i < (g.getD b []).length) (he : (g.getD b []).getD i 0 = (x : Int)) => H.prdTo_put g hx hi he (v := al.getD b false) (by rw [HAL.out]))
      generalize hrw : g.getD b [] = row at hc0 hc1 hc2 hrow hpe HPP
      have hxr := HO.out.old hc0
      have HC2 := Aside0.mk hc2
      have HRR := Aside0.mk hrow
      have HPE := Aside0.mk hpe
      have hrl := hc2.2.1
      have hb12 : (b : Int) < 12 := by omega
      have hbg : (b : Int) < (g.length : Int) := by omega
      have HB12 := Aside0.mk (show b < 12 by omega)
      clear hc0 hc1 hc2 hrow hrd hpe hrw
      go_wp2
      go_loopw [29] (fun v29 wr => ∃ i : Nat, v29 = .int .i64 i ∧ i ≤ row.length ∧ Aside0 (H.Own w wr [(gs, H.bcells (H.prdTo g b i).flatten, 63), (ga, H.bcells al, 63)])) (fun v29 _ => row.length - (intOf v29).toNat)
      case atStart => exact ⟨0, rfl, Nat.zero_le _, HO⟩
      case round =>
        clear HO hxr
        obtain ⟨i, rfl, hi, HO⟩ := hrel
        by_cases hlt2 : i < row.length
        · obtain ⟨ad2, e2, hcb⟩ := Kd.at_int HC2.out (i : Int) (by omega) (by omega)
          subst e2
          rw [Int.toNat_natCast] at hcb
          have hrd2 : rd row (i : Int) = row.getD i 0 := rfl
          rw [hrd2] at hcb
          have hby := HRR.out (row.getD i 0) (by rw [List.getD_eq_getElem?_getD, List.getElem?_eq_getElem hlt2]; exact List.getElem_mem hlt2)
          obtain ⟨x0, hx0⟩ : ∃ k : Nat, row.getD i 0 = (k : Int) := ⟨(row.getD i 0).toNat, by omega⟩
          have hput := HPP.out i x0 (by omega) hlt2 hx0
          rw [hx0] at hcb hby
          have hcx := HO.out.old hcb
          have hx12 : (x0 : Int) < (g.length : Int) := hby.2
          have HXL := Aside0.mk (show x0 < g.length by omega)
          have HPUT := Aside0.mk hput
          have hil : (i : Int) < (row.length : Int) := by omega
          clear hcb hrd2 hby hx0 hput
          go_wp2
          replace HO := Aside0.mk HO.out.drew
          obtain ⟨va, hva⟩ : ∃ va, al.getD b false = va := ⟨_, rfl⟩
          have HVA := Aside0.mk hva
          rw [hva] at HPUT
          clear hva
          refine start_ (n := 9) (S := fun w' => w'.cell? ⟨ga, b, none⟩ = some (.bool va)) (ds := [8]) #[false, false, false, false, false, false, false, false, false] (by kernel_rfl) rfl rfl ((HVA.out ▸ HO.out.bat 1 rfl (by rw [HALN.out]; exact HB12.out))) (fun hHeld => ?_)
          refine pure_ (i := 0) (N := some 33) (v := ?_) (a' := ?_) #[true, false, false, false, false, false, false, false, false] rfl rfl (by kernel_rfl) (fun _ _ _ h => h) (Or.inl ⟨by rfl, ?_⟩) ?_ ?_
          rotate_left
          · intro w'
            go_simp
            with_reducible rfl
          rotate_left
          · simp only [Act.put, List.setIfInBounds_toArray, List.set_cons_zero, List.set_cons_succ, i64_w, i32_w]
            rfl
          refine pure_ (i := 1) (N := some 34) (v := ?_) (a' := ?_) #[true, true, false, false, false, false, false, false, false] rfl rfl (by kernel_rfl) (fun _ _ _ h => h) (Or.inl ⟨by rfl, ?_⟩) ?_ ?_
          rotate_left
          · intro w'
            go_simp
            with_reducible rfl
          rotate_left
          · simp only [Act.put, List.setIfInBounds_toArray, List.set_cons_zero, List.set_cons_succ, i64_w, i32_w]
            rfl
          refine pure_ (i := 2) (N := some 35) (v := ?_) (a' := ?_) #[true, true, true, false, false, false, false, false, false] rfl rfl (by kernel_rfl) (fun _ _ _ h => h) (Or.inl ⟨by rfl, ?_⟩) ?_ ?_
          rotate_left
          · intro w'
            go_simp
            with_reducible rfl
          rotate_left
          · simp only [Act.put, List.setIfInBounds_toArray, List.set_cons_zero, List.set_cons_succ, i64_w, i32_w]
            rfl
          refine pure_ (i := 3) (N := some 36) (v := ?_) (a' := ?_) #[true, true, true, true, false, false, false, false, false] rfl rfl (by kernel_rfl) (fun _ _ _ h => h) (Or.inl ⟨by rfl, ?_⟩) ?_ ?_
          rotate_left
          · intro w'
            go_simp
            with_reducible rfl
          rotate_left
          · simp only [Act.put, List.setIfInBounds_toArray, List.set_cons_zero, List.set_cons_succ, i64_w, i32_w]
            rfl
          refine pure_ (i := 4) (N := some 37) (v := ?_) (a' := ?_) #[true, true, true, true, true, false, false, false, false] rfl rfl (by kernel_rfl) (fun _ _ _ h => h) (Or.inl ⟨by rfl, ?_⟩) ?_ ?_
          rotate_left
          · intro w'
            go_simp
            with_reducible rfl
          rotate_left
          · simp only [Act.put, List.setIfInBounds_toArray, List.set_cons_zero, List.set_cons_succ, i64_w, i32_w]
            rfl
          refine pure_ (i := 6) (N := some 39) (v := ?_) (a' := ?_) #[true, true, true, true, true, false, true, false, false] rfl rfl (by kernel_rfl) (fun _ _ _ h => h) (Or.inl ⟨by rfl, ?_⟩) ?_ ?_
          rotate_left
          · intro w'
            go_simp
            with_reducible rfl
          rotate_left
          · simp only [Act.put, List.setIfInBounds_toArray, List.set_cons_zero, List.set_cons_succ, i64_w, i32_w]
            rfl
          refine take_ (i := 5) (N := some 38) (v := ?_) (a' := ?_) #[true, true, true, true, true, true, true, false, false] rfl rfl (by kernel_rfl) (fun _ _ _ h => h) (Or.inl ⟨by rfl, ?_⟩) hHeld ?_ ?_
          rotate_left
          · intro w' s0
            go_simp
            with_reducible rfl
          rotate_left
          · simp only [Act.put, List.setIfInBounds_toArray, List.set_cons_zero, List.set_cons_succ, i64_w, i32_w]
            rfl
          refine pure_ (i := 7) (N := some 40) (v := ?_) (a' := ?_) #[true, true, true, true, true, true, true, true, false] rfl rfl (by kernel_rfl) (fun _ _ _ h => h) (Or.inl ⟨by rfl, ?_⟩) ?_ ?_
          rotate_left
          · intro w'
            go_simp
            with_reducible rfl
          rotate_left
          · simp only [Act.put, List.setIfInBounds_toArray, List.set_cons_zero, List.set_cons_succ, i64_w, i32_w]
            rfl
          refine last_ (i := 8) (N := none) #[true, true, true, true, true, true, true, true, true] rfl rfl (by kernel_rfl) (by decide) (fun K hK => ?_)
          refine H.own_mput_step HO.out (by rfl) 0 (n := 12) rfl (HDM.out b i) rfl rfl rfl rfl (by kernel_rfl) (by show x0 < (H.prdTo g b i).length; rw [H.prdTo, HDL.out]; exact HXL.out) HB12.out ?_
          intro w_ ho_ hg_
          replace HO := Aside0.mk ho_
          clear ho_ hg_
          refine hK.out _ _ ?_
          clear hK K
          refine done_ (by kernel_rfl) ?_
          go_wp2
          go_roundw
          case rel => exact ⟨i + 1, by go_num, by omega, ⟨by rw [← HPUT.out]; exact HO.out⟩⟩
          case measure => simp [intOf]; omega
        · have hE : i = row.length := by omega
          subst hE
          go_wp2
          go_roundw
          case rel => exact ⟨b + 1, by go_num, by omega, ⟨by rw [← HPE.out]; exact HO.out⟩⟩
          case measure => simp [intOf]; omega
    · have hE : b = g.length := by omega
      subst hE
      go_wp2
      go_ret
      exact ⟨gs, rfl, by rw [← H.prdTo_last]; exact HO.out.take (by simp)⟩
end Go.Proofs.Ytndkblahnihhjaa.P

namespace Go.Proofs.Ytndkblahnihhjaa.P
open Go.RowKit Go.Proofs.YtndkblahnihhjaaW.PrintWords Go.Proofs.YtndkblahnihhjaaW.PrintLast Go.Proofs.YtndkblahnihhjaaW.PrintMore
attribute [local go_sem] max2_int min2_int max_two min_two max_three min_three max_four min_four
theorem run_idx12f (w : World) (bs : List Bool) (hb : bs.length = 12) (j : Nat) (hj : j < 12) : (Instr.index 63 (.agg (bs.map Value.bool).toArray) (.int .i64 (j : Int))).run Try.prog w = .ok (.bool (bs.getD j false)) w := by
  have h0 : (0 : Int) ≤ (j : Int) := by omega
  have h1 : (j : Int) < ((12 : Nat) : Int) := by omega
  have h2 : (bs.map Value.bool)[j]? = some (.bool (bs.getD j false)) := by rw [List.getElem?_map, H.getD_some false (by omega)]; rfl
  have hi : (Try.prog.info? 4).map (·.size) = some 1 := by kernel_rfl
  obtain ⟨i, hq, hs⟩ := Option.map_eq_some_iff.1 hi
  simp [Instr.index, run_underlying Try.underlying63, run_underlying Try.underlying4, asIntOf, h0, h1, part, isAgg, sizeOf, typeInfo, hq, hs, Sem.run_bind, go_sem]
  obtain ⟨v, hv⟩ : ∃ v, bs[j]? = some v := ⟨_, List.getElem?_eq_getElem (by omega)⟩
  rw [if_pos hj, hv]
  rfl
set_option maxHeartbeats 8000000 in
set_option maxRecDepth 100000 in
theorem impl_frontiers.calls (p : Addr) (A0 : Option Addr) (c0 : Nat) (g : List (List Int)) (w : World) (hp0 : w.cell? p = some (.slice A0 g.length c0)) (hr0 : Kd.C (Kd.slice 3 (Kd.int .i64)) w A0 g.length g) (hG : H.goodG g = true) :
    Calls Try.prog 59 #[.pointer (some p)] w fun e w' => ∃ gm, e = .returned (.slice (some ⟨gm, 0, none⟩) g.length g.length) ∧ H.Own w w' [(gm, H.bcells (H.froF g).flatten, 63)] := by
  have hr := H.goodG_rows hG
  have HP0 := Aside0.mk hp0
  have HR0 := Aside0.mk hr0
  have HI := Aside0.mk (show (Try.prog.info? 63).map (·.size) = some 12 by kernel_rfl)
  have HO := Aside0.mk (H.Own.nil w)
  have hn1 : 1 ≤ g.length := hr.1.1
  have hn2 : g.length ≤ 12 := hr.1.2
  have HDO := Aside0.mk (fun (W : World) (hO : Below w.heap.size w W) => impl_dominators.calls p A0 c0 g W ((hO.cell (World.block_lt_of_cell? w _ HP0.out)).trans HP0.out) (Kd.C_below HR0.out hO) hG)
  have HPR := Aside0.mk (fun (W : World) (hO : Below w.heap.size w W) => impl_preds.calls p A0 c0 g W ((hO.cell (World.block_lt_of_cell? w _ HP0.out)).trans HP0.out) (Kd.C_below HR0.out hO) hG)
  have HDM : Aside0 (H.Mat 12 (H.domF g)) := ⟨H.matF_mat _ _⟩
  have HDL : Aside0 ((H.domF g).length = g.length) := ⟨H.matF_len _ _⟩
  have HPM : Aside0 (H.Mat 12 (H.prdF g)) := ⟨H.matF_mat _ _⟩
  have HPL : Aside0 ((H.prdF g).length = g.length) := ⟨H.matF_len _ _⟩
  have HNO := Aside0.mk (fun (x y q : Nat) (hy : y < g.length) (hq : q < 12) (h : ((H.prdF g).getD y []).getD q false = false) => H.froE_no g (x := x) hy hq h)
  have HYES := Aside0.mk (fun (x y q : Nat) (hy : y < g.length) (hq : q < 12) (hx : x < 12) (h : ((H.prdF g).getD y []).getD q false = true) => H.froE_yes g hy hq hx h)
  obtain ⟨D, hD⟩ : ∃ D, H.domF g = D := ⟨_, rfl⟩
  obtain ⟨PR, hPR⟩ : ∃ PR, H.prdF g = PR := ⟨_, rfl⟩
  rw [hD] at HDM HDL HDO HYES
  rw [hPR] at HPM HPL HPR HNO HYES
  have hmk : ∀ W : World, (Instr.makeSlice 68 (.int .i64 (g.length : Int)) (.int .i64 (g.length : Int))).run Try.prog W = .ok (.slice (some ⟨W.heap.size, 0, none⟩) g.length g.length) (W.alloc (.cells (H.bcells (List.replicate g.length H.none12).flatten) 63)) := fun W => make_sets W g.length (by omega)
  clear hr hr0 hG hD hPR
  go_enter Try.func59, Try.ntmps59
  go_wp2_with (first | ((with_reducible refine gate_dst (N := 15) rfl ?_); refine H.own_make HO.out ?bxg (N := 15) ?bxd (n := g.length) (cs := H.bcells (List.replicate g.length H.none12).flatten) (t := 63) ?bxr ?_; (case bxd => rfl); (case bxg => rfl); (case bxr => first | (go_simp; done) | (go_simp; rfl)); intro gs w_ ho_ hb_; clear hmk; replace HO := Aside0.mk ho_; clear ho_ hb_) | (go_at_call 54; refine (HDO.out _ HO.out.below).mono ?_; rintro e w' ⟨gd, rfl, ho⟩; replace HO := Aside0.mk (HO.out.join ho); clear ho hp0) | (go_at_call 61; refine (HPR.out _ HO.out.below).mono ?_; rintro e w' ⟨gq, rfl, ho⟩; replace HO := Aside0.mk (HO.out.join ho); clear ho))
  go_loopw [22] (fun v22 wr => ∃ x : Nat, v22 = .int .i64 x ∧ x ≤ g.length ∧ Aside0 (H.Own w wr [(gs, H.bcells (H.froTo g x 0 0).flatten, 63), (gd, H.bcells D.flatten, 63), (gq, H.bcells PR.flatten, 63)])) (fun v22 _ => g.length - (intOf v22).toNat)
  case atStart => exact ⟨0, rfl, Nat.zero_le _, ⟨by rw [H.froTo_zero]; exact HO.out⟩⟩
  case round =>
    clear HO
    obtain ⟨x, rfl, hx, HO⟩ := hrel
    by_cases hlt : x < g.length
    · have hxg : (x : Int) < (g.length : Int) := by omega
      have hx12 : (x : Int) < 12 := by omega
      have HX := Aside0.mk hlt
      have HRO := Aside0.mk (H.froTo_row g x)
      go_wp2
      go_loopw [27] (fun v27 wr => ∃ y : Nat, v27 = .int .i64 y ∧ y ≤ g.length ∧ Aside0 (H.Own w wr [(gs, H.bcells (H.froTo g x y 0).flatten, 63), (gd, H.bcells D.flatten, 63), (gq, H.bcells PR.flatten, 63)])) (fun v27 _ => g.length - (intOf v27).toNat)
      case atStart => exact ⟨0, rfl, Nat.zero_le _, HO⟩
      case round =>
        clear HO
        obtain ⟨y, rfl, hy, HO⟩ := hrel
        by_cases hlt2 : y < g.length
        · have hyg : (y : Int) < (g.length : Int) := by omega
          have hy12 : (y : Int) < 12 := by omega
          have HY := Aside0.mk hlt2
          have HCO := Aside0.mk (H.froTo_col g x y hlt2)
          have HYP := Aside0.mk (show y < PR.length by rw [HPL.out]; exact hlt2)
          have HYD := Aside0.mk (show y < D.length by rw [HDL.out]; exact hlt2)
          have HRW := Aside0.mk (HPM.out.row HYP.out)
          have HN2 := Aside0.mk (fun q hq h => HNO.out x y q hlt2 hq h)
          have HY2 := Aside0.mk (fun q hq h => HYES.out x y q hlt2 hq (by omega) h)
          obtain ⟨row, hrow⟩ : ∃ row, PR.getD y [] = row := ⟨_, rfl⟩
          rw [hrow] at HRW HN2 HY2
          have HROW := Aside0.mk hrow
          clear hrow
          go_wp2_with ((with_reducible refine gate_dst (N := 33) rfl ?_); refine wpList_load_mid rfl 63 (.tmp 32) rfl gq (y * 12) rfl (row.map Value.bool) _ (by rw [← HROW.out]; exact HO.out.mrange 2 (n := 12) rfl HPM.out HYP.out) Try.underlying63 rfl (by rw [List.length_map, HRW.out]; exact HI.out) ?_)
          go_loopw [34] (fun v34 wr => ∃ i : Nat, v34 = .int .i64 i ∧ i ≤ 12 ∧ Aside0 (H.Own w wr [(gs, H.bcells (H.froTo g x y i).flatten, 63), (gd, H.bcells D.flatten, 63), (gq, H.bcells PR.flatten, 63)])) (fun v34 _ => 12 - (intOf v34).toNat)
          case atStart => exact ⟨0, rfl, Nat.zero_le _, HO⟩
          case round =>
            clear HO
            obtain ⟨i, rfl, hi, HO⟩ := hrel
            by_cases hlt3 : i < 12
            · have hi12 : (i : Int) < 12 := by omega
              have hidx := run_idx12f wr row HRW.out i hlt3
              have hn := HN2.out i hlt3
              have hye := HY2.out i hlt3
              obtain ⟨bit, hbt⟩ : ∃ bit, row.getD i false = bit := ⟨_, rfl⟩
              rw [hbt] at hidx hn hye
              clear hbt
              cases bit with
              | false =>
                have HNX := Aside0.mk (H.froTo_skip g (hn rfl))
                clear hn hye
                go_wp2
                go_roundw
                case rel => exact ⟨i + 1, by go_num, by omega, ⟨by rw [HNX.out]; exact HO.out⟩⟩
                case measure => simp [intOf]; omega
              | true =>
                obtain ⟨hin, hE⟩ := hye rfl
                have hig : (i : Int) < (g.length : Int) := by omega
                have hb1 := HO.out.mat 1 (n := 12) rfl HDM.out (show i < D.length by rw [HDL.out]; exact hin) (show x < 12 by omega)
                obtain ⟨b1, hb1e⟩ : ∃ b, (D.getD i []).getD x false = b := ⟨_, rfl⟩
                rw [hb1e] at hb1 hE
                clear hn hye hin hb1e
                cases b1 with
                | false =>
                  have HNX := Aside0.mk (H.froTo_skip g (hE.trans (Bool.false_and _)))
                  clear hE
                  go_wp2
                  go_roundw
                  case rel => exact ⟨i + 1, by go_num, by omega, ⟨by rw [HNX.out]; exact HO.out⟩⟩
                  case measure => simp [intOf]; omega
                | true =>
                  rw [Bool.true_and] at hE
                  by_cases hxy : x = y
                  · have HNX := Aside0.mk (H.froTo_put g HX.out (hE.trans (by rw [decide_eq_true hxy, Bool.true_or])))
                    subst hxy
                    clear hE
                    go_wp2_with ((with_reducible refine gate_store (t := 4) (p := 65) rfl ?_); refine H.own_mput HO.out 0 (n := 12) rfl (H.froTo_mat g x x i) rfl rfl rfl rfl rfl (by kernel_rfl) (by rw [H.froTo_len]; exact HX.out) (by omega) ?_; intro w_ ho_ hg_; replace HO := Aside0.mk ho_; clear ho_ hg_)
                    go_roundw
                    case rel => exact ⟨i + 1, by go_num, by omega, ⟨by rw [← HNX.out]; exact HO.out⟩⟩
                    case measure => simp [intOf]; omega
                  · have hb2 := HO.out.mat 1 (n := 12) rfl HDM.out HYD.out (show x < 12 by omega)
                    obtain ⟨b2, hb2e⟩ : ∃ b, (D.getD y []).getD x false = b := ⟨_, rfl⟩
                    rw [hb2e] at hb2 hE
                    have hxe : ((x : Int) == (y : Int)) = false := beq_eq_false_iff_ne.2 (by omega)
                    rw [decide_eq_false hxy, Bool.false_or] at hE
                    clear hb2e hxy
                    cases b2 with
                    | true =>
                      have HNX := Aside0.mk (H.froTo_skip g hE)
                      clear hE
                      go_wp2
                      go_roundw
                      case rel => exact ⟨i + 1, by go_num, by omega, ⟨by rw [HNX.out]; exact HO.out⟩⟩
                      case measure => simp [intOf]; omega
                    | false =>
                      have HNX := Aside0.mk (H.froTo_put g HX.out hE)
                      clear hE
                      go_wp2_with ((with_reducible refine gate_store (t := 4) (p := 65) rfl ?_); refine H.own_mput HO.out 0 (n := 12) rfl (H.froTo_mat g x y i) rfl rfl rfl rfl rfl (by kernel_rfl) (by rw [H.froTo_len]; exact HX.out) (by omega) ?_; intro w_ ho_ hg_; replace HO := Aside0.mk ho_; clear ho_ hg_)
                      go_roundw
                      case rel => exact ⟨i + 1, by go_num, by omega, ⟨by rw [← HNX.out]; exact HO.out⟩⟩
                      case measure => simp [intOf]; omega
            · have hE : i = 12 := by omega
              subst hE
              go_wp2
              go_roundw
              case rel => exact ⟨y + 1, by go_num, by omega, ⟨by rw [← HCO.out]; exact HO.out⟩⟩
              case measure => simp [intOf]; omega
        · have hE : y = g.length := by omega
          subst hE
          go_wp2
          go_roundw
          case rel => exact ⟨x + 1, by go_num, by omega, ⟨by rw [← HRO.out]; exact HO.out⟩⟩
          case measure => simp [intOf]; omega
    · have hE : x = g.length := by omega
      subst hE
      go_wp2
      go_ret
      exact ⟨gs, rfl, by rw [← H.froTo_last]; exact HO.out.take (by simp)⟩
end Go.Proofs.Ytndkblahnihhjaa.P

namespace Go.Proofs.Ytndkblahnihhjaa.P
open Go.RowKit Go.Proofs.YtndkblahnihhjaaW.PrintWords Go.Proofs.YtndkblahnihhjaaW.PrintLast Go.Proofs.YtndkblahnihhjaaW.PrintMore
attribute [local go_sem] max2_int min2_int max_two min_two max_three min_three max_four min_four
set_option maxHeartbeats 8000000 in
set_option maxRecDepth 100000 in
theorem impl_joins.calls (p : Addr) (A0 : Option Addr) (c0 : Nat) (g : List (List Int)) (AL : Option Addr) (cL : Nat) (l : List Int) (w : World) (hp0 : w.cell? p = some (.slice A0 g.length c0)) (hr0 : Kd.C (Kd.slice 3 (Kd.int .i64)) w A0 g.length g) (hG : H.goodG g = true) (hrl : Kd.C (Kd.int .i64) w AL l.length l) (hcl : l.length ≤ cL) (hrng : ∀ y ∈ l, 0 ≤ y ∧ y < (g.length : Int)) (hln : l.length ≤ 12) :
    Calls Try.prog 47 #[.pointer (some p), .slice AL l.length cL] w fun e w' => e = .returned (.agg (H.bcells (Q.joinsF (Q.froL g) l))) ∧ Below w.heap.size w w' := by
  have hr := H.goodG_rows hG
  have hn1 : 1 ≤ g.length := hr.1.1
  have hn2 : g.length ≤ 12 := hr.1.2
  have HP0 := Aside0.mk hp0
  have HR0 := Aside0.mk hr0
  have HRL := Aside0.mk hrl
  have HI := Aside0.mk (show (Try.prog.info? 63).map (·.size) = some 12 by kernel_rfl)
  have HN := Aside0.mk (show H.none12.length = 12 from rfl)
  have HO := Aside0.mk (H.Own.nil w)
  have HFR := Aside0.mk (fun (W : World) (hO : Below w.heap.size w W) => impl_frontiers.calls p A0 c0 g W ((hO.cell (World.block_lt_of_cell? w _ HP0.out)).trans HP0.out) (Kd.C_below HR0.out hO) hG)
  obtain ⟨hb, hjs⟩ := Q.joins_some (Q.froL_row12 hn2) (fun y hy => ⟨(hrng y hy).1, by have := (hrng y hy).2; omega⟩) hln
  have HTY := Aside0.mk hrng
  have HMM : Aside0 (H.Mat 12 (H.froF g)) := ⟨H.matF_mat _ _⟩
  have HML : Aside0 ((H.froF g).length = g.length) := ⟨H.matF_len _ _⟩
  have HAT := Aside0.mk (fun x => Q.froL_at (g := g) x)
  have HBG := Aside0.mk (fun (x j : Nat) (hx : x < g.length) (hj : j < 12) (h : ((H.froF g).getD x []).getD j false = true) => show j < g.length by
    unfold H.froF at h
    rw [H.matF_row hx, H.rowF_get hj] at h
    unfold H.froV at h
    simp only [Bool.and_eq_true, decide_eq_true_eq] at h
    exact h.1)
  obtain ⟨M, hM⟩ : ∃ M, H.froF g = M := ⟨_, rfl⟩
  rw [hM] at HMM HML HAT HFR HBG
  generalize Q.froL g = fl at hb HAT ⊢
  generalize Q.joinsF fl l = R at hb ⊢
  have HBF := Aside0.mk hb
  have hlr := hrl.2.1
  have HOF := Aside0.mk (show l.length + H.off H.none12 ≤ 24 by have := H.off_le H.none12; have := HN.out; omega)
  clear hr hr0 hrl hp0 hG hjs hM hb hrng
  go_enter Try.func47, Try.ntmps47
  go_wp2_with (first | ((with_reducible refine gate_dst (N := 4) rfl ?_); refine H.own_box HO.out ?bxg (N := 4) ?bxd (cs := H.bcells H.none12) (t := 63) ?bxr ?_; (case bxd => rfl); (case bxg => rfl); (case bxr => first | (go_simp; done) | (go_simp; rfl)); intro ga w_ ho_ hb_; replace HO := Aside0.mk ho_; clear ho_ hb_) | ((with_reducible refine gate_dst (N := 5) rfl ?_); refine H.own_box HO.out ?bxg (N := 5) ?bxd (cs := H.bcells H.none12) (t := 63) ?bxr ?_; (case bxd => rfl); (case bxg => rfl); (case bxr => first | (go_simp; done) | (go_simp; rfl)); intro gb w_ ho_ hb_; replace HO := Aside0.mk ho_; clear ho_ hb_) | ((with_reducible refine gate_store (t := 63) (p := 5) rfl ?_); refine H.own_ball HO.out 1 (bs' := H.none12) rfl rfl rfl rfl rfl rfl HI.out rfl ?_; intro w_ ho_ hg_; replace HO := Aside0.mk ho_; clear ho_ hg_) | (go_at_call 59; refine (HFR.out _ HO.out.below).mono ?_; rintro e w' ⟨gm, rfl, ho⟩; replace HO := Aside0.mk (HO.out.join ho); clear ho) | ((with_reducible refine gate_dst (N := 13) rfl ?_); refine Kd.R_lit (Kd.int .i64) (w0 := w) w.heap.size 3 ?bxg (N := 13) ?bxd (xs := ([] : List Int)) (inner := []) (ok := fun _ => True) (okp := fun _ => True) ?bxr ?bxp (fun _ hk => hk) trivial HO.out.below HO.out.size (by simp) ?_; (case bxd => rfl); (case bxg => rfl); (case bxr => first | (go_simp; done) | (go_simp; rfl)); (case bxp => exact Reps.none _ _); intro v13 w_ ho_ hb_ hg_ hnew_; replace HO := Aside0.mk (HO.out.grown hg_ (fun k hk => by cases hk)); have HE := Aside0.mk ho_; clear ho_ hb_ hg_ hnew_) | ((with_reducible refine gate_builtin (b := .append) (xs := #[.tmp 13, .tmp 14]) rfl ?_); at_builtin; refine Kd.R_append_rows (Kd.int .i64) (w0 := w) w.heap.size rfl (.tmp 13) (.tmp 14) 32 3 (.int .i64 0) 8 rfl Try.underlying32 info3 rfl (by decide) (by omega) v13 [] l _ _ _ (fun _ => True) (fun _ => False) rfl rfl ?aO ?aR (fun _ _ h => h) (fun _ h => h.elim) ?aF ?aB ?aS ?aL ?_; (case aO => exact HE.out); (case aR => exact Kd.C_below HRL.out HO.out.below); (case aF => exact fun _ _ => trivial); (case aB => exact HO.out.below); (case aS => exact HO.out.size); (case aL => simp only [List.length_nil]; omega); intro v7 w_ ho_ hb_ hg_ hat_; replace HO := Aside0.mk (HO.out.row HE.out (Nat.le_refl _) hg_ (by simp)); rw [List.nil_append] at ho_; have HQ := Aside0.mk (Kd.Q_of_R ho_); clear ho_ hb_ hg_ hat_ HE))
  go_loopg [7] 26 (fun kq v7 wr => ∃ (todo : List Int) (out : List Bool), Aside0 (H.bfs fl (-1) kq todo out = some R) ∧ Aside0 (kq ≤ 26) ∧ Aside0 (out.length = 12) ∧ Aside0 (∀ y ∈ todo, 0 ≤ y ∧ y < (g.length : Int)) ∧ Aside0 (todo.length + H.off out ≤ 24) ∧ Aside0 ((Kd.int .i64).Q 3 wr w.heap.size (fun _ => True) v7 todo) ∧ Aside0 (H.Own w wr [(ga, H.bcells H.none12, 63), (gb, H.bcells out, 63), (gm, H.bcells M.flatten, 63)]))
  case atStart => exact ⟨l, _, HBF, ⟨Nat.le_refl _⟩, HN, HTY, HOF, HQ, HO⟩
  case round =>
    clear HO HQ HBF HOF HTY
    obtain ⟨todo, out, HA, HK, HOL, HTY, HOF, HQ, HO⟩ := hrel
    cases gk with
    | zero => exact absurd HA.out (by simp [H.bfs])
    | succ k1 =>
      cases todo with
      | nil =>
        have hA := Option.some.inj HA.out
        subst hA
        obtain ⟨Aq, cq, rfl, _⟩ := Kd.Q_slice HQ.out
        go_wp2_with (first | ((with_reducible refine gate_dst (N := 45) rfl ?_); refine wpList_load_row rfl 63 (.tmp 5) rfl _ rfl 63 _ (0, 0) _ (HO.out.get 1 rfl) Try.underlying63 rfl (by rw [H.bcells_size, HOL.out]; exact HI.out) ?_) | ((with_reducible refine gate_store (t := 63) (p := 4) rfl ?_); refine H.own_ball HO.out 0 (bs' := out) rfl rfl rfl rfl rfl rfl HI.out HOL.out ?_; intro w_ ho_ hg_; replace HO := Aside0.mk ho_; clear ho_ hg_))
        (try simp only [Exit.inBlock, Exit.then])
        refine bodyPost_ret (results_cell_row rfl _ _ ga _ (H.bcells out) (0, 0) _ rfl (HO.out.get 0 rfl) Try.underlying63 rfl (by rw [H.bcells_size, HOL.out]; exact HI.out)) rfl ?_
        exact ⟨rfl, HO.out.below⟩
      | cons x todo =>
        have hA := HA.out
        simp only [H.bfs] at hA
        have hx := HTY.out x (by simp)
        obtain ⟨x0, rfl⟩ : ∃ k : Nat, x = (k : Int) := ⟨x.toNat, by omega⟩
        rw [Int.toNat_natCast, HAT.out] at hA
        have HXM := Aside0.mk (show x0 < M.length by rw [HML.out]; omega)
        have HRW := Aside0.mk (HMM.out.row HXM.out)
        have HBN := Aside0.mk (fun j hj => HBG.out x0 j (by omega) hj)
        obtain ⟨row, hrow⟩ : ∃ row, M.getD x0 [] = row := ⟨_, rfl⟩
        rw [hrow] at hA HRW HBN
        have HROW := Aside0.mk hrow
        obtain ⟨gq, oq, cq, rfl, _, _, _⟩ := Kd.Q_form HQ.out (by simp)
        have hnp : (0 : Int) < (((x0 : Int) :: todo).length : Int) := by simp only [List.length_cons]; omega
        generalize hnq : ((x0 : Int) :: todo).length = nq at HQ HOF hnp ⊢
        have HNQ := Aside0.mk hnq
        have hnb : decide (0 < nq) = true := decide_eq_true (by omega)
        have hxq := (Kd.Q_cell 0 HQ.out 0 (by decide) (by omega)).1
        rw [show rdOf 0 ((x0 : Int) :: todo) 0 = (x0 : Int) from rfl, show oq + (0 : Int).toNat = oq from rfl] at hxq
        have HA' := Aside0.mk hA
        have hx0 : (0 : Int) ≤ (x0 : Int) := by omega
        have hx1 : (x0 : Int) < (g.length : Int) := hx.2
        clear hA HA hx hrow hnq
        go_wp2_with ((with_reducible refine gate_dst (N := 26) rfl ?_); refine wpList_load_mid rfl 63 (.tmp 25) rfl gm (x0 * 12) rfl (row.map Value.bool) _ (by rw [← HROW.out]; exact HO.out.mrange 2 (n := 12) rfl HMM.out HXM.out) Try.underlying63 rfl (by rw [List.length_map, HRW.out]; exact HI.out) ?_)
        replace HQ := Aside0.mk (show (Kd.int .i64).Q 3 wr w.heap.size (fun _ => True) (.slice (some ⟨gq, oq, none⟩) nq cq) ((x0 : Int) :: todo) from HQ.out)
        go_loopw [27, 7] (fun v27 v7 wr => ∃ (i : Nat) (out2 : List Bool) (todo2 : List Int), v27 = .int .i64 i ∧ i ≤ 12 ∧ Aside0 (H.visits (-1) (Q.lfrom row i) (out2, todo2) = H.visits (-1) (listTo row 12) (out, (x0 : Int) :: todo)) ∧ Aside0 (out2.length = 12) ∧ Aside0 (1 ≤ todo2.length ∧ ∀ y ∈ todo2, 0 ≤ y ∧ y < (g.length : Int)) ∧ Aside0 (todo2.length + H.off out2 ≤ 24) ∧ Aside0 ((Kd.int .i64).Q 3 wr w.heap.size (fun _ => True) v7 todo2) ∧ Aside0 (H.Own w wr [(ga, H.bcells H.none12, 63), (gb, H.bcells out2, 63), (gm, H.bcells M.flatten, 63)])) (fun v27 _ _ => 12 - (intOf v27).toNat)
        case atStart => exact ⟨0, out, _, rfl, Nat.zero_le _, ⟨by rw [Q.lfrom_zero]⟩, HOL, ⟨⟨by simp, HTY.out⟩⟩, ⟨by rw [HNQ.out]; exact HOF.out⟩, HQ, HO⟩
        case round =>
          clear HO HQ HOF HTY HOL hxq
          obtain ⟨i, out2, todo2, rfl, hi, HV, HOL, HTY, HOF, HQ, HO⟩ := hrel
          by_cases hlt : i < 12
          · have hv := HV.out
            rw [Q.lfrom_step row hlt] at hv
            have hi12 : (i : Int) < 12 := by omega
            have HIL := Aside0.mk hlt
            have hidx := run_idx12f wr row HRW.out i hlt
            have hbn := HBN.out i hlt
            obtain ⟨bit, hbt⟩ : ∃ bit, row.getD i false = bit := ⟨_, rfl⟩
            rw [hbt] at hidx hv hbn
            clear hbt
            cases bit with
            | false =>
              rw [if_neg (by simp)] at hv
              have HV' := Aside0.mk hv
              clear hv HV hbn
              go_wp2
              go_roundw
              case rel => exact ⟨i + 1, out2, todo2, by go_num, by omega, HV', HOL, HTY, HOF, HQ, HO⟩
              case measure => simp [intOf]; omega
            | true =>
              rw [if_pos rfl] at hv
              have hig := hbn rfl
              have hcy := HO.out.bat 1 rfl (j := i) (by rw [HOL.out]; exact hlt)
              cases hb : out2.getD i false with
              | true =>
                have hv2 : H.visits (-1) ((i : Int) :: Q.lfrom row (i + 1)) (out2, todo2) = H.visits (-1) (Q.lfrom row (i + 1)) (out2, todo2) := by
                  show H.visits (-1) _ (H.visit (-1) (out2, todo2) (i : Int)) = _
                  unfold H.visit
                  rw [if_neg (by rw [Int.toNat_natCast, hb]; simp)]
                rw [hv2] at hv
                rw [hb] at hcy
                have HV' := Aside0.mk hv
                clear hv hv2 hb HV hbn
                go_wp2
                go_roundw
                case rel => exact ⟨i + 1, out2, todo2, by go_num, by omega, HV', HOL, HTY, HOF, HQ, HO⟩
                case measure => simp [intOf]; omega
              | false =>
                rw [hb] at hcy
                have hv2 : H.visits (-1) ((i : Int) :: Q.lfrom row (i + 1)) (out2, todo2) = H.visits (-1) (Q.lfrom row (i + 1)) (out2.set i true, todo2 ++ [(i : Int)]) := by
                  show H.visits (-1) _ (H.visit (-1) (out2, todo2) (i : Int)) = _
                  unfold H.visit
                  rw [if_pos ⟨by rw [Int.toNat_natCast]; exact hb, by omega⟩, Int.toNat_natCast]
                rw [hv2] at hv
                have hoff := H.off_set (bs := out2) (j := i) (by rw [HOL.out]; exact hlt) hb
                have HV' := Aside0.mk hv
                have HOF' := Aside0.mk (show (todo2 ++ [(i : Int)]).length + H.off (out2.set i true) ≤ 24 by rw [List.length_append]; have := HOF.out; simp only [List.length_cons, List.length_nil]; omega)
                have HTY' := Aside0.mk (show 1 ≤ (todo2 ++ [(i : Int)]).length ∧ ∀ y ∈ todo2 ++ [(i : Int)], 0 ≤ y ∧ y < (g.length : Int) from ⟨by simp, fun y hy => by
                  rcases List.mem_append.1 hy with e | e
                  · exact HTY.out.2 y e
                  · rw [List.mem_singleton.1 e]; omega⟩)
                clear hv hv2 hb HV hoff hbn hig
                go_wp2_with (first | ((with_reducible refine gate_store (t := 4) (p := 39) rfl ?_); refine H.own_bput HO.out 1 rfl rfl rfl rfl rfl rfl (by kernel_rfl) (by rw [HOL.out]; exact HIL.out) ?_; intro w_ ho_ hg_; replace HQ := Aside0.mk (HO.out.keepQ 1 rfl HQ.out hg_ (by decide)); clear hcy; replace HO := Aside0.mk ho_; clear ho_ hg_) | ((with_reducible refine gate_builtin (b := .append) (xs := #[.tmp 40, .tmp 42]) rfl ?_); at_builtin; refine Kd.Q_append (Kd.int .i64) (w0 := w) w.heap.size rfl (.tmp 40) (.tmp 42) 32 3 (.int .i64 0) 8 rfl Try.underlying32 info3 rfl (by decide) (by omega) u7 todo2 (i : Int) [.int .i64 (i : Int)] (fun _ => True) (fun _ => False) rfl rfl ?aP (fun _ hk => hk.elim) ?aF ?aO ?aB ?aS ?aL ?_; (case aP => exact rfl); (case aF => exact fun _ _ => trivial); (case aO => exact HQ.out); (case aB => exact HO.out.below); (case aS => exact HO.out.size); (case aL => have := HOF.out; omega); intro v1 w_ ho_ hb_ hg_ hat_; replace HO := Aside0.mk (HO.out.rowQ HQ.out (Nat.le_refl _) hg_ (by simp)); replace HQ := Aside0.mk ho_; clear ho_ hb_ hg_ hat_))
                go_roundw
                case rel => exact ⟨i + 1, _, _, by go_num, by omega, HV', ⟨by rw [List.length_set]; exact HOL.out⟩, HTY', HOF', HQ, HO⟩
                case measure => simp [intOf]; omega
          · have hE : i = 12 := by omega
            subst hE
            have hv := HV.out
            rw [Q.lfrom_end] at hv
            have hA := HA'.out
            rw [← hv] at hA
            have HA := Aside0.mk (show H.bfs fl (-1) k1 (todo2.drop 1) out2 = some R from hA)
            have h2 := HTY.out.1
            clear hv hA HV HA'
            obtain ⟨gq2, oq2, cq2, rfl, _, _, _⟩ := Kd.Q_form HQ.out (by omega)
            obtain ⟨ti, hti, hz⟩ := Option.map_eq_some_iff.1 info3
            simp only [Prod.mk.injEq] at hz
            have hq := Kd.Q_drop (k := 1) HQ.out h2
            have hcut : ∀ W : World, (Instr.slice 32 (.slice (some ⟨gq2, oq2, none⟩) todo2.length cq2) (some (.int .i64 1)) none none).run Try.prog W = .ok (.slice (if cq2 = 1 then some ⟨gq2, oq2, none⟩ else (some (⟨gq2, oq2, none⟩ : Addr)).map (·.add (1 * (Kd.int .i64).sz))) (todo2.length - 1) (cq2 - 1)) W := cut_from 32 3 .i64 Try.underlying32 hti 1 hz.2.1 _ _ _ 1 (by decide) (by omega)
            generalize (if cq2 = 1 then some ⟨gq2, oq2, none⟩ else (some (⟨gq2, oq2, none⟩ : Addr)).map (·.add (1 * (Kd.int .i64).sz))) = A2 at hq hcut
            have HQ2 := Aside0.mk hq
            clear hq hti hz HQ
            go_wp2
            go_roundg k1
            case measure => have := HK.out; omega
            case rel => exact ⟨todo2.drop 1, out2, HA, ⟨by have := HK.out; omega⟩, HOL, ⟨fun y hy => HTY.out.2 y (List.mem_of_mem_drop hy)⟩, ⟨by have := HOF.out; rw [List.length_drop]; omega⟩, HQ2, HO⟩
end Go.Proofs.Ytndkblahnihhjaa.P

namespace Go.Proofs.Ytndkblahnihhjaa.P
open Go.RowKit Go.Proofs.YtndkblahnihhjaaW.PrintWords Go.Proofs.YtndkblahnihhjaaW.PrintLast Go.Proofs.YtndkblahnihhjaaW.PrintMore
attribute [local go_sem] max2_int min2_int max_two min_two max_three min_three max_four min_four
def setsB (g : List (List Int)) (l : List Int) : Bool := H.goodG g && (rlF g l && (decide (0 < l.length) && decide (l.getD 0 0 = 0)))
set_option maxHeartbeats 8000000 in
set_option maxRecDepth 100000 in
theorem impl_setsOk.calls (A0_0 : Option Addr) (c0_0 : Nat) (l0_0 : List (List Int)) (A1 : Option Addr) (c1 : Nat) (l1 : List Int) (w : World) (hr0_0 : Kd.C (Kd.slice 3 (Kd.int .i64)) w A0_0 l0_0.length l0_0) (hc0_0 : l0_0.length ≤ c0_0) (hr1 : Kd.C (Kd.int .i64) w A1 l1.length l1) (hc1 : l1.length ≤ c1) :
    Calls Try.prog 50 #[.agg #[.slice A0_0 l0_0.length c0_0], .slice A1 l1.length c1] w fun e w' => e = .returned (.bool (setsB l0_0 l1)) ∧ Below w.heap.size w w' := by
  unfold setsB
  have HR0 := Aside0.mk hr0_0
  have HC0 := Aside0.mk hc0_0
  have HR1 := Aside0.mk hr1
  have HC1 := Aside0.mk hc1
  have hl1 := hr1.2.1
  clear hr0_0 hc0_0 hr1 hc1
  have HO := Aside0.mk (H.Own.nil w)
  have HK := Aside0.mk (fun (W : World) (hb : Below w.heap.size w W) => impl_GoodGraph.calls A0_0 c0_0 l0_0 _ W (Kd.C_below HR0.out hb) HC0.out rfl)
  cases hgg : H.goodG l0_0 with
  | false =>
    rw [hgg] at HK
    rw [Bool.false_and]
    clear hgg
    go_enter Try.func50, Try.ntmps50
    go_wp2_with (first | ((with_reducible refine gate_dst (N := 2) rfl ?_); refine H.own_box HO.out ?bxg (N := 2) ?bxd (cs := #[Value.slice A0_0 l0_0.length c0_0]) (t := 28) ?bxr ?_; (case bxd => rfl); (case bxg => rfl); (case bxr => first | (go_simp; done) | (go_simp; rfl)); intro gp w_ ho_ hb_; replace HO := Aside0.mk ho_; clear ho_ hb_) | ((with_reducible refine gate_dst (N := 5) rfl ?_); refine wpList_load_row rfl 28 (.tmp 2) rfl _ rfl 28 _ (0, 0) _ (HO.out.get 0 rfl) Try.underlying28 rfl (by kernel_rfl) ?_) | (go_at_call 45; refine (HK.out _ HO.out.below).mono ?_; rintro e w' ⟨rfl, hb⟩; replace HO := Aside0.mk (HO.out.step hb); clear hb))
    go_ret
    exact ⟨rfl, HO.out.below⟩
  | true =>
    rw [hgg] at HK
    rw [Bool.true_and]
    have HG := Aside0.mk hgg
    have HRA := Aside0.mk (fun (p : Addr) (W : World) (hb : Below w.heap.size w W) (hp : W.cell? p = some (.slice A0_0 l0_0.length c0_0)) => impl_reachedList.calls p A0_0 c0_0 l0_0 A1 c1 l1 W hp (Kd.C_below HR0.out hb) HG.out (Kd.C_below HR1.out hb) HC1.out)
    clear hgg
    cases ha : rlF l0_0 l1 with
    | false =>
      rw [ha] at HRA
      rw [Bool.false_and]
      clear ha
      go_enter Try.func50, Try.ntmps50
      go_wp2_with (first | ((with_reducible refine gate_dst (N := 2) rfl ?_); refine H.own_box HO.out ?bxg (N := 2) ?bxd (cs := #[Value.slice A0_0 l0_0.length c0_0]) (t := 28) ?bxr ?_; (case bxd => rfl); (case bxg => rfl); (case bxr => first | (go_simp; done) | (go_simp; rfl)); intro gp w_ ho_ hb_; replace HO := Aside0.mk ho_; clear ho_ hb_) | ((with_reducible refine gate_dst (N := 5) rfl ?_); refine wpList_load_row rfl 28 (.tmp 2) rfl _ rfl 28 _ (0, 0) _ (HO.out.get 0 rfl) Try.underlying28 rfl (by kernel_rfl) ?_) | (go_at_call 45; refine (HK.out _ HO.out.below).mono ?_; rintro e w' ⟨rfl, hb⟩; replace HO := Aside0.mk (HO.out.step hb); clear hb) | (go_at_call 46; refine (HRA.out _ _ HO.out.below (HO.out.cell 0 rfl 0)).mono ?_; rintro e w' ⟨rfl, hb⟩; replace HO := Aside0.mk (HO.out.step hb); clear hb))
      go_ret
      exact ⟨rfl, HO.out.below⟩
    | true =>
      rw [ha] at HRA
      rw [Bool.true_and]
      clear ha
      by_cases h0 : 0 < l1.length
      · obtain ⟨ad, e1, hc⟩ := Kd.at_int HR1.out 0 (by omega) (by omega)
        subst e1
        rw [show ad.add (Int.toNat 0) = ad by cases ad; rfl] at hc
        have hd : rd l1 0 = l1.getD 0 0 := rfl
        rw [hd] at hc
        rw [decide_eq_true h0, Bool.true_and]
        have h0' : (l1.length : Int) > 0 := by omega
        have HCC := Aside0.mk hc
        clear hd h0 hc
        by_cases hz : l1.getD 0 0 = 0
        · rw [decide_eq_true hz]
          rw [hz] at HCC
          clear hz
          go_enter Try.func50, Try.ntmps50
          go_wp2_with (first | ((with_reducible refine gate_dst (N := 2) rfl ?_); refine H.own_box HO.out ?bxg (N := 2) ?bxd (cs := #[Value.slice A0_0 l0_0.length c0_0]) (t := 28) ?bxr ?_; (case bxd => rfl); (case bxg => rfl); (case bxr => first | (go_simp; done) | (go_simp; rfl)); intro gp w_ ho_ hb_; replace HO := Aside0.mk ho_; clear ho_ hb_) | ((with_reducible refine gate_dst (N := 5) rfl ?_); refine wpList_load_row rfl 28 (.tmp 2) rfl _ rfl 28 _ (0, 0) _ (HO.out.get 0 rfl) Try.underlying28 rfl (by kernel_rfl) ?_) | (go_at_call 45; refine (HK.out _ HO.out.below).mono ?_; rintro e w' ⟨rfl, hb⟩; replace HO := Aside0.mk (HO.out.step hb); clear hb) | (go_at_call 46; refine (HRA.out _ _ HO.out.below (HO.out.cell 0 rfl 0)).mono ?_; rintro e w' ⟨rfl, hb⟩; replace HO := Aside0.mk (HO.out.step hb); have hcc := HO.out.old HCC.out; clear hb))
          go_ret
          exact ⟨rfl, HO.out.below⟩
        · rw [decide_eq_false hz]
          generalize l1.getD 0 0 = y at HCC hz
          have hz2 : (y == 0) = false := beq_eq_false_iff_ne.2 hz
          clear hz
          go_enter Try.func50, Try.ntmps50
          go_wp2_with (first | ((with_reducible refine gate_dst (N := 2) rfl ?_); refine H.own_box HO.out ?bxg (N := 2) ?bxd (cs := #[Value.slice A0_0 l0_0.length c0_0]) (t := 28) ?bxr ?_; (case bxd => rfl); (case bxg => rfl); (case bxr => first | (go_simp; done) | (go_simp; rfl)); intro gp w_ ho_ hb_; replace HO := Aside0.mk ho_; clear ho_ hb_) | ((with_reducible refine gate_dst (N := 5) rfl ?_); refine wpList_load_row rfl 28 (.tmp 2) rfl _ rfl 28 _ (0, 0) _ (HO.out.get 0 rfl) Try.underlying28 rfl (by kernel_rfl) ?_) | (go_at_call 45; refine (HK.out _ HO.out.below).mono ?_; rintro e w' ⟨rfl, hb⟩; replace HO := Aside0.mk (HO.out.step hb); clear hb) | (go_at_call 46; refine (HRA.out _ _ HO.out.below (HO.out.cell 0 rfl 0)).mono ?_; rintro e w' ⟨rfl, hb⟩; replace HO := Aside0.mk (HO.out.step hb); have hcc := HO.out.old HCC.out; clear hb))
          go_ret
          exact ⟨rfl, HO.out.below⟩
      · rw [decide_eq_false h0, Bool.false_and]
        have h0' : ¬ (l1.length : Int) > 0 := by omega
        clear h0
        go_enter Try.func50, Try.ntmps50
        go_wp2_with (first | ((with_reducible refine gate_dst (N := 2) rfl ?_); refine H.own_box HO.out ?bxg (N := 2) ?bxd (cs := #[Value.slice A0_0 l0_0.length c0_0]) (t := 28) ?bxr ?_; (case bxd => rfl); (case bxg => rfl); (case bxr => first | (go_simp; done) | (go_simp; rfl)); intro gp w_ ho_ hb_; replace HO := Aside0.mk ho_; clear ho_ hb_) | ((with_reducible refine gate_dst (N := 5) rfl ?_); refine wpList_load_row rfl 28 (.tmp 2) rfl _ rfl 28 _ (0, 0) _ (HO.out.get 0 rfl) Try.underlying28 rfl (by kernel_rfl) ?_) | (go_at_call 45; refine (HK.out _ HO.out.below).mono ?_; rintro e w' ⟨rfl, hb⟩; replace HO := Aside0.mk (HO.out.step hb); clear hb) | (go_at_call 46; refine (HRA.out _ _ HO.out.below (HO.out.cell 0 rfl 0)).mono ?_; rintro e w' ⟨rfl, hb⟩; replace HO := Aside0.mk (HO.out.step hb); clear hb))
        go_ret
        exact ⟨rfl, HO.out.below⟩
end Go.Proofs.Ytndkblahnihhjaa.P

namespace Go.Proofs.Ytndkblahnihhjaa.P
open Go.RowKit Go.Proofs.YtndkblahnihhjaaW.PrintWords Go.Proofs.YtndkblahnihhjaaW.PrintLast Go.Proofs.YtndkblahnihhjaaW.PrintMore
attribute [local go_sem] max2_int min2_int max_two min_two max_three min_three max_four min_four
def impl_JoinsOf.f (l0_0 : List (List Int)) (l1 : List Int) : Option (List Int × Bool) := some (if setsB l0_0 l1 then (listTo (Q.joinsF (Q.froL l0_0) l1) 12, true) else ([], false))
set_option maxHeartbeats 8000000 in
set_option maxRecDepth 100000 in
theorem impl_JoinsOf.calls (A0_0 : Option Addr) (c0_0 : Nat) (l0_0 : List (List Int)) (A1 : Option Addr) (c1 : Nat) (l1 : List Int) (r1 : List Int) (r2 : Bool) (w : World) (hr0_0 : Kd.C (Kd.slice 3 (Kd.int .i64)) w A0_0 l0_0.length l0_0) (hc0_0 : l0_0.length ≤ c0_0) (hr1 : Kd.C (Kd.int .i64) w A1 l1.length l1) (hc1 : l1.length ≤ c1) (h : impl_JoinsOf.f l0_0 l1 = some (r1, r2)) :
    Calls Try.prog 15 #[.agg #[.slice A0_0 l0_0.length c0_0], .slice A1 l1.length c1] w fun e w' => ∃ v0_ : Value, e = .returned (.tuple #[v0_, .bool r2]) ∧ (Kd.int .i64).R 3 w' w.heap.size (fun _ => True) v0_ r1 ∧ Below w.heap.size w w' := by
  replace h := Option.some.inj h
  have HR0 := Aside0.mk hr0_0
  have HC0 := Aside0.mk hc0_0
  have HR1 := Aside0.mk hr1
  have HC1 := Aside0.mk hc1
  have hl64 := hr1.2.1
  clear hr0_0 hc0_0 hr1 hc1
  have HO := Aside0.mk (H.Own.nil w)
  have HSO := Aside0.mk (fun (W : World) (hb : Below w.heap.size w W) => impl_setsOk.calls A0_0 c0_0 l0_0 A1 c1 l1 W (Kd.C_below HR0.out hb) HC0.out (Kd.C_below HR1.out hb) HC1.out)
  cases hsb : setsB l0_0 l1 with
  | false =>
    rw [hsb, if_neg (by simp), Prod.mk.injEq] at h
    obtain ⟨rfl, rfl⟩ := h
    rw [hsb] at HSO
    clear hsb
    go_enter Try.func15, Try.ntmps15
    go_wp2_with (first | ((with_reducible refine gate_dst (N := 2) rfl ?_); refine H.own_box HO.out ?bxg (N := 2) ?bxd (cs := #[Value.slice A0_0 l0_0.length c0_0]) (t := 28) ?bxr ?_; (case bxd => rfl); (case bxg => rfl); (case bxr => first | (go_simp; done) | (go_simp; rfl)); intro gp w_ ho_ hb_; replace HO := Aside0.mk ho_; clear ho_ hb_) | ((with_reducible refine gate_dst (N := 7) rfl ?_); refine wpList_load_row rfl 28 (.tmp 2) rfl _ rfl 28 _ (0, 0) _ (HO.out.get 0 rfl) Try.underlying28 rfl (by kernel_rfl) ?_) | (go_at_call 50; refine (HSO.out _ HO.out.below).mono ?_; rintro e w' ⟨rfl, hb⟩; replace HO := Aside0.mk (HO.out.step hb); clear hb))
    go_ret2
    exact ⟨_, rfl, Kd.R_nil _ _ _ _ _, HO.out.below⟩
  | true =>
    rw [hsb, if_pos rfl, Prod.mk.injEq] at h
    obtain ⟨rfl, rfl⟩ := h
    rw [hsb] at HSO
    have hs := hsb
    unfold setsB at hs
    rw [Bool.and_eq_true, Bool.and_eq_true] at hs
    have hg := hs.1
    have hr := H.goodG_rows hg
    have hn1 : 1 ≤ l0_0.length := hr.1.1
    have hn2 : l0_0.length ≤ 12 := hr.1.2
    have HG := Aside0.mk hg
    have hrn := Q.B.rl_rng hs.2.1
    have hln := Q.B.rl_len12 hn2 hs.2.1
    have HRN := Aside0.mk hrn
    have HI := Aside0.mk (show (Try.prog.info? 63).map (·.size) = some 12 by kernel_rfl)
    have HJN := Aside0.mk (fun (p : Addr) (W : World) (hb : Below w.heap.size w W) (hp : W.cell? p = some (.slice A0_0 l0_0.length c0_0)) => impl_joins.calls p A0_0 c0_0 l0_0 A1 c1 l1 W hp (Kd.C_below HR0.out hb) HG.out (Kd.C_below HR1.out hb) HC1.out hrn hln)
    have HJL := Aside0.mk (Q.joins_some (fl := Q.froL l0_0) (l := l1) (Q.froL_row12 hn2) (fun y hy => ⟨(hrn y hy).1, by have := (hrn y hy).2; omega⟩) hln).2.len
    clear hs hg hr hrn hsb
    obtain ⟨J, hJ⟩ : ∃ J, Q.joinsF (Q.froL l0_0) l1 = J := ⟨_, rfl⟩
    rw [hJ] at HJN HJL ⊢
    clear hJ
    obtain ⟨fin, hfin⟩ : ∃ fin, listTo J 12 = fin := ⟨_, rfl⟩
    have HFIN := Aside0.mk hfin
    rw [hfin]
    clear hfin
    go_enter Try.func15, Try.ntmps15
    go_wp2_with (first | ((with_reducible refine gate_dst (N := 2) rfl ?_); refine H.own_box HO.out ?bxg (N := 2) ?bxd (cs := #[Value.slice A0_0 l0_0.length c0_0]) (t := 28) ?bxr ?_; (case bxd => rfl); (case bxg => rfl); (case bxr => first | (go_simp; done) | (go_simp; rfl)); intro gp w_ ho_ hb_; replace HO := Aside0.mk ho_; clear ho_ hb_) | ((with_reducible refine gate_dst (N := 7) rfl ?_); refine wpList_load_row rfl 28 (.tmp 2) rfl _ rfl 28 _ (0, 0) _ (HO.out.get 0 rfl) Try.underlying28 rfl (by kernel_rfl) ?_) | (go_at_call 50; refine (HSO.out _ HO.out.below).mono ?_; rintro e w' ⟨rfl, hb⟩; replace HO := Aside0.mk (HO.out.step hb); clear hb) | (go_at_call 47; refine (HJN.out _ _ HO.out.below (HO.out.cell 0 rfl 0)).mono ?_; rintro e w' ⟨rfl, hb⟩; replace HO := Aside0.mk (HO.out.step hb); clear hb) | ((with_reducible refine gate_dst (N := 6) rfl ?_); refine H.own_box HO.out ?bxg (N := 6) ?bxd (cs := H.bcells H.none12) (t := 63) ?bxr ?_; (case bxd => rfl); (case bxg => rfl); (case bxr => first | (go_simp; done) | (go_simp; rfl)); intro gs w_ ho_ hb_; replace HO := Aside0.mk ho_; clear ho_ hb_) | ((with_reducible refine gate_store (t := 63) (p := 6) rfl ?_); refine H.own_ball HO.out 1 (bs' := J) rfl rfl rfl rfl rfl rfl HI.out HJL.out ?_; intro w_ ho_ hg_; replace HO := Aside0.mk ho_; clear ho_ hg_) | (go_at_call 51; refine (impl_list.calls gs 0 J _ (HO.out.brange 1 rfl) HJL.out).mono ?_; rw [HFIN.out]; rintro e w' ⟨v0, rfl, hv, hb⟩; have HV := Aside0.mk (Kd.R_lower hv HO.out.size); replace HO := Aside0.mk (HO.out.step hb); clear hv hb))
    go_ret2
    exact ⟨_, rfl, HV.out, HO.out.below⟩
end Go.Proofs.Ytndkblahnihhjaa.P

