-- Written by a program of this session (wip/plug.py) out of Lean's print of the translation.
import Derived.Test.YtclkajdafinccaaP0
namespace Go.Proofs.Ytclkajdafinccaa.P
open Go.RowKit Go.Proofs.YtclkajdafinccaaW.PrintWords Go.Proofs.YtclkajdafinccaaW.PrintLast Go.Proofs.YtclkajdafinccaaW.PrintMore
attribute [local go_sem] max2_int min2_int max_two min_two max_three min_three max_four min_four   -- for this text's walks alone
set_option linter.unusedVariables false
set_option linter.unusedSimpArgs false

/-! ### impl_treeFrom: function 87 -/
/-- A tree of sums. -/
inductive Tr where
  | leaf (op num at_ : Int)
  | node (op num at_ : Int) (a b : Tr)

/-- A tree in memory, its root at block p, all of it from block B on. -/
def TreeAt (B : Nat) (W : World) : Nat → Tr → Prop
  | p, .leaf op num at_ => B ≤ p ∧ W.heap[p]? = some (.cells #[.int .i64 op, .int .i64 num, .int .i64 at_, .pointer none, .pointer none] 106 (0, 0))
  | p, .node op num at_ a b => ∃ pa pb, B ≤ p ∧ W.heap[p]? = some (.cells #[.int .i64 op, .int .i64 num, .int .i64 at_, .pointer (some ⟨pa, 0, none⟩), .pointer (some ⟨pb, 0, none⟩)] 106 (0, 0)) ∧ TreeAt B W pa a ∧ TreeAt B W pb b

theorem TreeAt.keep {B : Nat} {W W' : World} (hk : ∀ q, B ≤ q → q < W.heap.size → W'.heap[q]? = W.heap[q]?) : ∀ {p : Nat} {t : Tr}, TreeAt B W p t → TreeAt B W' p t
  | _, .leaf .., h => ⟨h.1, (hk _ h.1 (blk_lt h.2)).trans h.2⟩
  | _, .node .., h => by
    obtain ⟨pa, pb, h0, h, ha, hbb⟩ := h
    exact ⟨pa, pb, h0, (hk _ h0 (blk_lt h)).trans h, ha.keep hk, hbb.keep hk⟩

theorem TreeAt.below {B : Nat} {W W' : World} (hb : Below W.heap.size W W') {p : Nat} {t : Tr} (h : TreeAt B W p t) : TreeAt B W' p t := h.keep fun q _ hq => hb.block q hq

theorem TreeAt.lower {B B' : Nat} {W : World} (hb : B' ≤ B) : ∀ {p : Nat} {t : Tr}, TreeAt B W p t → TreeAt B' W p t
  | _, .leaf .., h => ⟨Nat.le_trans hb h.1, h.2⟩
  | _, .node .., h => by
    obtain ⟨pa, pb, h0, h, ha, hbb⟩ := h
    exact ⟨pa, pb, Nat.le_trans hb h0, h, ha.lower hb, hbb.lower hb⟩

theorem TreeAt.set {B : Nat} {W : World} {g j : Nat} (hg : g < B) (u : Value) {p : Nat} {t : Tr} (h : TreeAt B W p t) : TreeAt B (W.setCell ⟨g, j, none⟩ u) p t :=
  h.keep fun q hq _ => Below.heap_setCell W ⟨g, j, none⟩ u q (by show q ≠ g; omega)

/-- What the cells from a place on tell: a tree, and where it ends. -/
def readT (l : List S78) : Nat → Nat → Option (Tr × Nat)
  | 0, _ => none
  | k + 1, i => if i < l.length then
      (if (l.getD i z78).f0 = 1 ∧ -1000 ≤ (l.getD i z78).f1 ∧ (l.getD i z78).f1 ≤ 1000 then some (.leaf (l.getD i z78).f0 (l.getD i z78).f1 i, i + 1)
       else if (2 ≤ (l.getD i z78).f0 ∧ (l.getD i z78).f0 ≤ 4) ∧ (l.getD i z78).f1 = 0 then
        (match readT l k (i + 1) with
          | none => none
          | some (a, e) => match readT l k e with
            | none => none
            | some (b, e') => some (.node (l.getD i z78).f0 (l.getD i z78).f1 i a b, e'))
       else none)
    else none

theorem readT_gt {l : List S78} : ∀ {k i : Nat} {t : Tr} {e : Nat}, readT l k i = some (t, e) → i < e ∧ e ≤ l.length
  | 0, _, _, _, h => by simp [readT] at h
  | k + 1, i, t, e, h => by
    unfold readT at h
    split at h
    · split at h
      · simp only [Option.some.injEq, Prod.mk.injEq] at h
        omega
      · split at h
        · split at h
          · simp at h
          · rename_i a e1 h1
            split at h
            · simp at h
            · rename_i b e2 h2
              simp only [Option.some.injEq, Prod.mk.injEq] at h
              have := readT_gt h1
              have := readT_gt h2
              omega
        · simp at h
    · simp at h

/-- What treeFrom hands back. -/
def TreePost (w w' : World) (e : Ending) : Option (Tr × Nat) → Prop
  | none => ∃ v : Int, e = .returned (.tuple #[.pointer none, .int .i64 v])
  | some (t, n) => ∃ p : Nat, e = .returned (.tuple #[.pointer (some ⟨p, 0, none⟩), .int .i64 n]) ∧ TreeAt w.heap.size w' p t

set_option maxHeartbeats 8000000 in
set_option maxRecDepth 100000 in
theorem impl_treeFrom.calls (A0 : Option Addr) (c0 : Nat) (l0 : List (S78)) (hc0 : l0.length ≤ c0) : ∀ (k i : Nat) (w : World) (_ : Kd.C k78 w A0 l0.length l0) (_ : l0.length < i + k) (_ : i ≤ l0.length),
    Calls Try.prog 87 #[.slice A0 l0.length c0, .int .i64 i] w fun e w' => Below w.heap.size w w' ∧ TreePost w w' e (readT l0 k i) := by
  intro k
  induction k with
  | zero => intro i w _ h1 h2; omega
  | succ k ih =>
    intro i w hr hk hi
    have IH := Aside0.mk ih
    have HR := Aside0.mk hr
    have hn := hr.2.1
    clear ih hr
    by_cases hlt : i < l0.length
    · obtain ⟨ad, e, h0, h1⟩ := at_T78 HR.out (i : Int) (by omega) (by omega)
      cases e
      rw [Int.toNat_natCast] at h0 h1
      have hx : rd_T78 l0 (i : Int) = l0.getD i z78 := rfl
      have HR1 : readT l0 (k + 1) i = (if (l0.getD i z78).f0 = 1 ∧ -1000 ≤ (l0.getD i z78).f1 ∧ (l0.getD i z78).f1 ≤ 1000 then some (.leaf (l0.getD i z78).f0 (l0.getD i z78).f1 i, i + 1)
       else if (2 ≤ (l0.getD i z78).f0 ∧ (l0.getD i z78).f0 ≤ 4) ∧ (l0.getD i z78).f1 = 0 then
        (match readT l0 k (i + 1) with
          | none => none
          | some (a, e) => match readT l0 k e with
            | none => none
            | some (b, e') => some (.node (l0.getD i z78).f0 (l0.getD i z78).f1 i a b, e'))
       else none) := by
        conv => lhs; unfold readT
        rw [if_pos hlt]
      rw [hx] at h0 h1
      clear hx
      rw [HR1]
      clear HR1
      generalize l0.getD i z78 = x at h0 h1 ⊢
      obtain ⟨op, num⟩ := x
      simp only at h0 h1 ⊢
      have hd : decide (l0.length ≤ i) = false := decide_eq_false (by omega)
      by_cases hA : op = 1 ∧ -1000 ≤ num ∧ num ≤ 1000
      · rw [if_pos hA]
        obtain ⟨rfl, hA1, hA2⟩ := hA
        go_enter Try.func87, Try.ntmps87
        go_wp2_with fail
        go_still_tail 12, (by kernel_rfl)
        show wpList _ _ _ _ _ w.drew
        refine box_event ?hg (N := 27) ?hd (cs := #[.int .i64 1, .int .i64 num, .int .i64 i, .pointer none, .pointer none]) (t := 106) ?hr ?_
        case hd => rfl
        case hg => rfl
        case hr => first | (go_simp; done) | (go_simp; rfl)
        intro gb hg w6 hbox hb
        have hc0 : w6.cell? ⟨gb, 0, none⟩ = some (.int .i64 1) := (blk_cell hbox 0).trans rfl
        have hc1 : w6.cell? ⟨gb, 1, none⟩ = some (.int .i64 num) := (blk_cell hbox 1).trans rfl
        have BK := Aside0.mk hbox
        have HB := Aside0.mk (show Below w.heap.size w w6 from ((Below.refl w.heap.size w).drew).trans hb)
        have HG := Aside0.mk hg
        clear hbox hb hg
        go_wp2
        go_ret2
        exact ⟨HB.out, gb, rfl, by rw [HG.out]; exact Nat.le_refl _, BK.out⟩
      · rw [if_neg hA]
        by_cases hB : (2 ≤ op ∧ op ≤ 4) ∧ num = 0
        · rw [if_pos hB]
          obtain ⟨⟨hB1, hB2⟩, rfl⟩ := hB
          obtain ⟨rr, hrr⟩ : ∃ rr, (match readT l0 k (i + 1) with
            | none => none
            | some (a, e) => match readT l0 k e with
              | none => none
              | some (b, e') => some (Tr.node op 0 (i : Int) a b, e')) = rr := ⟨_, rfl⟩
          rw [hrr]
          have HRR := Aside0.mk hrr
          clear hrr
          have hB3 : (op == 1) = false := beq_eq_false_iff_ne.2 (by omega)
          clear hA
          go_enter Try.func87, Try.ntmps87
          go_wp2_with fail
          go_still_tail 12, (by kernel_rfl)
          show wpList _ _ _ _ _ w.drew
          refine box_event ?hg (N := 27) ?hd (cs := #[.int .i64 op, .int .i64 0, .int .i64 i, .pointer none, .pointer none]) (t := 106) ?hr ?_
          case hd => rfl
          case hg => rfl
          case hr => first | (go_simp; done) | (go_simp; rfl)
          intro gb hg w6 hbox hb
          have hc0 : w6.cell? ⟨gb, 0, none⟩ = some (.int .i64 op) := (blk_cell hbox 0).trans rfl
          have hc1 : w6.cell? ⟨gb, 1, none⟩ = some (.int .i64 0) := (blk_cell hbox 1).trans rfl
          have BK := Aside0.mk hbox
          have HB := Aside0.mk (show Below w.heap.size w w6 from ((Below.refl w.heap.size w).drew).trans hb)
          have HG := Aside0.mk hg
          clear hbox hb hg
          have hs3 : w6.frozen? ⟨gb, 3, none⟩ = false := blk_frozen BK.out 3
          have hs4 : w6.frozen? ⟨gb, 4, none⟩ = false := blk_frozen BK.out 4
          go_wp2
          go_region
          go_wp2_with fail
          generalize hw8 : (w6.alloc (Obj.cells #[Value.pointer (some ⟨gb, 3, none⟩), Value.pointer (some ⟨gb, 4, none⟩)] 124)).drew = w8
          have hb8 : Below w6.heap.size w6 w8 := by subst hw8; exact (below_alloc (Below.refl _ _) _).drew
          have hk8 : w8.heap[w6.heap.size]? = some (.cells #[Value.pointer (some ⟨gb, 3, none⟩), Value.pointer (some ⟨gb, 4, none⟩)] 124 (0, 0)) := by subst hw8; exact blk_new _ _
          have bk8 := (hb8.block _ (blk_lt BK.out)).trans BK.out
          have hgk : gb < w6.heap.size := blk_lt BK.out
          have HB8 := Aside0.mk (HB.out.trans (hb8.mono HB.out.size))
          generalize w6.heap.size = gk at hk8 hgk ⊢
          have hk0 : w8.cell? ⟨gk, 0, none⟩ = some (.pointer (some ⟨gb, 3, none⟩)) := (blk_cell hk8 0).trans rfl
          clear hw8 hb8 BK HB hc0 hc1 hs3 hs4 hB3 h0 h1
          have BK8 := Aside0.mk bk8
          have HK8 := Aside0.mk hk8
          clear bk8 hk8
          have hlt8 := blk_lt HK8.out
          refine wp_loop_rounds 3 ?_
          rw [rounds_succ]
          go_wp2_with fail
          refine Calls.mono (show Calls _ _ #[_, .int .i64 ((i : Int) + 1)] _ _ from IH.out (i + 1) w8 (Kd.C_below HR.out HB8.out) (by omega) (by omega)) ?_
          rintro e w9 ⟨hb9, hp9⟩
          have HB9 := Aside0.mk hb9
          have hz9 := hb9.size
          have bk9 := (hb9.block _ (blk_lt BK8.out)).trans BK8.out
          have hk9 := (hb9.block _ (blk_lt HK8.out)).trans HK8.out
          have hs3 : w9.frozen? ⟨gb, 3, none⟩ = false := blk_frozen bk9 3
          have hs3c : w9.cell? ⟨gb, 3, none⟩ = some (.pointer none) := (blk_cell bk9 3).trans rfl
          have BK9 := Aside0.mk bk9
          have HK9 := Aside0.mk hk9
          clear hb9 bk9 hk9 hk0
          cases hR : readT l0 k (i + 1) with
          | none =>
            have HRe := Aside0.mk hR
            rw [hR] at hp9
            clear hR
            obtain ⟨v, rfl⟩ := hp9
            go_wp2
            go_ret2
            refine ⟨(HB8.out.trans (HB9.out.mono HB8.out.size)).setCell (by rw [HG.out]; exact Nat.le_refl _) _, ?_⟩
            rw [← HRR.out, HRe.out]
            exact ⟨_, rfl⟩
          | some te =>
            have HRe := Aside0.mk hR
            obtain ⟨a, e1⟩ := te
            have hgt := readT_gt hR
            rw [hR] at hp9
            clear hR
            obtain ⟨pa, rfl, ht⟩ := hp9
            have HT := Aside0.mk (TreeAt.set (g := gb) (j := 3) (by omega) (.pointer (some ⟨pa, 0, none⟩)) ht)
            clear ht
            go_wp2_with fail
            generalize hw10 : w9.setCell ⟨gb, 3, none⟩ (.pointer (some ⟨pa, 0, none⟩)) = w10 at HT ⊢
            have hB10 : Below w.heap.size w w10 := by subst hw10; exact (HB8.out.trans (HB9.out.mono HB8.out.size)).setCell (by rw [HG.out]; exact Nat.le_refl _) _
            have hz10 : w10.heap.size = w9.heap.size := by subst hw10; simp [World.setCell]
            have bk10 : w10.heap[gb]? = some (.cells #[.int .i64 op, .int .i64 0, .int .i64 i, .pointer (some ⟨pa, 0, none⟩), .pointer none] 106 (0, 0)) := by subst hw10; simpa using blk_set BK9.out 3 (.pointer (some ⟨pa, 0, none⟩))
            have hk10 : w10.heap[gk]? = some (.cells #[Value.pointer (some ⟨gb, 3, none⟩), Value.pointer (some ⟨gb, 4, none⟩)] 124 (0, 0)) := by subst hw10; exact (Below.heap_setCell w9 ⟨gb, 3, none⟩ _ gk (by show gk ≠ gb; omega)).trans HK9.out
            have hk1 : w10.cell? ⟨gk, 1, none⟩ = some (.pointer (some ⟨gb, 4, none⟩)) := (blk_cell hk10 1).trans rfl
            clear hw10 hs3 hs3c
            have HB10 := Aside0.mk hB10
            have BK10 := Aside0.mk bk10
            clear hB10 bk10 hk10
            rw [rounds_succ]
            go_wp2_with fail
            refine Calls.mono (IH.out e1 w10 (Kd.C_below HR.out HB10.out) (by omega) (by omega)) ?_
            rintro e w11 ⟨hb11, hp11⟩
            have HB11 := Aside0.mk (HB10.out.trans (hb11.mono HB10.out.size))
            have hT11 := TreeAt.below hb11 HT.out
            have bk11 := (hb11.block _ (blk_lt BK10.out)).trans BK10.out
            have hz11 := hb11.size
            have hs4 : w11.frozen? ⟨gb, 4, none⟩ = false := blk_frozen bk11 4
            have hs4c : w11.cell? ⟨gb, 4, none⟩ = some (.pointer none) := (blk_cell bk11 4).trans rfl
            have BK11 := Aside0.mk bk11
            have HT11 := Aside0.mk hT11
            clear hb11 bk11 hk1 hT11 HT
            cases hR2 : readT l0 k e1 with
            | none =>
              have HRf := Aside0.mk hR2
              rw [hR2] at hp11
              clear hR2
              obtain ⟨v, rfl⟩ := hp11
              go_wp2
              go_ret2
              refine ⟨HB11.out.setCell (by rw [HG.out]; exact Nat.le_refl _) _, ?_⟩
              rw [← HRR.out, HRe.out]
              simp only
              rw [HRf.out]
              exact ⟨_, rfl⟩
            | some te =>
              have HRf := Aside0.mk hR2
              obtain ⟨b, e2⟩ := te
              have hgt2 := readT_gt hR2
              rw [hR2] at hp11
              clear hR2
              obtain ⟨pb, rfl, ht⟩ := hp11
              have HTb := Aside0.mk (TreeAt.set (g := gb) (j := 4) (by omega) (.pointer (some ⟨pb, 0, none⟩)) ht)
              have HTa := Aside0.mk (TreeAt.set (g := gb) (j := 4) (by omega) (.pointer (some ⟨pb, 0, none⟩)) HT11.out)
              clear ht HT11
              go_wp2_with fail
              generalize hw12 : w11.setCell ⟨gb, 4, none⟩ (.pointer (some ⟨pb, 0, none⟩)) = w12 at HTa HTb ⊢
              have hB12 : Below w.heap.size w w12 := by subst hw12; exact HB11.out.setCell (by rw [HG.out]; exact Nat.le_refl _) _
              have bk12 : w12.heap[gb]? = some (.cells #[.int .i64 op, .int .i64 0, .int .i64 i, .pointer (some ⟨pa, 0, none⟩), .pointer (some ⟨pb, 0, none⟩)] 106 (0, 0)) := by subst hw12; simpa using blk_set BK11.out 4 (.pointer (some ⟨pb, 0, none⟩))
              clear hw12 hs4 hs4c
              have HB12 := Aside0.mk hB12
              have BK12 := Aside0.mk bk12
              clear hB12 bk12
              have hz6 := HB8.out.size
              have hzA : w.heap.size ≤ w8.heap.size := HB8.out.size
              have hzB : w.heap.size ≤ w10.heap.size := HB10.out.size
              clear hz6
              rw [rounds_succ]
              go_wp2
              go_ret2
              refine ⟨HB12.out, ?_⟩
              rw [← HRR.out, HRe.out]
              simp only
              rw [HRf.out]
              exact ⟨gb, rfl, pa, pb, by rw [HG.out]; exact Nat.le_refl _, BK12.out, HTa.out.lower hzA, HTb.out.lower hzB⟩
        · rw [if_neg hB]
          by_cases e1 : op = 1
          · have e2 : (op == 1) = true := beq_iff_eq.2 e1
            have e3 : num < -1000 ∨ 1000 < num := by omega
            clear hA hB
            subst e1
            go_enter Try.func87, Try.ntmps87
            go_wp2_with fail
            go_still_tail 12, (by kernel_rfl)
            show wpList _ _ _ _ _ w.drew
            refine box_event ?hg (N := 27) ?hd (cs := #[.int .i64 1, .int .i64 num, .int .i64 i, .pointer none, .pointer none]) (t := 106) ?hr ?_
            case hd => rfl
            case hg => rfl
            case hr => first | (go_simp; done) | (go_simp; rfl)
            intro gb hg w6 hbox hb
            have hc0 : w6.cell? ⟨gb, 0, none⟩ = some (.int .i64 1) := (blk_cell hbox 0).trans rfl
            have hc1 : w6.cell? ⟨gb, 1, none⟩ = some (.int .i64 num) := (blk_cell hbox 1).trans rfl
            have BK := Aside0.mk hbox
            have HB := Aside0.mk (show Below w.heap.size w w6 from ((Below.refl w.heap.size w).drew).trans hb)
            have HG := Aside0.mk hg
            clear hbox hb hg
            go_wp2
            all_goals (go_ret2; exact ⟨HB.out, _, rfl⟩)
          · have e2 : (op == 1) = false := beq_eq_false_iff_ne.2 e1
            have e3 : op < 2 ∨ 4 < op ∨ num ≠ 0 := by omega
            clear hA hB e1
            go_enter Try.func87, Try.ntmps87
            go_wp2_with fail
            go_still_tail 12, (by kernel_rfl)
            show wpList _ _ _ _ _ w.drew
            refine box_event ?hg (N := 27) ?hd (cs := #[.int .i64 op, .int .i64 num, .int .i64 i, .pointer none, .pointer none]) (t := 106) ?hr ?_
            case hd => rfl
            case hg => rfl
            case hr => first | (go_simp; done) | (go_simp; rfl)
            intro gb hg w6 hbox hb
            have hc0 : w6.cell? ⟨gb, 0, none⟩ = some (.int .i64 op) := (blk_cell hbox 0).trans rfl
            have hc1 : w6.cell? ⟨gb, 1, none⟩ = some (.int .i64 num) := (blk_cell hbox 1).trans rfl
            have BK := Aside0.mk hbox
            have HB := Aside0.mk (show Below w.heap.size w w6 from ((Below.refl w.heap.size w).drew).trans hb)
            have HG := Aside0.mk hg
            clear hbox hb hg
            go_wp2
            all_goals (go_ret2; exact ⟨HB.out, _, rfl⟩)
    · go_enter Try.func87, Try.ntmps87
      go_wp2
      go_ret2
      refine ⟨Below.refl _ _, ?_⟩
      unfold readT
      rw [if_neg hlt]
      exact ⟨_, rfl⟩

end Go.Proofs.Ytclkajdafinccaa.P
