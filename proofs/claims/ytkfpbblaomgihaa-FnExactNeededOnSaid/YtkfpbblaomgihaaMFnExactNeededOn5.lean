import Derived.Test.YtkfpbblaomgihaaMFnExactNeededOn1
import Derived.Test.YtkfpbblaomgihaaMFnExactNeededOn2
import Derived.Test.YtkfpbblaomgihaaMFnExactNeededOn3
import Derived.Test.YtkfpbblaomgihaaMFnExactNeededOn4
/- Numbers and rows of numbers: what the laws' own helpers come to. -/
namespace Go.Proofs.Ytkfpbblaomgihaa.Q
open Go.RowKit Go.Proofs.Ytkfpbblaomgihaa.P Go.Proofs.Ytkfpbblaomgihaa.H Go.Proofs.YtkfpbblaomgihaaW.PrintWords
set_option linter.unusedVariables false

theorem toIntS_ev (l : List Int) (hl : l.length ≤ 1048576) : Ev (fun k => laws_toIntS.f k l) l := by
  unfold laws_toIntS.f
  refine Ev.congr (fun k => by rw [if_pos (by omega), if_pos (by omega)]) ?_
  have key := down (n := l.length) (p := fun i => ∀ acc : List Int, acc.length = l.length → acc.take i = l.take i → Ev (fun k => laws_toIntS.l0 k l acc (i : Int)) l) ?h0 ?hs 0 (Nat.zero_le _)
  · exact key _ (by simp) (by simp)
  case h0 =>
    intro acc ha ht
    refine Ev.step (f := fun _ => some acc) (fun k => by simp only [laws_toIntS.l0]; rw [if_neg (by omega)]) ?_
    have e : acc = l := full ha ht
    rw [e]
    exact Ev.now _
  case hs =>
    intro i hi ih acc ha ht
    refine Ev.step (f := fun k => laws_toIntS.l0 k l (acc.set i (l.getD i 0)) ((i + 1 : Nat) : Int)) (fun k => ?_) ?_
    · simp only [laws_toIntS.l0]
      rw [if_pos (by omega), if_pos (by omega), if_pos (by omega), w64 (by omega) (by omega)]
      rfl
    · exact ih _ (by simpa using ha) (fill_step ha ht (getD_some 0 hi))

theorem eqIntS_ev (l : List Int) (hl : l.length ≤ 1048576) : Ev (fun k => laws_eqIntS.f k l l) true := by
  unfold laws_eqIntS.f
  refine Ev.congr (fun k => by rw [if_pos rfl]) ?_
  refine down0 (n := l.length) (p := fun i => Ev (fun k => laws_eqIntS.l0 k l l (i : Int)) true) ?h0 ?hs
  case h0 => exact Ev.step (f := fun _ => some true) (fun k => by simp only [laws_eqIntS.l0]; rw [if_neg (by omega)]) (Ev.now _)
  case hs =>
    intro i hi ih
    refine Ev.step (fun k => ?_) ih
    simp only [laws_eqIntS.l0]
    rw [if_pos (by omega), if_pos (by omega), if_pos (by omega), if_pos trivial, w64 (by omega) (by omega)]
    rfl

/-- Rows that are not too long. -/
def Small (g : List (List Int)) : Prop := g.length ≤ 1048576 ∧ ∀ l ∈ g, l.length ≤ 1048576

theorem Small.at {g : List (List Int)} (h : Small g) {i : Nat} (hi : i < g.length) : (g.getD i []).length ≤ 1048576 := by
  rw [List.getD_eq_getElem?_getD, List.getElem?_eq_getElem hi]
  exact h.2 _ (List.getElem_mem hi)

theorem toIntSS_ev (g : List (List Int)) (hg : Small g) : Ev (fun k => laws_toIntSS.f k g) g := by
  have hl := hg.1
  unfold laws_toIntSS.f
  refine Ev.congr (fun k => by rw [if_pos (by omega), if_pos (by omega)]) ?_
  have key := down (n := g.length) (p := fun i => ∀ acc : List (List Int), acc.length = g.length → acc.take i = g.take i → Ev (fun k => laws_toIntSS.l0 k g acc (i : Int)) g) ?h0 ?hs 0 (Nat.zero_le _)
  · exact key _ (by simp) (by simp)
  case h0 =>
    intro acc ha ht
    refine Ev.step (f := fun _ => some acc) (fun k => by simp only [laws_toIntSS.l0]; rw [if_neg (by omega)]) ?_
    have e : acc = g := full ha ht
    rw [e]
    exact Ev.now _
  case hs =>
    intro i hi ih acc ha ht
    refine Ev.step (fun k => by simp only [laws_toIntSS.l0]; rw [if_pos (by omega), if_pos (by omega)]) ?_
    refine Ev.bind (toIntS_ev (rd_L1 g (i : Int)) (hg.at hi)) ?_
    refine Ev.congr (fun k => by rw [if_pos (by omega), w64 (by omega) (by omega)]) ?_
    exact ih _ (by simpa using ha) (fill_step ha ht (getD_some [] hi))

theorem eqIntSS_ev (g : List (List Int)) (hg : Small g) : Ev (fun k => laws_eqIntSS.f k g g) true := by
  have hl := hg.1
  unfold laws_eqIntSS.f
  refine Ev.congr (fun k => by rw [if_pos rfl]) ?_
  refine down0 (n := g.length) (p := fun i => Ev (fun k => laws_eqIntSS.l0 k g g (i : Int)) true) ?h0 ?hs
  case h0 => exact Ev.step (f := fun _ => some true) (fun k => by simp only [laws_eqIntSS.l0]; rw [if_neg (by omega)]) (Ev.now _)
  case hs =>
    intro i hi ih
    refine Ev.step (fun k => by simp only [laws_eqIntSS.l0]; rw [if_pos (by omega), if_pos (by omega), if_pos (by omega)]) ?_
    refine Ev.bind (eqIntS_ev (rd_L1 g (i : Int)) (hg.at hi)) ?_
    refine Ev.congr (fun k => by rw [if_pos rfl, w64 (by omega) (by omega)]) ?_
    exact ih

/-- The budget: it is spent, or what it was spent on is small. -/
theorem szIntSS_ev (g : List (List Int)) (b : Int) (hb0 : 0 ≤ b) (hb : b ≤ 1048576) (hl : Len (Len I64) g) : ∃ v, Ev (fun k => laws_szIntSS.f k g b) v ∧ (v < 0 ∨ 0 ≤ v ∧ v ≤ b ∧ Small g) := by
  have hlen := hl.1
  unfold laws_szIntSS.f
  rw [w64 (x := b - (g.length : Int)) (by omega) (by omega)]
  by_cases c : b - (g.length : Int) < 0
  · refine ⟨-1, ?_, .inl (by omega)⟩
    exact Ev.congr (fun k => by rw [if_pos c]) (Ev.now _)
  · have key := down (n := g.length) (p := fun i => ∀ t : Int, 0 ≤ t → t ≤ b → ∃ v, Ev (fun k => laws_szIntSS.l0 k g t (i : Int)) v ∧ (v < 0 ∨ 0 ≤ v ∧ v ≤ b ∧ ∀ j, i ≤ j → j < g.length → (g.getD j []).length ≤ 1048576)) ?h0 ?hs 0 (Nat.zero_le _) (b - (g.length : Int)) (by omega) (by omega)
    · obtain ⟨v, hv, h⟩ := key
      refine ⟨v, Ev.congr (fun k => by rw [if_neg c]; rfl) hv, ?_⟩
      rcases h with h | ⟨h1, h2, h3⟩
      · exact .inl h
      · refine .inr ⟨h1, h2, by omega, fun l hm => ?_⟩
        obtain ⟨j, hj, e⟩ := List.getElem_of_mem hm
        have := h3 j (Nat.zero_le _) hj
        rw [List.getD_eq_getElem?_getD, List.getElem?_eq_getElem hj, e] at this
        exact this
    case h0 =>
      intro t h0 h1
      refine ⟨t, Ev.step (f := fun _ => some t) (fun k => by simp only [laws_szIntSS.l0]; rw [if_neg (by omega)]) (Ev.now _), .inr ⟨h0, h1, fun j h h' => by omega⟩⟩
    case hs =>
      intro i hi ih t h0 h1
      have hr : (g.getD i []).length ≤ 9223372036854775807 := by
        rw [List.getD_eq_getElem?_getD, List.getElem?_eq_getElem hi]
        exact (hl.2 _ (List.getElem_mem hi)).1
      have er : rd_L1 g (i : Int) = g.getD i [] := rfl
      by_cases c2 : t - ((g.getD i []).length : Int) < 0
      · refine ⟨-1, Ev.step (f := fun _ => some (-1)) (fun k => ?_) (Ev.now _), .inl (by omega)⟩
        simp only [laws_szIntSS.l0, laws_szIntS.f, er]
        rw [if_pos (by omega), if_pos (by omega), w64 (by omega) (by omega), if_pos c2]
        rfl
      · obtain ⟨v, hv, h⟩ := ih (t - ((g.getD i []).length : Int)) (by omega) (by omega)
        refine ⟨v, Ev.step (fun k => ?_) hv, ?_⟩
        · simp only [laws_szIntSS.l0, laws_szIntS.f, er]
          rw [if_pos (by omega), if_pos (by omega), w64 (by omega) (by omega), if_neg c2, Option.bind_some, if_neg c2, w64 (by omega) (by omega)]
          rfl
        · rcases h with h | ⟨h2, h3, h4⟩
          · exact .inl h
          · refine .inr ⟨h2, h3, fun j hj hj' => ?_⟩
            by_cases e : j = i
            · rw [e]; omega
            · exact h4 j (by omega) hj'
end Go.Proofs.Ytkfpbblaomgihaa.Q

/- Good graphs: the program and the reference tell the same. -/
namespace Go.Proofs.Ytkfpbblaomgihaa.Q
open Go.RowKit Go.Proofs.Ytkfpbblaomgihaa.P Go.Proofs.Ytkfpbblaomgihaa.H Go.Proofs.YtkfpbblaomgihaaW.PrintWords
set_option linter.unusedVariables false

theorem toGraph_ev (g : List (List Int)) (hg : Small g) : Ev (fun k => laws_toGraph.f k g) g := by
  unfold laws_toGraph.f
  exact (toIntSS_ev g hg).bind (Ev.now _)

theorem eqGraph_ev (g : List (List Int)) (hg : Small g) : Ev (fun k => laws_eqGraph.f k g g) true := by
  unfold laws_eqGraph.f
  refine (eqIntSS_ev g hg).bind ?_
  exact ev_is fun k => rfl

theorem szGraph_ev (g : List (List Int)) (b : Int) (hb0 : 0 ≤ b) (hb : b ≤ 1048576) (hl : Len (Len I64) g) : ∃ v, Ev (fun k => laws_szGraph.f k g b) v ∧ (v < 0 ∨ 0 ≤ v ∧ v ≤ b ∧ Small g) := by
  obtain ⟨v, hv, h⟩ := szIntSS_ev g b hb0 hb hl
  unfold laws_szGraph.f
  by_cases c : v < 0
  · exact ⟨-1, hv.bind (Ev.congr (fun k => by rw [if_pos c]) (Ev.now _)), .inl (by omega)⟩
  · exact ⟨v, hv.bind (Ev.congr (fun k => by rw [if_neg c]) (Ev.now _)), h⟩

theorem l1In_tell (a b c : Int) : spec_l1In.f a b c = some (decide (b ≤ a) && decide (a ≤ c)) := by
  unfold spec_l1In.f
  by_cases h : a ≥ b
  · rw [if_pos h, decide_eq_true h, Bool.true_and]
  · rw [if_neg h, decide_eq_false h, Bool.false_and]

theorem upAt_yes {l : List Int} {lo hi : Int} {j : Nat} (h0 : lo ≤ l.getD j 0) (h1 : l.getD j 0 ≤ hi) (h2 : j = 0 ∨ l.getD (j - 1) 0 < l.getD j 0) : upAt l lo hi j = true := by
  unfold upAt
  rw [decide_eq_true h0, decide_eq_true h1]
  rcases h2 with h2 | h2
  · rw [decide_eq_true h2]; rfl
  · rw [decide_eq_true h2, Bool.or_true]; rfl

theorem upAt_no {l : List Int} {lo hi : Int} {j : Nat} (h : ¬ (lo ≤ l.getD j 0 ∧ l.getD j 0 ≤ hi ∧ (j = 0 ∨ l.getD (j - 1) 0 < l.getD j 0))) : upAt l lo hi j = false := by
  cases e : upAt l lo hi j with
  | false => rfl
  | true =>
    unfold upAt at e
    simp only [Bool.and_eq_true, Bool.or_eq_true, decide_eq_true_eq] at e
    exact absurd ⟨e.1.1, e.1.2, e.2⟩ h

/-- All rows from one on, told. -/
theorem specGoodGraph_ev (g : List (List Int)) (hg : Small g) : Ev (fun k => spec_GoodGraph.f k g) (goodG g) := by
  have hlen := hg.1
  unfold spec_GoodGraph.f
  have key := down0 (n := g.length) (p := fun i => Ev (fun k => spec_GoodGraph.l0 k (g.length : Int) g (g.length : Int) (i : Int)) (((g.drop i).all fun l => upB l 0 ((g.length : Int) - 1) 0) && (decide (1 ≤ g.length) && decide (g.length ≤ 12)))) ?h0 ?hs
  · refine ev_eq key ?_
    unfold goodG
    rw [List.drop_zero, Bool.and_comm]
  case h0 =>
    refine Ev.step (f := fun _ => some (decide (1 ≤ g.length) && decide (g.length ≤ 12))) (fun k => ?_) ?_
    · simp only [spec_GoodGraph.l0]
      rw [if_neg (by omega), l1In_tell, Option.bind_some]
      congr 1
      rw [Bool.eq_iff_iff]
      simp
      omega
    · simpa using Ev.now _
  case hs =>
    intro i hi ih
    have e : g.drop i = g.getD i [] :: g.drop (i + 1) := by
      rw [List.drop_eq_getElem_cons hi, List.getD_eq_getElem?_getD, List.getElem?_eq_getElem hi]
      rfl
    rw [e, List.all_cons, Bool.and_assoc]
    have hr : rd_L1 g (i : Int) = g.getD i [] := rfl
    refine Ev.step (fun k => by simp only [spec_GoodGraph.l0]; rw [if_pos (by omega), if_pos (by omega), if_pos (by omega), hr]) ?_
    have hll := hg.at hi
    generalize g.getD i [] = l at hll ⊢
    generalize (((g.drop (i + 1)).all fun l => upB l 0 ((g.length : Int) - 1) 0) && (decide (1 ≤ g.length) && decide (g.length ≤ 12))) = R at ih ⊢
    refine down0 (n := l.length) (p := fun j => Ev (fun k => spec_GoodGraph.l1 k (g.length : Int) l g (g.length : Int) (i : Int) l (l.length : Int) (j : Int)) (upB l 0 ((g.length : Int) - 1) j && R)) ?h0' ?hs'
    case h0' =>
      rw [upB_end, Bool.true_and]
      refine Ev.step (fun k => ?_) ih
      simp only [spec_GoodGraph.l1]
      rw [if_neg (by omega), w64 (by omega) (by omega)]
      rfl
    case hs' =>
      intro j hj ih
      rw [upB_step l 0 _ hj, Bool.and_assoc]
      have hx : rd l (j : Int) = l.getD j 0 := rfl
      have stop : ∀ b, upAt l 0 ((g.length : Int) - 1) j = false → b = false → Ev (fun _ => some b) (upAt l 0 ((g.length : Int) - 1) j && (upB l 0 ((g.length : Int) - 1) (j + 1) && R)) := by
        intro b h1 h2
        rw [h1, h2]
        exact Ev.now _
      by_cases c0 : l.getD j 0 < 0
      · refine Ev.step (f := fun _ => some false) (fun k => ?_) (stop _ (upAt_no (by omega)) rfl)
        simp only [spec_GoodGraph.l1]
        rw [if_pos (by omega), if_pos (by omega), if_pos (by omega), hx, if_pos c0]
      · by_cases c1 : l.getD j 0 ≥ (g.length : Int)
        · refine Ev.step (f := fun _ => some false) (fun k => ?_) (stop _ (upAt_no (by omega)) rfl)
          simp only [spec_GoodGraph.l1]
          rw [if_pos (by omega), if_pos (by omega), if_pos (by omega), hx, if_neg c0, if_pos c1]
        · by_cases cj : j = 0
          · have e : upAt l 0 ((g.length : Int) - 1) j = true := upAt_yes (by omega) (by omega) (.inl cj)
            rw [e, Bool.true_and]
            refine Ev.step (fun k => ?_) ih
            simp only [spec_GoodGraph.l1]
            rw [if_pos (by omega), if_pos (by omega), if_pos (by omega), hx, if_neg c0, if_neg c1, if_neg (by omega), w64 (by omega) (by omega)]
            rfl
          · have ew : wrap64 ((j : Int) - 1) = ((j - 1 : Nat) : Int) := by rw [w64 (by omega) (by omega)]; omega
            have hx1 : rd l (wrap64 ((j : Int) - 1)) = l.getD (j - 1) 0 := by rw [ew]; rfl
            by_cases c2 : l.getD (j - 1) 0 ≥ l.getD j 0
            · refine Ev.step (f := fun _ => some false) (fun k => ?_) (stop _ (upAt_no (by omega)) rfl)
              simp only [spec_GoodGraph.l1]
              rw [if_pos (by omega), if_pos (by omega), if_pos (by omega), hx, if_neg c0, if_neg c1, if_pos (by omega), if_pos (by rw [ew]; omega), if_pos (by rw [ew]; omega), hx1, if_pos c2]
            · have e : upAt l 0 ((g.length : Int) - 1) j = true := upAt_yes (by omega) (by omega) (.inr (by omega))
              rw [e, Bool.true_and]
              refine Ev.step (fun k => ?_) ih
              simp only [spec_GoodGraph.l1]
              rw [if_pos (by omega), if_pos (by omega), if_pos (by omega), hx, if_neg c0, if_neg c1, if_pos (by omega), if_pos (by rw [ew]; omega), if_pos (by rw [ew]; omega), hx1, if_neg c2, w64 (by omega) (by omega)]
              rfl

theorem opensRow : Opens Try.prog 37 (Kd.slice 3 (Kd.int .i64)) (Len I64) := Opens.sliceL Try.underlying37 (by kernel_rfl) (Opens.int Try.underlying3)
theorem opensRows : Opens Try.prog 22 (Kd.slice 37 (Kd.slice 3 (Kd.int .i64))) (Len (Len I64)) := Opens.sliceL Try.underlying22 (by kernel_rfl) opensRow
theorem opensGraph : Opens Try.prog 24 (Kd.slice 37 (Kd.slice 3 (Kd.int .i64))) (Len (Len I64)) := Opens.struct1 Try.underlying24 rfl (by kernel_rfl) (by kernel_rfl) opensRows
end Go.Proofs.Ytkfpbblaomgihaa.Q

/- Good flows: the program and the reference tell the same. -/
namespace Go.Proofs.Ytkfpbblaomgihaa.Q
open Go.RowKit Go.Proofs.Ytkfpbblaomgihaa.P Go.Proofs.Ytkfpbblaomgihaa.H Go.Proofs.YtkfpbblaomgihaaW.PrintWords
set_option linter.unusedVariables false

def cvBlock (x : S97) : S56 := ⟨x.f0, x.f1⟩
def SmallB (b : List S97) : Prop := b.length ≤ 1048576 ∧ ∀ x ∈ b, x.f0.length ≤ 1048576 ∧ x.f1.length ≤ 1048576
def SmallI (b : List S56) : Prop := b.length ≤ 1048576 ∧ ∀ x ∈ b, x.f0.length ≤ 1048576 ∧ x.f1.length ≤ 1048576

theorem SmallB.at {g : List S97} (h : SmallB g) {i : Nat} (hi : i < g.length) : (g.getD i z97).f0.length ≤ 1048576 ∧ (g.getD i z97).f1.length ≤ 1048576 := by
  rw [List.getD_eq_getElem?_getD, List.getElem?_eq_getElem hi]
  exact h.2 _ (List.getElem_mem hi)
theorem SmallI.at {g : List S56} (h : SmallI g) {i : Nat} (hi : i < g.length) : (g.getD i z56).f0.length ≤ 1048576 ∧ (g.getD i z56).f1.length ≤ 1048576 := by
  rw [List.getD_eq_getElem?_getD, List.getElem?_eq_getElem hi]
  exact h.2 _ (List.getElem_mem hi)
theorem SmallB.cv {b : List S97} (h : SmallB b) : SmallI (b.map cvBlock) := by
  refine ⟨by simpa using h.1, fun x hx => ?_⟩
  obtain ⟨y, hy, rfl⟩ := List.mem_map.1 hx
  exact h.2 y hy

theorem toBlockS_ev (b : List S97) (hb : SmallB b) : Ev (fun k => laws_toBlockS.f k b) (b.map cvBlock) := by
  have hl := hb.1
  unfold laws_toBlockS.f
  refine Ev.congr (fun k => by rw [if_pos (by omega), if_pos (by omega)]) ?_
  have key := down (n := b.length) (p := fun i => ∀ acc : List S56, acc.length = (b.map cvBlock).length → acc.take i = (b.map cvBlock).take i → Ev (fun k => laws_toBlockS.l0 k b acc (i : Int)) (b.map cvBlock)) ?h0 ?hs 0 (Nat.zero_le _)
  · exact key _ (by simp) (by simp)
  case h0 =>
    intro acc ha ht
    refine Ev.step (f := fun _ => some acc) (fun k => by simp only [laws_toBlockS.l0]; rw [if_neg (by omega)]) ?_
    have e : acc = b.map cvBlock := full ha (by simpa using ht)
    rw [e]
    exact Ev.now _
  case hs =>
    intro i hi ih acc ha ht
    have ha' : acc.length = b.length := by simpa using ha
    have hz := hb.at hi
    have er : rd_T97 b (i : Int) = b.getD i z97 := rfl
    refine Ev.step (fun k => by simp only [laws_toBlockS.l0]; rw [if_pos (by omega), if_pos (by omega), er]) ?_
    have e1 : Ev (fun k => laws_toBlock.f k (b.getD i z97).f0 (b.getD i z97).f1) ((b.getD i z97).f0, (b.getD i z97).f1) := by
      unfold laws_toBlock.f
      exact (toIntS_ev _ hz.1).bind ((toIntS_ev _ hz.2).bind (Ev.now _))
    refine Ev.bind e1 ?_
    refine Ev.congr (fun k => by rw [if_pos (by omega), w64 (by omega) (by omega)]) ?_
    exact ih _ (by simpa using ha) (fill_step ha ht (by rw [List.getElem?_map, getD_some z97 hi]; rfl))

theorem eqBlockS_ev (b : List S56) (hb : SmallI b) : Ev (fun k => laws_eqBlockS.f k b b) true := by
  have hl := hb.1
  unfold laws_eqBlockS.f
  refine Ev.congr (fun k => by rw [if_pos rfl]) ?_
  refine down0 (n := b.length) (p := fun i => Ev (fun k => laws_eqBlockS.l0 k b b (i : Int)) true) ?h0 ?hs
  case h0 => exact Ev.step (f := fun _ => some true) (fun k => by simp only [laws_eqBlockS.l0]; rw [if_neg (by omega)]) (Ev.now _)
  case hs =>
    intro i hi ih
    have hz := hb.at hi
    have er : rd_T56 b (i : Int) = b.getD i z56 := rfl
    refine Ev.step (fun k => by simp only [laws_eqBlockS.l0]; rw [if_pos (by omega), if_pos (by omega), if_pos (by omega), er]) ?_
    have e1 : Ev (fun k => laws_eqBlock.f k (b.getD i z56).f0 (b.getD i z56).f1 (b.getD i z56).f0 (b.getD i z56).f1) true := by
      unfold laws_eqBlock.f
      refine (eqIntS_ev _ hz.1).bind ?_
      refine Ev.congr (fun k => by rw [if_pos rfl]) ((eqIntS_ev _ hz.2).bind ?_)
      exact ev_is fun k => rfl
    refine Ev.bind e1 ?_
    refine Ev.congr (fun k => by rw [if_pos rfl, w64 (by omega) (by omega)]) ?_
    exact ih

def I64B (x : S97) : Prop := Len I64 x.f0 ∧ Len I64 x.f1

theorem szBlockS_ev (g : List S97) (b : Int) (hb0 : 0 ≤ b) (hb : b ≤ 1048576) (hl : Len I64B g) : ∃ v, Ev (fun k => laws_szBlockS.f k g b) v ∧ (v < 0 ∨ 0 ≤ v ∧ v ≤ b ∧ SmallB g) := by
  have hlen := hl.1
  unfold laws_szBlockS.f
  rw [w64 (x := b - (g.length : Int)) (by omega) (by omega)]
  by_cases c : b - (g.length : Int) < 0
  · refine ⟨-1, ?_, .inl (by omega)⟩
    exact Ev.congr (fun k => by rw [if_pos c]) (Ev.now _)
  · have key := down (n := g.length) (p := fun i => ∀ t : Int, 0 ≤ t → t ≤ b → ∃ v, Ev (fun k => laws_szBlockS.l0 k g t (i : Int)) v ∧ (v < 0 ∨ 0 ≤ v ∧ v ≤ b ∧ ∀ j, i ≤ j → j < g.length → (g.getD j z97).f0.length ≤ 1048576 ∧ (g.getD j z97).f1.length ≤ 1048576)) ?h0 ?hs 0 (Nat.zero_le _) (b - (g.length : Int)) (by omega) (by omega)
    · obtain ⟨v, hv, h⟩ := key
      refine ⟨v, Ev.congr (fun k => by rw [if_neg c]; rfl) hv, ?_⟩
      rcases h with h | ⟨h1, h2, h3⟩
      · exact .inl h
      · refine .inr ⟨h1, h2, by omega, fun l hm => ?_⟩
        obtain ⟨j, hj, e⟩ := List.getElem_of_mem hm
        have := h3 j (Nat.zero_le _) hj
        rw [List.getD_eq_getElem?_getD, List.getElem?_eq_getElem hj, e] at this
        exact this
    case h0 =>
      intro t h0 h1
      refine ⟨t, Ev.step (f := fun _ => some t) (fun k => by simp only [laws_szBlockS.l0]; rw [if_neg (by omega)]) (Ev.now _), .inr ⟨h0, h1, fun j h h' => by omega⟩⟩
    case hs =>
      intro i hi ih t h0 h1
      have hr : (g.getD i z97).f0.length ≤ 9223372036854775807 ∧ (g.getD i z97).f1.length ≤ 9223372036854775807 := by
        rw [List.getD_eq_getElem?_getD, List.getElem?_eq_getElem hi]
        exact ⟨(hl.2 _ (List.getElem_mem hi)).1.1, (hl.2 _ (List.getElem_mem hi)).2.1⟩
      have er : rd_T97 g (i : Int) = g.getD i z97 := rfl
      by_cases c2 : t - ((g.getD i z97).f0.length : Int) < 0
      · refine ⟨-1, Ev.step (f := fun _ => some (-1)) (fun k => ?_) (Ev.now _), .inl (by omega)⟩
        simp only [laws_szBlockS.l0, laws_szBlock.f, laws_szIntS.f, er]
        rw [if_pos (by omega), if_pos (by omega), w64 (by omega) (by omega), if_pos c2]
        rfl
      · by_cases c3 : t - ((g.getD i z97).f0.length : Int) - ((g.getD i z97).f1.length : Int) < 0
        · refine ⟨-1, Ev.step (f := fun _ => some (-1)) (fun k => ?_) (Ev.now _), .inl (by omega)⟩
          simp only [laws_szBlockS.l0, laws_szBlock.f, laws_szIntS.f, er]
          rw [if_pos (by omega), if_pos (by omega), w64 (x := t - _) (by omega) (by omega), if_neg c2, Option.bind_some, if_neg c2, w64 (by omega) (by omega), if_pos c3]
          rfl
        · obtain ⟨v, hv, h⟩ := ih (t - ((g.getD i z97).f0.length : Int) - ((g.getD i z97).f1.length : Int)) (by omega) (by omega)
          refine ⟨v, Ev.step (fun k => ?_) hv, ?_⟩
          · simp only [laws_szBlockS.l0, laws_szBlock.f, laws_szIntS.f, er]
            rw [if_pos (by omega), if_pos (by omega), w64 (x := t - _) (by omega) (by omega), if_neg c2, Option.bind_some, if_neg c2, w64 (by omega) (by omega), if_neg c3, Option.bind_some, if_neg c3, Option.bind_some, if_neg c3, w64 (by omega) (by omega)]
            rfl
          · rcases h with h | ⟨h2, h3, h4⟩
            · exact .inl h
            · refine .inr ⟨h2, h3, fun j hj hj' => ?_⟩
              by_cases e : j = i
              · rw [e]; omega
              · exact h4 j (by omega) hj'

theorem toFlow_ev (g : List (List Int)) (b : List S97) (hg : Small g) (hb : SmallB b) : Ev (fun k => laws_toFlow.f k g b) (g, b.map cvBlock) := by
  unfold laws_toFlow.f
  exact (toGraph_ev g hg).bind ((toBlockS_ev b hb).bind (Ev.now _))

theorem eqFlow_ev (g : List (List Int)) (b : List S56) (hg : Small g) (hb : SmallI b) : Ev (fun k => laws_eqFlow.f k g b g b) true := by
  unfold laws_eqFlow.f
  refine (eqGraph_ev g hg).bind ?_
  refine Ev.congr (fun k => by rw [if_pos rfl]) ((eqBlockS_ev b hb).bind ?_)
  exact ev_is fun k => rfl

theorem szFlow_ev (g : List (List Int)) (b : List S97) (t : Int) (h0 : 0 ≤ t) (h1 : t ≤ 1048576) (hg : Len (Len I64) g) (hb : Len I64B b) : ∃ v, Ev (fun k => laws_szFlow.f k g b t) v ∧ (v < 0 ∨ 0 ≤ v ∧ v ≤ t ∧ Small g ∧ SmallB b) := by
  obtain ⟨v, hv, h⟩ := szGraph_ev g t h0 h1 hg
  unfold laws_szFlow.f
  by_cases c : v < 0
  · exact ⟨-1, hv.bind (Ev.congr (fun k => by rw [if_pos c]) (Ev.now _)), .inl (by omega)⟩
  · have h' : 0 ≤ v ∧ v ≤ t ∧ Small g := by rcases h with h | h; exact absurd h c; exact h
    obtain ⟨u, hu, h2⟩ := szBlockS_ev b v h'.1 (by omega) hb
    by_cases c2 : u < 0
    · exact ⟨-1, hv.bind (Ev.congr (fun k => by rw [if_neg c]) (hu.bind (Ev.congr (fun k => by rw [if_pos c2]) (Ev.now _)))), .inl (by omega)⟩
    · have h3 : 0 ≤ u ∧ u ≤ v ∧ SmallB b := by rcases h2 with h | h; exact absurd h c2; exact h
      exact ⟨u, hv.bind (Ev.congr (fun k => by rw [if_neg c]) (hu.bind (Ev.congr (fun k => by rw [if_neg c2]) (Ev.now _)))), .inr ⟨h3.1, by omega, h'.2.2, h3.2.2⟩⟩

theorem l12Names_ev (l : List Int) (hl : l.length ≤ 1048576) : Ev (fun k => spec_l12Names.f k l) (upB l 0 7 0) := by
  unfold spec_l12Names.f
  refine down0 (n := l.length) (p := fun j => Ev (fun k => spec_l12Names.l0 k l l (l.length : Int) (j : Int)) (upB l 0 7 j)) ?h0 ?hs
  case h0 =>
    rw [upB_end]
    exact Ev.step (f := fun _ => some true) (fun k => by simp only [spec_l12Names.l0]; rw [if_neg (by omega)]) (Ev.now _)
  case hs =>
    intro j hj ih
    rw [upB_step l 0 _ hj]
    have hx : rd l (j : Int) = l.getD j 0 := rfl
    by_cases c : 0 ≤ l.getD j 0 ∧ l.getD j 0 ≤ 7
    · have ct : (decide (0 ≤ l.getD j 0) && decide (l.getD j 0 ≤ 7)) = true := by rw [decide_eq_true c.1, decide_eq_true c.2]; rfl
      by_cases cj : j = 0
      · rw [upAt_yes c.1 c.2 (.inl cj), Bool.true_and]
        refine Ev.step (fun k => ?_) ih
        simp only [spec_l12Names.l0]
        rw [if_pos (by omega), if_pos (by omega), if_pos (by omega), hx, l1In_tell, ct, Option.bind_some, if_pos rfl, if_neg (by omega), w64 (by omega) (by omega)]
        rfl
      · have ew : wrap64 ((j : Int) - 1) = ((j - 1 : Nat) : Int) := by rw [w64 (by omega) (by omega)]; omega
        have hx1 : rd l (wrap64 ((j : Int) - 1)) = l.getD (j - 1) 0 := by rw [ew]; rfl
        by_cases c2 : l.getD (j - 1) 0 ≥ l.getD j 0
        · rw [upAt_no (by omega), Bool.false_and]
          refine Ev.step (f := fun _ => some false) (fun k => ?_) (Ev.now _)
          simp only [spec_l12Names.l0]
          rw [if_pos (by omega), if_pos (by omega), if_pos (by omega), hx, l1In_tell, ct, Option.bind_some, if_pos rfl, if_pos (by omega), if_pos (by rw [ew]; omega), if_pos (by rw [ew]; omega), hx1, if_pos c2]
        · rw [upAt_yes c.1 c.2 (.inr (by omega)), Bool.true_and]
          refine Ev.step (fun k => ?_) ih
          simp only [spec_l12Names.l0]
          rw [if_pos (by omega), if_pos (by omega), if_pos (by omega), hx, l1In_tell, ct, Option.bind_some, if_pos rfl, if_pos (by omega), if_pos (by rw [ew]; omega), if_pos (by rw [ew]; omega), hx1, if_neg c2, w64 (by omega) (by omega)]
          rfl
    · rw [upAt_no (by omega), Bool.false_and]
      have ct : (decide (0 ≤ l.getD j 0) && decide (l.getD j 0 ≤ 7)) = false := by
        rw [Bool.eq_false_iff]
        intro h
        simp only [Bool.and_eq_true, decide_eq_true_eq] at h
        exact c h
      refine Ev.step (f := fun _ => some false) (fun k => ?_) (Ev.now _)
      simp only [spec_l12Names.l0]
      rw [if_pos (by omega), if_pos (by omega), if_pos (by omega), hx, l1In_tell, ct, Option.bind_some, if_neg (by simp)]

theorem specGoodFlow_ev (g : List (List Int)) (b : List S56) (hg : Small g) (hb : SmallI b) : Ev (fun k => spec_GoodFlow.f k g b) (goodF g b) := by
  have hlen := hb.1
  unfold spec_GoodFlow.f
  have key := down0 (n := b.length) (p := fun i => Ev (fun k => spec_GoodFlow.l0 k b (b.length : Int) (i : Int) g b) ((b.drop i).all okBlock && (goodG g && decide (b.length = g.length)))) ?h0 ?hs
  · refine ev_eq key ?_
    unfold goodF
    rw [List.drop_zero, Bool.and_comm]
  case h0 =>
    refine Ev.step (fun k => by simp only [spec_GoodFlow.l0]; rw [if_neg (by omega)]) ?_
    refine (specGoodGraph_ev g hg).bind ?_
    cases goodG g with
    | false => exact ev_is fun k => by simp
    | true =>
      refine ev_is fun k => ?_
      rw [if_pos rfl, List.drop_length, List.all_nil, Bool.true_and, Bool.true_and]
      congr 1
      rw [Bool.eq_iff_iff]
      simp
      omega
  case hs =>
    intro i hi ih
    have e : b.drop i = b.getD i z56 :: b.drop (i + 1) := by
      rw [List.drop_eq_getElem_cons hi, List.getD_eq_getElem?_getD, List.getElem?_eq_getElem hi]
      rfl
    have hz := hb.at hi
    have er : rd_T56 b (i : Int) = b.getD i z56 := rfl
    rw [e, List.all_cons, Bool.and_assoc]
    refine Ev.step (fun k => by simp only [spec_GoodFlow.l0]; rw [if_pos (by omega), if_pos (by omega), if_pos (by omega), er]) ?_
    generalize ((b.drop (i + 1)).all okBlock && (goodG g && decide (b.length = g.length))) = R at ih ⊢
    unfold okBlock
    refine (l12Names_ev _ hz.1).bind ?_
    cases upB (b.getD i z56).f0 0 7 0 with
    | false => exact ev_is fun k => by simp
    | true =>
      refine Ev.congr (fun k => by rw [if_pos rfl]) ((l12Names_ev _ hz.2).bind ?_)
      cases upB (b.getD i z56).f1 0 7 0 with
      | false => exact ev_is fun k => by simp
      | true =>
        refine Ev.congr (fun k => by rw [if_pos rfl, w64 (by omega) (by omega)]) ?_
        exact ih

theorem opensBlock : Opens Try.prog 97 k97 I64B :=
  Opens.iso (Opens.struct2 Try.underlying97 rfl rfl (by kernel_rfl) (by kernel_rfl) (by kernel_rfl) opensRow opensRow) (fun x : S97 => (x.f0, x.f1)) (fun a => (⟨a.1, a.2⟩ : S97)) (fun _ => rfl)
theorem opensBlocks : Opens Try.prog 25 (Kd.slice 97 k97) (Len I64B) := Opens.sliceL Try.underlying25 (by kernel_rfl) opensBlock
theorem opensFlow : Opens Try.prog 27 (Kd.pair (Kd.slice 37 (Kd.slice 3 (Kd.int .i64))) (Kd.slice 97 k97)) (fun x => Len (Len I64) x.1 ∧ Len I64B x.2) :=
  Opens.struct2 Try.underlying27 rfl rfl (by kernel_rfl) (by kernel_rfl) (by kernel_rfl) opensGraph opensBlocks
end Go.Proofs.Ytkfpbblaomgihaa.Q

/- Is a number in a list? The program's and the reference's own tellings. -/
namespace Go.Proofs.Ytkfpbblaomgihaa.Q
open Go.RowKit Go.Proofs.Ytkfpbblaomgihaa.P Go.Proofs.Ytkfpbblaomgihaa.H Go.Proofs.YtkfpbblaomgihaaW.PrintWords
set_option linter.unusedVariables false

theorem drop_eq {l : List Int} {i : Nat} (hi : i < l.length) : l.drop i = l.getD i 0 :: l.drop (i + 1) := by
  rw [List.drop_eq_getElem_cons hi, List.getD_eq_getElem?_getD, List.getElem?_eq_getElem hi]
  rfl

theorem has_ev (l : List Int) (x : Int) (hl : l.length ≤ 1048576) : Ev (fun k => spec_l1Has.f k l x) (decide (x ∈ l)) := by
  unfold spec_l1Has.f
  refine ev_eq (down0 (n := l.length) (p := fun i => Ev (fun k => spec_l1Has.l0 k x l (l.length : Int) (i : Int)) (decide (x ∈ l.drop i))) ?h0 ?hs) (by rw [List.drop_zero])
  case h0 => exact Ev.step (f := fun _ => some false) (fun k => by simp only [spec_l1Has.l0]; rw [if_neg (by omega)]) (by rw [List.drop_length]; simpa using Ev.now _)
  case hs =>
    intro i hi ih
    have hr : rd l (i : Int) = l.getD i 0 := rfl
    rw [drop_eq hi]
    by_cases c : l.getD i 0 = x
    · refine Ev.step (f := fun _ => some true) (fun k => ?_) (ev_is fun k => by rw [c]; simp)
      simp only [spec_l1Has.l0]
      rw [if_pos (by omega), if_pos (by omega), if_pos (by omega), hr, if_pos c]
    · refine Ev.step (fun k => ?_) (ev_eq ih ?_)
      · simp only [spec_l1Has.l0]
        rw [if_pos (by omega), if_pos (by omega), if_pos (by omega), hr, if_neg c, w64 (by omega) (by omega)]
        rfl
      · rw [decide_eq_decide, List.mem_cons]
        constructor
        · exact .inr
        · rintro (h | h)
          · exact absurd h.symm c
          · exact h
end Go.Proofs.Ytkfpbblaomgihaa.Q

/- NeededOn's law. -/
namespace Go.Proofs.Ytkfpbblaomgihaa.Q
open Go.RowKit Go.Proofs.Ytkfpbblaomgihaa.P Go.Proofs.Ytkfpbblaomgihaa.H Go.Proofs.YtkfpbblaomgihaaW.PrintWords
set_option linter.unusedVariables false

theorem contains_ev (l : List Int) (x : Int) (hl : l.length ≤ 1048576) : Ev (fun k => slices_Contains_int_int.f k l x) (decide (x ∈ l)) := by
  unfold slices_Contains_int_int.f
  have key : ∃ r : Int, Ev (fun k => slices_Index_int_int.f k l x) r ∧ decide (r ≥ 0) = decide (x ∈ l) := by
    unfold slices_Index_int_int.f
    have h := down0 (n := l.length) (p := fun i => ∃ r : Int, Ev (fun k => slices_Index_int_int.l0 k l x (l.length : Int) (i : Int)) r ∧ decide (r ≥ 0) = decide (x ∈ l.drop i)) ?h0 ?hs
    · rw [List.drop_zero] at h
      exact h
    case h0 =>
      refine ⟨-1, Ev.step (f := fun _ => some (-1)) (fun k => by simp only [slices_Index_int_int.l0]; rw [if_neg (by omega)]) (Ev.now _), ?_⟩
      rw [List.drop_length]
      simp
    case hs =>
      intro i hi ih
      have hr : rd l (i : Int) = l.getD i 0 := rfl
      rw [drop_eq hi]
      by_cases c : x = l.getD i 0
      · refine ⟨i, Ev.step (f := fun _ => some (i : Int)) (fun k => ?_) (Ev.now _), ?_⟩
        · simp only [slices_Index_int_int.l0]
          rw [if_pos (by omega), if_pos (by omega), if_pos (by omega), hr, if_pos c]
        · rw [decide_eq_decide, c]
          simp
      · obtain ⟨r, hr', he⟩ := ih
        refine ⟨r, Ev.step (fun k => ?_) hr', ?_⟩
        · simp only [slices_Index_int_int.l0]
          rw [if_pos (by omega), if_pos (by omega), if_pos (by omega), hr, if_neg c, w64 (by omega) (by omega)]
          rfl
        · rw [he, decide_eq_decide, List.mem_cons]
          constructor
          · exact .inr
          · rintro (h | h)
            · exact absurd h c
            · exact h
  obtain ⟨r, h1, h2⟩ := key
  refine h1.bind ?_
  rw [h2]
  exact Ev.now _

/-- The second loop: the same on both sides. -/
theorem needed_l1 (g : List (List Int)) (b : List S56) (way : List Int) (x : Int) (hb : SmallI b) (hw : way.length ≤ 1048576) (hr : ∀ j, j < way.length → 0 ≤ way.getD j 0 ∧ way.getD j 0 < (b.length : Int)) :
    ∃ r, Ev (fun k => impl_NeededOn.l1 k x way (way.length : Int) 0 g b) r ∧ Ev (fun k => spec_NeededOn.l1 k x way (way.length : Int) 0 g b) r := by
  refine down0 (n := way.length) (p := fun i => ∃ r, Ev (fun k => impl_NeededOn.l1 k x way (way.length : Int) (i : Int) g b) r ∧ Ev (fun k => spec_NeededOn.l1 k x way (way.length : Int) (i : Int) g b) r) ?h0 ?hs
  case h0 =>
    refine ⟨(false, true), Ev.step (f := fun _ => some (false, true)) (fun k => ?_) (Ev.now _), Ev.step (f := fun _ => some (false, true)) (fun k => ?_) (Ev.now _)⟩
    · simp only [impl_NeededOn.l1]; rw [if_neg (by omega)]
    · simp only [spec_NeededOn.l1]; rw [if_neg (by omega)]
  case hs =>
    intro i hi ih
    have hx : rd way (i : Int) = way.getD i 0 := rfl
    obtain ⟨h0, h1⟩ := hr i hi
    generalize way.getD i 0 = y at hx h0 h1
    have er : rd_T56 b y = b.getD y.toNat z56 := rfl
    have hz := hb.at (i := y.toNat) (by omega)
    obtain ⟨r, e1, e2⟩ := ih
    have key : ∀ {r' : Bool × Bool}, ((decide (x ∈ (b.getD y.toNat z56).f0) = true ∧ r' = (true, true)) ∨ (decide (x ∈ (b.getD y.toNat z56).f0) = false ∧ ((decide (x ∈ (b.getD y.toNat z56).f1) = true ∧ r' = (false, true)) ∨ (decide (x ∈ (b.getD y.toNat z56).f1) = false ∧ r' = r)))) →
        Ev (fun k => impl_NeededOn.l1 k x way (way.length : Int) (i : Int) g b) r' ∧ Ev (fun k => spec_NeededOn.l1 k x way (way.length : Int) (i : Int) g b) r' := by
      intro r' h
      constructor
      · refine Ev.step (fun k => by simp only [impl_NeededOn.l1]; rw [if_pos (by omega), if_pos (by omega), if_pos (by omega), hx, if_pos h0, if_pos h1, er]) ?_
        refine (contains_ev _ x hz.1).bind ?_
        rcases h with ⟨c, rfl⟩ | ⟨c, h⟩
        · rw [c]; exact ev_is fun k => rfl
        · rw [c]
          refine Ev.congr (fun k => by rw [if_neg (by simp)]) ((contains_ev _ x hz.2).bind ?_)
          rcases h with ⟨c, rfl⟩ | ⟨c, rfl⟩
          · rw [c]; exact ev_is fun k => rfl
          · rw [c]
            refine Ev.congr (fun k => by rw [if_neg (by simp), w64 (by omega) (by omega)]) ?_
            exact e1
      · refine Ev.step (fun k => by simp only [spec_NeededOn.l1]; rw [if_pos (by omega), if_pos (by omega), if_pos (by omega), hx, if_pos h0, if_pos h1, er]) ?_
        refine (has_ev _ x hz.1).bind ?_
        rcases h with ⟨c, rfl⟩ | ⟨c, h⟩
        · rw [c]; exact ev_is fun k => rfl
        · rw [c]
          refine Ev.congr (fun k => by rw [if_neg (by simp)]) ((has_ev _ x hz.2).bind ?_)
          rcases h with ⟨c, rfl⟩ | ⟨c, rfl⟩
          · rw [c]; exact ev_is fun k => rfl
          · rw [c]
            refine Ev.congr (fun k => by rw [if_neg (by simp), w64 (by omega) (by omega)]) ?_
            exact e2
    cases c1 : decide (x ∈ (b.getD y.toNat z56).f0) with
    | true => exact ⟨_, key (.inl ⟨c1, rfl⟩)⟩
    | false =>
      cases c2 : decide (x ∈ (b.getD y.toNat z56).f1) with
      | true => exact ⟨_, key (.inr ⟨c1, .inl ⟨c2, rfl⟩⟩)⟩
      | false => exact ⟨_, key (.inr ⟨c1, .inr ⟨c2, rfl⟩⟩)⟩

theorem needed_l0 (g : List (List Int)) (b : List S56) (way : List Int) (x : Int) (hg : Small g) (hb : SmallI b) (hw : way.length ≤ 1048576) (hl : b.length = g.length) (h1 : 1 ≤ b.length) :
    ∃ r, Ev (fun k => impl_NeededOn.l0 k way x way (way.length : Int) 0 g b) r ∧ Ev (fun k => spec_NeededOn.l0 k way x way (way.length : Int) 0 g b) r := by
  have hbl := hb.1
  refine down0 (n := way.length) (p := fun i => (∀ j, j < i → 0 ≤ way.getD j 0 ∧ way.getD j 0 < (b.length : Int)) → ∃ r, Ev (fun k => impl_NeededOn.l0 k way x way (way.length : Int) (i : Int) g b) r ∧ Ev (fun k => spec_NeededOn.l0 k way x way (way.length : Int) (i : Int) g b) r) ?h0 ?hs (fun j h => by omega)
  case h0 =>
    intro hr
    obtain ⟨r, e1, e2⟩ := needed_l1 g b way x hb hw hr
    refine ⟨r, Ev.step (fun k => ?_) e1, Ev.step (fun k => ?_) e2⟩
    · simp only [impl_NeededOn.l0]; rw [if_neg (by omega)]
    · simp only [spec_NeededOn.l0]; rw [if_neg (by omega)]
  case hs =>
    intro i hi ih hr
    have hx : rd way (i : Int) = way.getD i 0 := rfl
    have ew : wrap64 ((b.length : Int) - 1) = (b.length : Int) - 1 := w64 (by omega) (by omega)
    by_cases c0 : way.getD i 0 < 0
    · refine ⟨(false, false), Ev.step (f := fun _ => some (false, false)) (fun k => ?_) (Ev.now _), Ev.step (f := fun _ => some (false, false)) (fun k => ?_) (Ev.now _)⟩
      · simp only [impl_NeededOn.l0]
        rw [if_pos (by omega), if_pos (by omega), if_pos (by omega), hx, impl_within.tell, decide_eq_false (by omega : ¬ (0 : Int) ≤ way.getD i 0)]
        rfl
      · simp only [spec_NeededOn.l0]
        rw [if_pos (by omega), if_pos (by omega), if_pos (by omega), hx, if_pos c0]
    · by_cases c1 : way.getD i 0 ≥ (b.length : Int)
      · refine ⟨(false, false), Ev.step (f := fun _ => some (false, false)) (fun k => ?_) (Ev.now _), Ev.step (f := fun _ => some (false, false)) (fun k => ?_) (Ev.now _)⟩
        · simp only [impl_NeededOn.l0]
          rw [if_pos (by omega), if_pos (by omega), if_pos (by omega), hx, impl_within.tell, ew, decide_eq_false (by omega : ¬ way.getD i 0 ≤ (b.length : Int) - 1), Bool.and_false]
          rfl
        · simp only [spec_NeededOn.l0]
          rw [if_pos (by omega), if_pos (by omega), if_pos (by omega), hx, if_neg c0, if_pos c1]
      · have hin : (decide ((0 : Int) ≤ way.getD i 0) && decide (way.getD i 0 ≤ (b.length : Int) - 1)) = true := by rw [decide_eq_true (by omega : (0 : Int) ≤ way.getD i 0), decide_eq_true (by omega : way.getD i 0 ≤ (b.length : Int) - 1)]; rfl
        have ih' := ih (fun j hj => by
          by_cases e : j = i
          · rw [e]; omega
          · exact hr j (by omega))
        obtain ⟨r, e1, e2⟩ := ih'
        by_cases ci : i = 0
        · refine ⟨r, Ev.step (fun k => ?_) e1, Ev.step (fun k => ?_) e2⟩
          · simp only [impl_NeededOn.l0]
            rw [if_pos (by omega), if_pos (by omega), if_pos (by omega), hx, impl_within.tell, ew, hin, Option.bind_some, if_pos rfl, if_neg (by omega), w64 (by omega) (by omega)]
            rfl
          · simp only [spec_NeededOn.l0]
            rw [if_pos (by omega), if_pos (by omega), if_pos (by omega), hx, if_neg c0, if_neg c1, if_neg (by omega), w64 (by omega) (by omega)]
            rfl
        · have ew1 : wrap64 ((i : Int) - 1) = ((i - 1 : Nat) : Int) := by rw [w64 (by omega) (by omega)]; omega
          have hx1 : rd way (wrap64 ((i : Int) - 1)) = way.getD (i - 1) 0 := by rw [ew1]; rfl
          obtain ⟨h2, h3⟩ := hr (i - 1) (by omega)
          have hz : (rd_L1 g (way.getD (i - 1) 0)).length ≤ 1048576 := hg.at (i := (way.getD (i - 1) 0).toNat) (by omega)
          have key : ∀ {r' : Bool × Bool}, ((decide (way.getD i 0 ∈ rd_L1 g (way.getD (i - 1) 0)) = true ∧ r' = r) ∨ (decide (way.getD i 0 ∈ rd_L1 g (way.getD (i - 1) 0)) = false ∧ r' = (false, false))) →
              Ev (fun k => impl_NeededOn.l0 k way x way (way.length : Int) (i : Int) g b) r' ∧ Ev (fun k => spec_NeededOn.l0 k way x way (way.length : Int) (i : Int) g b) r' := by
            intro r' h
            constructor
            · refine Ev.step (fun k => by
                simp only [impl_NeededOn.l0]
                rw [if_pos (by omega), if_pos (by omega), if_pos (by omega), hx, impl_within.tell, ew, hin, Option.bind_some, if_pos rfl, if_pos (by omega), if_pos (by rw [ew1]; omega), if_pos (by rw [ew1]; omega), hx1, if_pos h2, if_pos (by omega)]) ?_
              refine (contains_ev _ _ hz).bind ?_
              rcases h with ⟨c, rfl⟩ | ⟨c, rfl⟩
              · rw [c]
                refine Ev.congr (fun k => by rw [if_pos rfl, w64 (by omega) (by omega)]) ?_
                exact e1
              · rw [c]; exact ev_is fun k => rfl
            · refine Ev.step (fun k => by
                simp only [spec_NeededOn.l0]
                rw [if_pos (by omega), if_pos (by omega), if_pos (by omega), hx, if_neg c0, if_neg c1, if_pos (by omega), if_pos (by rw [ew1]; omega), if_pos (by rw [ew1]; omega), hx1, if_pos h2, if_pos (by omega)]) ?_
              refine (has_ev _ _ hz).bind ?_
              rcases h with ⟨c, rfl⟩ | ⟨c, rfl⟩
              · rw [c]
                refine Ev.congr (fun k => by rw [if_pos rfl, w64 (by omega) (by omega)]) ?_
                exact e2
              · rw [c]; exact ev_is fun k => rfl
          cases c : decide (way.getD i 0 ∈ rd_L1 g (way.getD (i - 1) 0)) with
          | true => exact ⟨_, key (.inl ⟨c, rfl⟩)⟩
          | false => exact ⟨_, key (.inr ⟨c, rfl⟩)⟩

theorem needed_ev (g : List (List Int)) (b : List S56) (way : List Int) (x : Int) (hg : Small g) (hb : SmallI b) (hw : way.length ≤ 1048576) :
    ∃ r, Ev (fun k => impl_NeededOn.f k g b way x) r ∧ Ev (fun k => spec_NeededOn.f k g b way x) r := by
  unfold impl_NeededOn.f spec_NeededOn.f
  have hj1 : Ev (fun k => impl_NeededOn.j0 k way x true g b) (false, false) := Ev.step (f := fun _ => some (false, false)) (fun k => by simp [impl_NeededOn.j0]) (Ev.now _)
  have hj2 : Ev (fun k => spec_NeededOn.j0 k way x true g b) (false, false) := Ev.step (f := fun _ => some (false, false)) (fun k => by simp [spec_NeededOn.j0]) (Ev.now _)
  by_cases hgf : goodF g b = true
  · have hlen : b.length = g.length ∧ 1 ≤ b.length := by
      unfold goodF goodG at hgf
      simp only [Bool.and_eq_true, decide_eq_true_eq] at hgf
      omega
    obtain ⟨r, e1, e2⟩ := needed_l0 g b way x hg hb hw hlen.1 hlen.2
    have hf1 : Ev (fun k => impl_NeededOn.j0 k way x false g b) r := Ev.step (fun k => by simp only [impl_NeededOn.j0]; rw [if_neg (by simp)]) e1
    have hf2 : Ev (fun k => spec_NeededOn.j0 k way x false g b) r := Ev.step (fun k => by simp only [spec_NeededOn.j0]; rw [if_neg (by simp)]) e2
    have a1 : Ev (fun _ : Nat => impl_GoodFlow.f g b) true := ev_some (by unfold impl_GoodFlow.f; rw [hgf])
    have a2 : Ev (fun k => spec_GoodFlow.f k g b) true := ev_eq (specGoodFlow_ev g b hg hb) hgf
    cases c1 : (decide ((1 : Int) ≤ (way.length : Int)) && decide ((way.length : Int) ≤ 30)) with
    | false =>
      refine ⟨(false, false), a1.bind ?_, a2.bind ?_⟩
      · refine Ev.congr (fun k => by rw [if_pos rfl, impl_within.tell, c1, Option.bind_some, if_neg (by simp)]) hj1
      · refine Ev.congr (fun k => by rw [if_pos rfl, l1In_tell, c1, Option.bind_some, if_neg (by simp)]) hj2
    | true =>
      cases c2 : (decide ((0 : Int) ≤ x) && decide (x ≤ 7)) with
      | false =>
        refine ⟨(false, false), a1.bind ?_, a2.bind ?_⟩
        · refine Ev.congr (fun k => by rw [if_pos rfl, impl_within.tell, c1, Option.bind_some, if_pos rfl, impl_within.tell, c2, Option.bind_some, Bool.not_false]) hj1
        · refine Ev.congr (fun k => by rw [if_pos rfl, l1In_tell, c1, Option.bind_some, if_pos rfl, l1In_tell, c2, Option.bind_some, Bool.not_false]) hj2
      | true =>
        refine ⟨r, a1.bind ?_, a2.bind ?_⟩
        · refine Ev.congr (fun k => by rw [if_pos rfl, impl_within.tell, c1, Option.bind_some, if_pos rfl, impl_within.tell, c2, Option.bind_some, Bool.not_true]) hf1
        · refine Ev.congr (fun k => by rw [if_pos rfl, l1In_tell, c1, Option.bind_some, if_pos rfl, l1In_tell, c2, Option.bind_some, Bool.not_true]) hf2
  · have hgf' : goodF g b = false := by simpa using hgf
    have a1 : Ev (fun _ : Nat => impl_GoodFlow.f g b) false := ev_some (by unfold impl_GoodFlow.f; rw [hgf'])
    have a2 : Ev (fun k => spec_GoodFlow.f k g b) false := ev_eq (specGoodFlow_ev g b hg hb) hgf'
    refine ⟨(false, false), a1.bind ?_, a2.bind ?_⟩
    · refine Ev.congr (fun k => by rw [if_neg (by simp)]) hj1
    · refine Ev.congr (fun k => by rw [if_neg (by simp)]) hj2

theorem opensInt : Opens Try.prog 3 (Kd.int .i64) I64 := Opens.int Try.underlying3

theorem neededOn_law (g : List (List Int)) (b : List S97) (way : List Int) (x : Int) (hn : g.length ≤ 9223372036854775807) (hm : b.length ≤ 9223372036854775807) (hl : Len (Len I64) g ∧ Len I64B b) (hw0 : way.length ≤ 9223372036854775807) (_ : ∀ y ∈ way, I64 y) (_ : I64 x) : ∃ k, laws_FnExactNeededOn.f k g b way x = some true := by
  apply Ev.rounds
  unfold laws_FnExactNeededOn.f
  by_cases hw : (way.length : Int) > 1048576
  · exact Ev.congr (fun k => by rw [if_pos hw]) (Ev.now _)
  refine Ev.congr (fun k => by rw [if_neg hw]) ?_
  have hwl : way.length ≤ 1048576 := by omega
  obtain ⟨v, hv, h⟩ := szFlow_ev g b 1048576 (by omega) (by omega) hl.1 hl.2
  refine hv.bind ?_
  by_cases c : v < 0
  · exact Ev.congr (fun k => by rw [if_pos c]) (Ev.now _)
  · have hs : Small g ∧ SmallB b := by rcases h with h | h; exact absurd h c; exact h.2.2
    refine Ev.congr (fun k => by rw [if_neg c]) ?_
    have hT := toFlow_ev g b hs.1 hs.2
    have hI := toIntS_ev way hwl
    obtain ⟨r, e1, e2⟩ := needed_ev g (b.map cvBlock) way x hs.1 hs.2.cv hwl
    refine hT.bind (hI.bind (e2.bind (hT.bind (hI.bind (e1.bind ?_)))))
    refine Ev.congr (fun k => by rw [if_neg (by simp)]) ?_
    have e0 : (r.2 != r.2) = false := by simp
    rw [e0]
    refine Ev.step (fun k => by simp only [laws_FnExactNeededOn.j0]; rw [if_neg (by simp)]) ?_
    refine hT.bind ((eqFlow_ev g _ hs.1 hs.2.cv).bind ?_)
    refine Ev.congr (fun k => by rw [if_pos rfl]) (hI.bind ((eqIntS_ev way hwl).bind ?_))
    exact ev_is fun _ => rfl
end Go.Proofs.Ytkfpbblaomgihaa.Q
