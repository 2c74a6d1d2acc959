import Derived.Test.YtkfpbblaomgihaaMFnExactIsFixed1
import Derived.Test.YtkfpbblaomgihaaMFnExactIsFixed2
import Derived.Test.YtkfpbblaomgihaaMFnExactIsFixed3
import Derived.Test.YtkfpbblaomgihaaMFnExactIsFixed4
/- Good flows: the program and the reference tell the same. -/
namespace Go.Proofs.Ytkfpbblaomgihaa.Q
open Go.RowKit Go.Proofs.Ytkfpbblaomgihaa.P Go.Proofs.Ytkfpbblaomgihaa.H Go.Proofs.YtkfpbblaomgihaaW.PrintWords
set_option linter.unusedVariables false

def cvBlock (x : S97) : S56 := ⟨x.f0, x.f1⟩
def SmallB (b : List S97) : Prop := b.length ≤ 1048576 ∧ ∀ x ∈ b, x.f0.length ≤ 1048576 ∧ x.f1.length ≤ 1048576
def SmallI (b : List S56) : Prop := b.length ≤ 1048576 ∧ ∀ x ∈ b, x.f0.length ≤ 1048576 ∧ x.f1.length ≤ 1048576

theorem SmallB.at {g : List S97} (h : SmallB g) {i : Nat} (hi : i < g.length) : (g.getD i z97).f0.length ≤ 1048576 ∧ (g.getD i z97).f1.length ≤ 1048576 := by
  rw [List.getD_eq_getElem?_getD, List.getElem?_eq_getElem hi]
  exact h.2 _ (List.getElem_mem hi)
theorem SmallI.at {g : List S56} (h : SmallI g) {i : Nat} (hi : i < g.length) : (g.getD i z56).f0.length ≤ 1048576 ∧ (g.getD i z56).f1.length ≤ 1048576 := by
  rw [List.getD_eq_getElem?_getD, List.getElem?_eq_getElem hi]
  exact h.2 _ (List.getElem_mem hi)
theorem SmallB.cv {b : List S97} (h : SmallB b) : SmallI (b.map cvBlock) := by
  refine ⟨by simpa using h.1, fun x hx => ?_⟩
  obtain ⟨y, hy, rfl⟩ := List.mem_map.1 hx
  exact h.2 y hy

theorem toBlockS_ev (b : List S97) (hb : SmallB b) : Ev (fun k => laws_toBlockS.f k b) (b.map cvBlock) := by
  have hl := hb.1
  unfold laws_toBlockS.f
  refine Ev.congr (fun k => by rw [if_pos (by omega), if_pos (by omega)]) ?_
  have key := down (n := b.length) (p := fun i => ∀ acc : List S56, acc.length = (b.map cvBlock).length → acc.take i = (b.map cvBlock).take i → Ev (fun k => laws_toBlockS.l0 k b acc (i : Int)) (b.map cvBlock)) ?h0 ?hs 0 (Nat.zero_le _)
  · exact key _ (by simp) (by simp)
  case h0 =>
    intro acc ha ht
    refine Ev.step (f := fun _ => some acc) (fun k => by simp only [laws_toBlockS.l0]; rw [if_neg (by omega)]) ?_
    have e : acc = b.map cvBlock := full ha (by simpa using ht)
    rw [e]
    exact Ev.now _
  case hs =>
    intro i hi ih acc ha ht
    have ha' : acc.length = b.length := by simpa using ha
    have hz := hb.at hi
    have er : rd_T97 b (i : Int) = b.getD i z97 := rfl
    refine Ev.step (fun k => by simp only [laws_toBlockS.l0]; rw [if_pos (by omega), if_pos (by omega), er]) ?_
    have e1 : Ev (fun k => laws_toBlock.f k (b.getD i z97).f0 (b.getD i z97).f1) ((b.getD i z97).f0, (b.getD i z97).f1) := by
      unfold laws_toBlock.f
      exact (toIntS_ev _ hz.1).bind ((toIntS_ev _ hz.2).bind (Ev.now _))
    refine Ev.bind e1 ?_
    refine Ev.congr (fun k => by rw [if_pos (by omega), w64 (by omega) (by omega)]) ?_
    exact ih _ (by simpa using ha) (fill_step ha ht (by rw [List.getElem?_map, getD_some z97 hi]; rfl))

theorem eqBlockS_ev (b : List S56) (hb : SmallI b) : Ev (fun k => laws_eqBlockS.f k b b) true := by
  have hl := hb.1
  unfold laws_eqBlockS.f
  refine Ev.congr (fun k => by rw [if_pos rfl]) ?_
  refine down0 (n := b.length) (p := fun i => Ev (fun k => laws_eqBlockS.l0 k b b (i : Int)) true) ?h0 ?hs
  case h0 => exact Ev.step (f := fun _ => some true) (fun k => by simp only [laws_eqBlockS.l0]; rw [if_neg (by omega)]) (Ev.now _)
  case hs =>
    intro i hi ih
    have hz := hb.at hi
    have er : rd_T56 b (i : Int) = b.getD i z56 := rfl
    refine Ev.step (fun k => by simp only [laws_eqBlockS.l0]; rw [if_pos (by omega), if_pos (by omega), if_pos (by omega), er]) ?_
    have e1 : Ev (fun k => laws_eqBlock.f k (b.getD i z56).f0 (b.getD i z56).f1 (b.getD i z56).f0 (b.getD i z56).f1) true := by
      unfold laws_eqBlock.f
      refine (eqIntS_ev _ hz.1).bind ?_
      refine Ev.congr (fun k => by rw [if_pos rfl]) ((eqIntS_ev _ hz.2).bind ?_)
      exact ev_is fun k => rfl
    refine Ev.bind e1 ?_
    refine Ev.congr (fun k => by rw [if_pos rfl, w64 (by omega) (by omega)]) ?_
    exact ih

def I64B (x : S97) : Prop := Len I64 x.f0 ∧ Len I64 x.f1

theorem szBlockS_ev (g : List S97) (b : Int) (hb0 : 0 ≤ b) (hb : b ≤ 1048576) (hl : Len I64B g) : ∃ v, Ev (fun k => laws_szBlockS.f k g b) v ∧ (v < 0 ∨ 0 ≤ v ∧ v ≤ b ∧ SmallB g) := by
  have hlen := hl.1
  unfold laws_szBlockS.f
  rw [w64 (x := b - (g.length : Int)) (by omega) (by omega)]
  by_cases c : b - (g.length : Int) < 0
  · refine ⟨-1, ?_, .inl (by omega)⟩
    exact Ev.congr (fun k => by rw [if_pos c]) (Ev.now _)
  · have key := down (n := g.length) (p := fun i => ∀ t : Int, 0 ≤ t → t ≤ b → ∃ v, Ev (fun k => laws_szBlockS.l0 k g t (i : Int)) v ∧ (v < 0 ∨ 0 ≤ v ∧ v ≤ b ∧ ∀ j, i ≤ j → j < g.length → (g.getD j z97).f0.length ≤ 1048576 ∧ (g.getD j z97).f1.length ≤ 1048576)) ?h0 ?hs 0 (Nat.zero_le _) (b - (g.length : Int)) (by omega) (by omega)
    · obtain ⟨v, hv, h⟩ := key
      refine ⟨v, Ev.congr (fun k => by rw [if_neg c]; rfl) hv, ?_⟩
      rcases h with h | ⟨h1, h2, h3⟩
      · exact .inl h
      · refine .inr ⟨h1, h2, by omega, fun l hm => ?_⟩
        obtain ⟨j, hj, e⟩ := List.getElem_of_mem hm
        have := h3 j (Nat.zero_le _) hj
        rw [List.getD_eq_getElem?_getD, List.getElem?_eq_getElem hj, e] at this
        exact this
    case h0 =>
      intro t h0 h1
      refine ⟨t, Ev.step (f := fun _ => some t) (fun k => by simp only [laws_szBlockS.l0]; rw [if_neg (by omega)]) (Ev.now _), .inr ⟨h0, h1, fun j h h' => by omega⟩⟩
    case hs =>
      intro i hi ih t h0 h1
      have hr : (g.getD i z97).f0.length ≤ 9223372036854775807 ∧ (g.getD i z97).f1.length ≤ 9223372036854775807 := by
        rw [List.getD_eq_getElem?_getD, List.getElem?_eq_getElem hi]
        exact ⟨(hl.2 _ (List.getElem_mem hi)).1.1, (hl.2 _ (List.getElem_mem hi)).2.1⟩
      have er : rd_T97 g (i : Int) = g.getD i z97 := rfl
      by_cases c2 : t - ((g.getD i z97).f0.length : Int) < 0
      · refine ⟨-1, Ev.step (f := fun _ => some (-1)) (fun k => ?_) (Ev.now _), .inl (by omega)⟩
        simp only [laws_szBlockS.l0, laws_szBlock.f, laws_szIntS.f, er]
        rw [if_pos (by omega), if_pos (by omega), w64 (by omega) (by omega), if_pos c2]
        rfl
      · by_cases c3 : t - ((g.getD i z97).f0.length : Int) - ((g.getD i z97).f1.length : Int) < 0
        · refine ⟨-1, Ev.step (f := fun _ => some (-1)) (fun k => ?_) (Ev.now _), .inl (by omega)⟩
          simp only [laws_szBlockS.l0, laws_szBlock.f, laws_szIntS.f, er]
          rw [if_pos (by omega), if_pos (by omega), w64 (x := t - _) (by omega) (by omega), if_neg c2, Option.bind_some, if_neg c2, w64 (by omega) (by omega), if_pos c3]
          rfl
        · obtain ⟨v, hv, h⟩ := ih (t - ((g.getD i z97).f0.length : Int) - ((g.getD i z97).f1.length : Int)) (by omega) (by omega)
          refine ⟨v, Ev.step (fun k => ?_) hv, ?_⟩
          · simp only [laws_szBlockS.l0, laws_szBlock.f, laws_szIntS.f, er]
            rw [if_pos (by omega), if_pos (by omega), w64 (x := t - _) (by omega) (by omega), if_neg c2, Option.bind_some, if_neg c2, w64 (by omega) (by omega), if_neg c3, Option.bind_some, if_neg c3, Option.bind_some, if_neg c3, w64 (by omega) (by omega)]
            rfl
          · rcases h with h | ⟨h2, h3, h4⟩
            · exact .inl h
            · refine .inr ⟨h2, h3, fun j hj hj' => ?_⟩
              by_cases e : j = i
              · rw [e]; omega
              · exact h4 j (by omega) hj'

theorem toFlow_ev (g : List (List Int)) (b : List S97) (hg : Small g) (hb : SmallB b) : Ev (fun k => laws_toFlow.f k g b) (g, b.map cvBlock) := by
  unfold laws_toFlow.f
  exact (toGraph_ev g hg).bind ((toBlockS_ev b hb).bind (Ev.now _))

theorem eqFlow_ev (g : List (List Int)) (b : List S56) (hg : Small g) (hb : SmallI b) : Ev (fun k => laws_eqFlow.f k g b g b) true := by
  unfold laws_eqFlow.f
  refine (eqGraph_ev g hg).bind ?_
  refine Ev.congr (fun k => by rw [if_pos rfl]) ((eqBlockS_ev b hb).bind ?_)
  exact ev_is fun k => rfl

theorem szFlow_ev (g : List (List Int)) (b : List S97) (t : Int) (h0 : 0 ≤ t) (h1 : t ≤ 1048576) (hg : Len (Len I64) g) (hb : Len I64B b) : ∃ v, Ev (fun k => laws_szFlow.f k g b t) v ∧ (v < 0 ∨ 0 ≤ v ∧ v ≤ t ∧ Small g ∧ SmallB b) := by
  obtain ⟨v, hv, h⟩ := szGraph_ev g t h0 h1 hg
  unfold laws_szFlow.f
  by_cases c : v < 0
  · exact ⟨-1, hv.bind (Ev.congr (fun k => by rw [if_pos c]) (Ev.now _)), .inl (by omega)⟩
  · have h' : 0 ≤ v ∧ v ≤ t ∧ Small g := by rcases h with h | h; exact absurd h c; exact h
    obtain ⟨u, hu, h2⟩ := szBlockS_ev b v h'.1 (by omega) hb
    by_cases c2 : u < 0
    · exact ⟨-1, hv.bind (Ev.congr (fun k => by rw [if_neg c]) (hu.bind (Ev.congr (fun k => by rw [if_pos c2]) (Ev.now _)))), .inl (by omega)⟩
    · have h3 : 0 ≤ u ∧ u ≤ v ∧ SmallB b := by rcases h2 with h | h; exact absurd h c2; exact h
      exact ⟨u, hv.bind (Ev.congr (fun k => by rw [if_neg c]) (hu.bind (Ev.congr (fun k => by rw [if_neg c2]) (Ev.now _)))), .inr ⟨h3.1, by omega, h'.2.2, h3.2.2⟩⟩

theorem l12Names_ev (l : List Int) (hl : l.length ≤ 1048576) : Ev (fun k => spec_l12Names.f k l) (upB l 0 7 0) := by
  unfold spec_l12Names.f
  refine down0 (n := l.length) (p := fun j => Ev (fun k => spec_l12Names.l0 k l l (l.length : Int) (j : Int)) (upB l 0 7 j)) ?h0 ?hs
  case h0 =>
    rw [upB_end]
    exact Ev.step (f := fun _ => some true) (fun k => by simp only [spec_l12Names.l0]; rw [if_neg (by omega)]) (Ev.now _)
  case hs =>
    intro j hj ih
    rw [upB_step l 0 _ hj]
    have hx : rd l (j : Int) = l.getD j 0 := rfl
    by_cases c : 0 ≤ l.getD j 0 ∧ l.getD j 0 ≤ 7
    · have ct : (decide (0 ≤ l.getD j 0) && decide (l.getD j 0 ≤ 7)) = true := by rw [decide_eq_true c.1, decide_eq_true c.2]; rfl
      by_cases cj : j = 0
      · rw [upAt_yes c.1 c.2 (.inl cj), Bool.true_and]
        refine Ev.step (fun k => ?_) ih
        simp only [spec_l12Names.l0]
        rw [if_pos (by omega), if_pos (by omega), if_pos (by omega), hx, l1In_tell, ct, Option.bind_some, if_pos rfl, if_neg (by omega), w64 (by omega) (by omega)]
        rfl
      · have ew : wrap64 ((j : Int) - 1) = ((j - 1 : Nat) : Int) := by rw [w64 (by omega) (by omega)]; omega
        have hx1 : rd l (wrap64 ((j : Int) - 1)) = l.getD (j - 1) 0 := by rw [ew]; rfl
        by_cases c2 : l.getD (j - 1) 0 ≥ l.getD j 0
        · rw [upAt_no (by omega), Bool.false_and]
          refine Ev.step (f := fun _ => some false) (fun k => ?_) (Ev.now _)
          simp only [spec_l12Names.l0]
          rw [if_pos (by omega), if_pos (by omega), if_pos (by omega), hx, l1In_tell, ct, Option.bind_some, if_pos rfl, if_pos (by omega), if_pos (by rw [ew]; omega), if_pos (by rw [ew]; omega), hx1, if_pos c2]
        · rw [upAt_yes c.1 c.2 (.inr (by omega)), Bool.true_and]
          refine Ev.step (fun k => ?_) ih
          simp only [spec_l12Names.l0]
          rw [if_pos (by omega), if_pos (by omega), if_pos (by omega), hx, l1In_tell, ct, Option.bind_some, if_pos rfl, if_pos (by omega), if_pos (by rw [ew]; omega), if_pos (by rw [ew]; omega), hx1, if_neg c2, w64 (by omega) (by omega)]
          rfl
    · rw [upAt_no (by omega), Bool.false_and]
      have ct : (decide (0 ≤ l.getD j 0) && decide (l.getD j 0 ≤ 7)) = false := by
        rw [Bool.eq_false_iff]
        intro h
        simp only [Bool.and_eq_true, decide_eq_true_eq] at h
        exact c h
      refine Ev.step (f := fun _ => some false) (fun k => ?_) (Ev.now _)
      simp only [spec_l12Names.l0]
      rw [if_pos (by omega), if_pos (by omega), if_pos (by omega), hx, l1In_tell, ct, Option.bind_some, if_neg (by simp)]

theorem specGoodFlow_ev (g : List (List Int)) (b : List S56) (hg : Small g) (hb : SmallI b) : Ev (fun k => spec_GoodFlow.f k g b) (goodF g b) := by
  have hlen := hb.1
  unfold spec_GoodFlow.f
  have key := down0 (n := b.length) (p := fun i => Ev (fun k => spec_GoodFlow.l0 k b (b.length : Int) (i : Int) g b) ((b.drop i).all okBlock && (goodG g && decide (b.length = g.length)))) ?h0 ?hs
  · refine ev_eq key ?_
    unfold goodF
    rw [List.drop_zero, Bool.and_comm]
  case h0 =>
    refine Ev.step (fun k => by simp only [spec_GoodFlow.l0]; rw [if_neg (by omega)]) ?_
    refine (specGoodGraph_ev g hg).bind ?_
    cases goodG g with
    | false => exact ev_is fun k => by simp
    | true =>
      refine ev_is fun k => ?_
      rw [if_pos rfl, List.drop_length, List.all_nil, Bool.true_and, Bool.true_and]
      congr 1
      rw [Bool.eq_iff_iff]
      simp
      omega
  case hs =>
    intro i hi ih
    have e : b.drop i = b.getD i z56 :: b.drop (i + 1) := by
      rw [List.drop_eq_getElem_cons hi, List.getD_eq_getElem?_getD, List.getElem?_eq_getElem hi]
      rfl
    have hz := hb.at hi
    have er : rd_T56 b (i : Int) = b.getD i z56 := rfl
    rw [e, List.all_cons, Bool.and_assoc]
    refine Ev.step (fun k => by simp only [spec_GoodFlow.l0]; rw [if_pos (by omega), if_pos (by omega), if_pos (by omega), er]) ?_
    generalize ((b.drop (i + 1)).all okBlock && (goodG g && decide (b.length = g.length))) = R at ih ⊢
    unfold okBlock
    refine (l12Names_ev _ hz.1).bind ?_
    cases upB (b.getD i z56).f0 0 7 0 with
    | false => exact ev_is fun k => by simp
    | true =>
      refine Ev.congr (fun k => by rw [if_pos rfl]) ((l12Names_ev _ hz.2).bind ?_)
      cases upB (b.getD i z56).f1 0 7 0 with
      | false => exact ev_is fun k => by simp
      | true =>
        refine Ev.congr (fun k => by rw [if_pos rfl, w64 (by omega) (by omega)]) ?_
        exact ih

theorem opensBlock : Opens Try.prog 97 k97 I64B :=
  Opens.iso (Opens.struct2 Try.underlying97 rfl rfl (by kernel_rfl) (by kernel_rfl) (by kernel_rfl) opensRow opensRow) (fun x : S97 => (x.f0, x.f1)) (fun a => (⟨a.1, a.2⟩ : S97)) (fun _ => rfl)
theorem opensBlocks : Opens Try.prog 25 (Kd.slice 97 k97) (Len I64B) := Opens.sliceL Try.underlying25 (by kernel_rfl) opensBlock
theorem opensFlow : Opens Try.prog 27 (Kd.pair (Kd.slice 37 (Kd.slice 3 (Kd.int .i64))) (Kd.slice 97 k97)) (fun x => Len (Len I64) x.1 ∧ Len I64B x.2) :=
  Opens.struct2 Try.underlying27 rfl rfl (by kernel_rfl) (by kernel_rfl) (by kernel_rfl) opensGraph opensBlocks
end Go.Proofs.Ytkfpbblaomgihaa.Q

/- Is a number in a list? The program's and the reference's own tellings. -/
namespace Go.Proofs.Ytkfpbblaomgihaa.Q
open Go.RowKit Go.Proofs.Ytkfpbblaomgihaa.P Go.Proofs.Ytkfpbblaomgihaa.H Go.Proofs.YtkfpbblaomgihaaW.PrintWords
set_option linter.unusedVariables false

theorem drop_eq {l : List Int} {i : Nat} (hi : i < l.length) : l.drop i = l.getD i 0 :: l.drop (i + 1) := by
  rw [List.drop_eq_getElem_cons hi, List.getD_eq_getElem?_getD, List.getElem?_eq_getElem hi]
  rfl

theorem has_ev (l : List Int) (x : Int) (hl : l.length ≤ 1048576) : Ev (fun k => spec_l1Has.f k l x) (decide (x ∈ l)) := by
  unfold spec_l1Has.f
  refine ev_eq (down0 (n := l.length) (p := fun i => Ev (fun k => spec_l1Has.l0 k x l (l.length : Int) (i : Int)) (decide (x ∈ l.drop i))) ?h0 ?hs) (by rw [List.drop_zero])
  case h0 => exact Ev.step (f := fun _ => some false) (fun k => by simp only [spec_l1Has.l0]; rw [if_neg (by omega)]) (by rw [List.drop_length]; simpa using Ev.now _)
  case hs =>
    intro i hi ih
    have hr : rd l (i : Int) = l.getD i 0 := rfl
    rw [drop_eq hi]
    by_cases c : l.getD i 0 = x
    · refine Ev.step (f := fun _ => some true) (fun k => ?_) (ev_is fun k => by rw [c]; simp)
      simp only [spec_l1Has.l0]
      rw [if_pos (by omega), if_pos (by omega), if_pos (by omega), hr, if_pos c]
    · refine Ev.step (fun k => ?_) (ev_eq ih ?_)
      · simp only [spec_l1Has.l0]
        rw [if_pos (by omega), if_pos (by omega), if_pos (by omega), hr, if_neg c, w64 (by omega) (by omega)]
        rfl
      · rw [decide_eq_decide, List.mem_cons]
        constructor
        · exact .inr
        · rintro (h | h)
          · exact absurd h.symm c
          · exact h
end Go.Proofs.Ytkfpbblaomgihaa.Q

/- Rising lists of numbers as sets. -/
namespace Go.Proofs.Ytkfpbblaomgihaa.Q
open Go.RowKit Go.Proofs.Ytkfpbblaomgihaa.P Go.Proofs.Ytkfpbblaomgihaa.H Go.Proofs.YtkfpbblaomgihaaW.PrintWords
set_option linter.unusedVariables false

/-- A list that rises. -/
def Srt (l : List Int) : Prop := l.Pairwise (· < ·)

theorem srt_ext : ∀ {a b : List Int}, Srt a → Srt b → (∀ x, x ∈ a ↔ x ∈ b) → a = b
  | [], [], _, _, _ => rfl
  | [], y :: b, _, _, h => by have := (h y).2 (by simp); simp at this
  | x :: a, [], _, _, h => by have := (h x).1 (by simp); simp at this
  | x :: a, y :: b, ha, hb, h => by
    have ha' := List.pairwise_cons.1 ha
    have hb' := List.pairwise_cons.1 hb
    have e : x = y := by
      rcases List.mem_cons.1 ((h x).1 (by simp)) with e | e
      · exact e
      · rcases List.mem_cons.1 ((h y).2 (by simp)) with e2 | e2
        · exact e2.symm
        · have h1 := hb'.1 x e
          have h2 := ha'.1 y e2
          omega
    subst e
    congr 1
    refine srt_ext ha'.2 hb'.2 (fun z => ?_)
    constructor
    · intro hz
      rcases List.mem_cons.1 ((h z).1 (by simp [hz])) with e | e
      · have := ha'.1 z hz; omega
      · exact e
    · intro hz
      rcases List.mem_cons.1 ((h z).2 (by simp [hz])) with e | e
      · have := hb'.1 z hz; omega
      · exact e

/-- Put in its place. -/
def putL : List Int → Int → List Int
  | [], x => [x]
  | y :: l, x => if y < x then y :: putL l x else if y = x then y :: l else x :: y :: l

theorem putL_mem (x : Int) : ∀ (l : List Int) (y : Int), y ∈ putL l x ↔ y ∈ l ∨ y = x
  | [], y => by simp [putL]
  | z :: l, y => by
    unfold putL
    by_cases h1 : z < x
    · rw [if_pos h1, List.mem_cons, putL_mem x l y, List.mem_cons, or_assoc]
    · rw [if_neg h1]
      by_cases h2 : z = x
      · rw [if_pos h2]
        constructor
        · exact .inl
        · rintro (h | h)
          · exact h
          · rw [h, ← h2]; simp
      · rw [if_neg h2, List.mem_cons, or_comm]

theorem putL_srt (x : Int) : ∀ (l : List Int), Srt l → Srt (putL l x)
  | [], _ => by unfold putL Srt; simp
  | z :: l, h => by
    have h' := List.pairwise_cons.1 h
    unfold putL
    by_cases h1 : z < x
    · rw [if_pos h1]
      refine List.pairwise_cons.2 ⟨fun y hy => ?_, putL_srt x l h'.2⟩
      rcases (putL_mem x l y).1 hy with e | e
      · exact h'.1 y e
      · omega
    · rw [if_neg h1]
      by_cases h2 : z = x
      · rw [if_pos h2]; exact h
      · rw [if_neg h2]
        refine List.pairwise_cons.2 ⟨fun y hy => ?_, h⟩
        rcases List.mem_cons.1 hy with e | e
        · omega
        · have := h'.1 y e; omega

theorem putL_len (x : Int) : ∀ (l : List Int), (putL l x).length ≤ l.length + 1
  | [] => by simp [putL]
  | z :: l => by
    have := putL_len x l
    unfold putL
    split
    · simp; omega
    · split
      · simp
      · simp

theorem putL_split (x : Int) : ∀ (l : List Int) (i : Nat), (∀ j, j < i → l.getD j 0 < x) → i ≤ l.length → putL l x = l.take i ++ putL (l.drop i) x
  | l, 0, _, _ => by simp
  | [], i + 1, _, h => by simp at h
  | z :: l, i + 1, h, hl => by
    have h0 : z < x := h 0 (by omega)
    show (if z < x then z :: putL l x else _) = _
    rw [if_pos h0, List.take_succ_cons, List.drop_succ_cons, List.cons_append, ← putL_split x l i (fun j hj => h (j + 1) (by omega)) (by simpa using hl)]

theorem put_ev (l : List Int) (x : Int) (hl : l.length ≤ 1048576) : Ev (fun k => spec_l1Put.f k l x) (putL l x) := by
  unfold spec_l1Put.f
  refine down (n := l.length) (p := fun i => (∀ j, j < i → l.getD j 0 < x) → Ev (fun k => spec_l1Put.l0 k l x (i : Int)) (putL l x)) ?h0 ?hs 0 (Nat.zero_le _) (fun j h => by omega)
  case h0 =>
    intro hj
    refine Ev.step (f := fun _ => some (putL l x)) (fun k => ?_) (Ev.now _)
    simp only [spec_l1Put.l0]
    rw [if_neg (by omega), if_pos (by omega), if_pos (by omega)]
    simp only [Option.bind_some, List.nil_append, List.length_nil, Int.toNat_natCast, List.take_length, List.drop_length, List.append_nil, Nat.zero_add, Nat.add_zero]
    have h2 : (l ++ [x]).length < 17592186044416 := by rw [List.length_append, List.length_cons, List.length_nil]; omega
    rw [if_pos (by omega), if_pos (by omega), if_pos h2, putL_split x l l.length hj (Nat.le_refl _), List.take_length, List.drop_length]
    rfl
  case hs =>
    intro i hi ih hj
    have hr : rd l (i : Int) = l.getD i 0 := rfl
    by_cases c : l.getD i 0 < x
    · refine Ev.step (fun k => ?_) (ih (fun j h => by
        by_cases e : j = i
        · rw [e]; exact c
        · exact hj j (by omega)))
      simp only [spec_l1Put.l0]
      rw [if_pos (by omega), if_pos (by omega), hr, if_pos c, w64 (by omega) (by omega)]
      rfl
    · have hs := putL_split x l i hj (by omega)
      rw [drop_eq hi] at hs
      by_cases c2 : l.getD i 0 = x
      · refine Ev.step (f := fun _ => some l) (fun k => ?_) (ev_is fun k => ?_)
        · simp only [spec_l1Put.l0]
          rw [if_pos (by omega), if_pos (by omega), hr, if_neg c, if_pos c2]
        · rw [hs]
          show some l = some (l.take i ++ (if l.getD i 0 < x then _ else if l.getD i 0 = x then _ else _))
          rw [if_neg c, if_pos c2, ← drop_eq hi, List.take_append_drop]
      · refine Ev.step (f := fun _ => some (putL l x)) (fun k => ?_) (Ev.now _)
        have hp : putL l x = l.take i ++ x :: l.drop i := by
          rw [hs]
          show l.take i ++ (if l.getD i 0 < x then _ else if l.getD i 0 = x then _ else _) = _
          rw [if_neg c, if_neg c2, ← drop_eq hi]
        simp only [spec_l1Put.l0]
        rw [if_pos (by omega), if_pos (by omega), hr, if_neg c, if_neg c2, if_pos (by omega)]
        simp only [Option.bind_some, List.nil_append, List.length_nil, Int.toNat_natCast, Nat.zero_add]
        have h1 : (l.take i).length < 17592186044416 := by rw [List.length_take]; omega
        have h2 : (l.take i ++ [x]).length + (l.drop i).length < 17592186044416 := by rw [List.length_append, List.length_cons, List.length_nil, List.length_take, List.length_drop]; omega
        rw [if_pos h1, if_pos h1, if_pos h2, hp, List.append_assoc]
        rfl
end Go.Proofs.Ytkfpbblaomgihaa.Q

/- IsFixed's law: rising lists and rows of bools tell the same. -/
namespace Go.Proofs.Ytkfpbblaomgihaa.Q
open Go.RowKit Go.Proofs.Ytkfpbblaomgihaa.P Go.Proofs.Ytkfpbblaomgihaa.H Go.Proofs.YtkfpbblaomgihaaW.PrintWords
set_option linter.unusedVariables false

theorem getD_mem {l : List Int} {q : Nat} (hq : q < l.length) : l.getD q 0 ∈ l := by
  rw [List.getD_eq_getElem?_getD, List.getElem?_eq_getElem hq]
  exact List.getElem_mem hq

def In7 (l : List Int) : Prop := ∀ y ∈ l, 0 ≤ y ∧ y ≤ 7

theorem set_bit {bs : List Bool} {i j : Nat} (b : Bool) (hj : j < bs.length) : (bs.set i b).getD j false = if i = j then b else bs.getD j false := by
  rw [List.getD_eq_getElem?_getD, List.getElem?_set, List.getD_eq_getElem?_getD]
  split
  · next h => subst h; rw [if_pos hj]; rfl
  · rfl

theorem thrU_bit (j : Nat) : ∀ (l : List Int) (bs : List Bool), j < bs.length → (∀ x ∈ l, 0 ≤ x) → (thrU bs l).getD j false = (bs.getD j false || decide ((j : Int) ∈ l))
  | [], bs, _, _ => by simp [thrU]
  | x :: l, bs, hj, hl => by
    have h := thrU_bit j l (bs.set x.toNat true) (by simpa using hj) (fun y hy => hl y (by simp [hy]))
    have hx := hl x (by simp)
    show (thrU (bs.set x.toNat true) l).getD j false = _
    rw [h, set_bit true hj, Bool.eq_iff_iff]
    simp only [Bool.or_eq_true, decide_eq_true_eq, List.mem_cons]
    by_cases e : x.toNat = j
    · rw [if_pos e]
      have : (j : Int) = x := by omega
      simp [this]
    · rw [if_neg e]
      have : ¬ (j : Int) = x := by omega
      simp [this]

theorem thrS_bit (j : Nat) : ∀ (l : List Int) (bs : List Bool), j < bs.length → (∀ x ∈ l, 0 ≤ x) → (thrS bs l).getD j false = (bs.getD j false && !decide ((j : Int) ∈ l))
  | [], bs, _, _ => by simp [thrS]
  | x :: l, bs, hj, hl => by
    have h := thrS_bit j l (bs.set x.toNat false) (by simpa using hj) (fun y hy => hl y (by simp [hy]))
    have hx := hl x (by simp)
    show (thrS (bs.set x.toNat false) l).getD j false = _
    rw [h, set_bit false hj, Bool.eq_iff_iff]
    simp only [Bool.and_eq_true, Bool.not_eq_true', decide_eq_false_iff_not, List.mem_cons]
    by_cases e : x.toNat = j
    · rw [if_pos e]
      have : (j : Int) = x := by omega
      simp [this]
    · rw [if_neg e]
      have : ¬ (j : Int) = x := by omega
      simp [this]

theorem setOf_bit {l : List Int} (h : In7 l) {j : Nat} (hj : j < 8) : (setOf l).getD j false = decide ((j : Int) ∈ l) := by
  unfold setOf
  rw [thrU_bit j l _ (by simpa using hj) (fun x hx => (h x hx).1)]
  have : (List.replicate 8 false).getD j false = false := by
    rw [List.getD_eq_getElem?_getD, List.getElem?_replicate]
    split <;> rfl
  rw [this, Bool.false_or]

theorem orB_bit {a b : List Bool} {n j : Nat} (ha : a.length = n) (hb : b.length = n) (hj : j < n) : (orB a b).getD j false = (a.getD j false || b.getD j false) := by
  unfold orB
  rw [List.getD_eq_getElem?_getD, List.getElem?_zipWith, List.getD_eq_getElem?_getD, List.getD_eq_getElem?_getD, List.getElem?_eq_getElem (by omega : j < a.length), List.getElem?_eq_getElem (by omega : j < b.length)]
  rfl

theorem bits_ext {a b : List Bool} (h : a.length = b.length) (hb : ∀ j, j < a.length → a.getD j false = b.getD j false) : a = b := by
  apply List.ext_getElem h
  intro j h1 h2
  have := hb j h1
  rw [List.getD_eq_getElem?_getD, List.getElem?_eq_getElem h1, List.getD_eq_getElem?_getD, List.getElem?_eq_getElem h2] at this
  exact this

theorem out_bit (L : List (List Int)) (hL : ∀ r ∈ L, In7 r) {j : Nat} (hj : j < 8) : ∀ (l : List Int) (acc : List Bool), acc.length = 8 → (∀ k ∈ l, 0 ≤ k ∧ k < (L.length : Int)) →
    (l.foldl (fun a k => orB a ((L.map setOf).getD k.toNat [])) acc).getD j false = (acc.getD j false || decide (∃ k ∈ l, (j : Int) ∈ L.getD k.toNat []))
  | [], acc, _, _ => by simp
  | k :: l, acc, ha, hl => by
    have hk := hl k (by simp)
    have hk' : k.toNat < L.length := by omega
    have e : (L.map setOf).getD k.toNat [] = setOf (L.getD k.toNat []) := by
      rw [List.getD_eq_getElem?_getD, List.getElem?_map, List.getD_eq_getElem?_getD, List.getElem?_eq_getElem hk']
      rfl
    have h7 : In7 (L.getD k.toNat []) := by
      rw [List.getD_eq_getElem?_getD, List.getElem?_eq_getElem hk']
      exact hL _ (List.getElem_mem hk')
    rw [List.foldl_cons, e, out_bit L hL hj l _ (by rw [orB_len _ _ (by rw [ha, setOf_len]), ha]) (fun x hx => hl x (by simp [hx])), orB_bit ha (setOf_len _) hj, setOf_bit h7 hj, Bool.eq_iff_iff]
    simp only [Bool.or_eq_true, decide_eq_true_eq, List.mem_cons, exists_eq_or_imp, or_assoc]

theorem srt_len {hi : Int} : ∀ (l : List Int) (lo : Int), Srt l → (∀ y ∈ l, lo ≤ y ∧ y ≤ hi) → (l.length : Int) ≤ hi - lo + 1 ∨ l = []
  | [], _, _, _ => .inr rfl
  | x :: l, lo, h, hb => by
    have h' := List.pairwise_cons.1 h
    have hx := hb x (by simp)
    rcases srt_len (hi := hi) l (x + 1) h'.2 (fun y hy => by have h1 : x < y := h'.1 y hy; have h2 := hb y (by simp [hy]); omega) with e | e
    · left; simp only [List.length_cons]; omega
    · left; rw [e]; simp; omega

theorem srt_len7 {l : List Int} (h : Srt l) (h7 : In7 l) : l.length ≤ 8 := by
  rcases srt_len l 0 h h7 with e | e
  · omega
  · rw [e]; simp

/-- What goes on to a block, as the reference lists it. -/
def OutM (g : List (List Int)) (L : List (List Int)) (i : Nat) (y : Int) : Prop := ∃ k ∈ g.getD i [], y ∈ L.getD k.toNat []

instance (g L : List (List Int)) (i : Nat) (y : Int) : Decidable (OutM g L i y) := by unfold OutM; infer_instance

theorem spec_out_ev (g L : List (List Int)) (i : Nat) (hg : Small g) (hLs : Small L) (hi : i < g.length) (hk : ∀ k ∈ g.getD i [], 0 ≤ k ∧ k < (L.length : Int)) (hL : ∀ r ∈ L, In7 r) (b : List S56) :
    ∃ o, Ev (fun k => spec_l12Out.f k g b L (i : Int)) o ∧ Srt o ∧ In7 o ∧ ∀ y, y ∈ o ↔ OutM g L i y := by
  have hrow := hg.at hi
  have er : rd_L1 g (i : Int) = g.getD i [] := rfl
  unfold spec_l12Out.f OutM
  rw [er]
  generalize g.getD i [] = row at hrow hk
  have key := down (n := row.length) (p := fun m => ∀ acc : List Int, Srt acc → In7 acc → ∃ o, Ev (fun k => spec_l12Out.l0 k L acc row (row.length : Int) (m : Int)) o ∧ Srt o ∧ In7 o ∧ ∀ y, y ∈ o ↔ y ∈ acc ∨ ∃ k ∈ row.drop m, y ∈ L.getD k.toNat []) ?h0 ?hs 0 (Nat.zero_le _) [] List.Pairwise.nil (fun y hy => by simp at hy)
  · obtain ⟨o, h1, h2, h3, h4⟩ := key
    refine ⟨o, Ev.congr (fun k => by rw [if_pos (by omega), if_pos (by omega)]; rfl) h1, h2, h3, fun y => ?_⟩
    rw [h4 y, List.drop_zero]
    simp
  case h0 =>
    intro acc h1 h2
    refine ⟨acc, Ev.step (f := fun _ => some acc) (fun k => by simp only [spec_l12Out.l0]; rw [if_neg (by omega)]) (Ev.now _), h1, h2, fun y => ?_⟩
    rw [List.drop_length]
    simp
  case hs =>
    intro m hm ih acc h1 h2
    have hx : rd row (m : Int) = row.getD m 0 := rfl
    have hmem : row.getD m 0 ∈ row := by
      rw [List.getD_eq_getElem?_getD, List.getElem?_eq_getElem hm]
      exact List.getElem_mem hm
    have hxk := hk _ hmem
    rw [drop_eq hm]
    generalize row.getD m 0 = x at hx hxk
    have hxl : x.toNat < L.length := by omega
    have ex : rd_L1 L x = L.getD x.toNat [] := rfl
    have hr7 : In7 (L.getD x.toNat []) := by
      rw [List.getD_eq_getElem?_getD, List.getElem?_eq_getElem hxl]
      exact hL _ (List.getElem_mem hxl)
    have hrl := hLs.at hxl
    have inner := down (n := (L.getD x.toNat []).length) (p := fun q => ∀ acc : List Int, Srt acc → In7 acc → ∃ o, Ev (fun k => spec_l12Out.l1 k L acc row (row.length : Int) (m : Int) (L.getD x.toNat []) ((L.getD x.toNat []).length : Int) (q : Int)) o ∧ Srt o ∧ In7 o ∧ ∀ y, y ∈ o ↔ (y ∈ acc ∨ y ∈ (L.getD x.toNat []).drop q) ∨ ∃ k ∈ row.drop (m + 1), y ∈ L.getD k.toNat []) ?h0' ?hs' 0 (Nat.zero_le _) acc h1 h2
    · obtain ⟨o, e1, e2, e3, e4⟩ := inner
      refine ⟨o, Ev.step (fun k => ?_) e1, e2, e3, fun y => ?_⟩
      · simp only [spec_l12Out.l0]
        rw [if_pos (by omega), if_pos (by omega), if_pos (by omega), hx, if_pos hxk.1, if_pos hxk.2, ex]
        rfl
      · rw [e4 y, List.drop_zero, or_assoc]
        simp only [List.mem_cons, exists_eq_or_imp]
    case h0' =>
      intro acc h1 h2
      obtain ⟨o, e1, e2, e3, e4⟩ := ih acc h1 h2
      refine ⟨o, Ev.step (fun k => ?_) e1, e2, e3, fun y => ?_⟩
      · simp only [spec_l12Out.l1]
        rw [if_neg (by omega), w64 (by omega) (by omega)]
        rfl
      · rw [e4 y, List.drop_length]
        simp
    case hs' =>
      intro q hq ihq acc h1 h2
      have hy : rd (L.getD x.toNat []) (q : Int) = (L.getD x.toNat []).getD q 0 := rfl
      have hym : (L.getD x.toNat []).getD q 0 ∈ L.getD x.toNat [] := getD_mem hq
      have hy7 := hr7 _ hym
      obtain ⟨o, e1, e2, e3, e4⟩ := ihq (putL acc ((L.getD x.toNat []).getD q 0)) (putL_srt _ _ h1) (fun y hy => by
        rcases (putL_mem _ acc y).1 hy with h | h
        · exact h2 y h
        · rw [h]; exact hy7)
      refine ⟨o, Ev.step (fun k => by simp only [spec_l12Out.l1]; rw [if_pos (by omega), if_pos (by omega), if_pos (by omega), hy]) ((put_ev acc _ (by have := srt_len7 h1 h2; omega)).bind (Ev.congr (fun k => by rw [w64 (by omega) (by omega)]; rfl) e1)), e2, e3, fun y => ?_⟩
      rw [e4 y, putL_mem, drop_eq hq, List.mem_cons, or_assoc (a := y ∈ acc)]

theorem spec_in_ev (g L : List (List Int)) (b : List S56) (i : Nat) (hg : Small g) (hLs : Small L) (hb : SmallI b) (hi : i < g.length) (hib : i < b.length) (hk : ∀ k ∈ g.getD i [], 0 ≤ k ∧ k < (L.length : Int)) (hL : ∀ r ∈ L, In7 r)
    (hu : Srt (b.getD i z56).f0) (hu7 : In7 (b.getD i z56).f0) :
    ∃ o, Ev (fun k => spec_l12In.f k g b L (i : Int)) o ∧ Srt o ∧ In7 o ∧ ∀ y, y ∈ o ↔ y ∈ (b.getD i z56).f0 ∨ (OutM g L i y ∧ y ∉ (b.getD i z56).f1) := by
  obtain ⟨t, t1, t2, t3, t4⟩ := spec_out_ev g L i hg hLs hi hk hL b
  have er : rd_T56 b (i : Int) = b.getD i z56 := rfl
  have hz := hb.at hib
  have hbl := hb.1
  unfold spec_l12In.f
  simp only [Option.bind_some, List.nil_append, List.length_nil, er]
  generalize b.getD i z56 = B at er hu hu7 hz
  have htl := srt_len7 t2 t3
  have key := down (n := t.length) (p := fun m => ∀ acc : List Int, Srt acc → In7 acc → ∃ o, Ev (fun k => spec_l12In.l0 k (i : Int) acc t (t.length : Int) (m : Int) g b) o ∧ Srt o ∧ In7 o ∧ ∀ y, y ∈ o ↔ y ∈ acc ∨ (y ∈ t.drop m ∧ y ∉ B.f1)) ?h0 ?hs 0 (Nat.zero_le _) B.f0 hu hu7
  · obtain ⟨o, e1, e2, e3, e4⟩ := key
    refine ⟨o, Ev.congr (fun k => by rw [if_pos (by omega), if_pos (by omega), if_pos (by omega)]) (t1.bind e1), e2, e3, fun y => ?_⟩
    rw [e4 y, List.drop_zero, t4 y]
  case h0 =>
    intro acc h1 h2
    refine ⟨acc, Ev.step (f := fun _ => some acc) (fun k => by simp only [spec_l12In.l0]; rw [if_neg (by omega)]) (Ev.now _), h1, h2, fun y => ?_⟩
    rw [List.drop_length]
    simp
  case hs =>
    intro m hm ih acc h1 h2
    have hx : rd t (m : Int) = t.getD m 0 := rfl
    have hx7 := t3 _ (getD_mem hm)
    rw [drop_eq hm]
    generalize t.getD m 0 = x at hx hx7
    cases c : decide (x ∈ B.f1) with
    | true =>
      have c' := of_decide_eq_true c
      obtain ⟨o, e1, e2, e3, e4⟩ := ih acc h1 h2
      refine ⟨o, Ev.step (fun k => by simp only [spec_l12In.l0]; rw [if_pos (by omega), if_pos (by omega), if_pos (by omega), if_pos (by omega), if_pos (by omega), er, hx]) ((has_ev B.f1 x hz.2).bind ?_), e2, e3, fun y => ?_⟩
      · rw [c]
        exact Ev.congr (fun k => by rw [if_pos rfl, w64 (by omega) (by omega)]; rfl) e1
      · rw [e4 y, List.mem_cons]
        constructor
        · rintro (h | ⟨h, h'⟩)
          · exact .inl h
          · exact .inr ⟨.inr h, h'⟩
        · rintro (h | ⟨h | h, h'⟩)
          · exact .inl h
          · rw [h] at h'; exact absurd c' h'
          · exact .inr ⟨h, h'⟩
    | false =>
      have c' := of_decide_eq_false c
      obtain ⟨o, e1, e2, e3, e4⟩ := ih (putL acc x) (putL_srt _ _ h1) (fun y hy => by
        rcases (putL_mem _ acc y).1 hy with h | h
        · exact h2 y h
        · rw [h]; exact hx7)
      refine ⟨o, Ev.step (fun k => by simp only [spec_l12In.l0]; rw [if_pos (by omega), if_pos (by omega), if_pos (by omega), if_pos (by omega), if_pos (by omega), er, hx]) ((has_ev B.f1 x hz.2).bind ?_), e2, e3, fun y => ?_⟩
      · rw [c]
        refine Ev.congr (fun k => by rw [if_neg (by simp)]) ((put_ev acc x (by have := srt_len7 h1 h2; omega)).bind ?_)
        exact Ev.congr (fun k => by rw [w64 (by omega) (by omega)]; rfl) e1
      · rw [e4 y, putL_mem, List.mem_cons]
        constructor
        · rintro ((h | h) | ⟨h, h'⟩)
          · exact .inl h
          · exact .inr ⟨.inl h, by rw [h]; exact c'⟩
          · exact .inr ⟨.inr h, h'⟩
        · rintro (h | ⟨h | h, h'⟩)
          · exact .inl (.inl h)
          · exact .inl (.inr h)
          · exact .inr ⟨h, h'⟩

theorem same_ev (a b : List Int) (ha : a.length ≤ 1048576) : Ev (fun k => spec_l12Same.f k a b) (decide (a = b)) := by
  unfold spec_l12Same.f
  by_cases hl : a.length = b.length
  · refine Ev.congr (fun k => by rw [if_pos (by omega)]) ?_
    refine ev_eq (down0 (n := a.length) (p := fun i => Ev (fun k => spec_l12Same.l0 k a b (a.length : Int) (i : Int)) (decide (a.drop i = b.drop i))) ?h0 ?hs) (by rw [List.drop_zero, List.drop_zero])
    case h0 => exact Ev.step (f := fun _ => some true) (fun k => by simp only [spec_l12Same.l0]; rw [if_neg (by omega)]) (by rw [List.drop_length, hl, List.drop_length]; simpa using Ev.now _)
    case hs =>
      intro i hi ih
      have h1 : rd a (i : Int) = a.getD i 0 := rfl
      have h2 : rd b (i : Int) = b.getD i 0 := rfl
      rw [drop_eq hi, drop_eq (l := b) (by omega)]
      by_cases c : a.getD i 0 = b.getD i 0
      · refine Ev.step (fun k => ?_) (ev_eq ih ?_)
        · simp only [spec_l12Same.l0]
          rw [if_pos (by omega), if_pos (by omega), if_pos (by omega), if_pos (by omega), h1, h2, if_pos c, w64 (by omega) (by omega)]
          rfl
        · rw [decide_eq_decide, c]
          simp
      · refine Ev.step (f := fun _ => some false) (fun k => ?_) (ev_is fun k => ?_)
        · simp only [spec_l12Same.l0]
          rw [if_pos (by omega), if_pos (by omega), if_pos (by omega), if_pos (by omega), h1, h2, if_neg c]
        · rw [decide_eq_false (fun h => c (by injection h))]
  · refine Ev.congr (f := fun _ => some false) (fun k => by rw [if_neg (by omega)]) (ev_is fun k => ?_)
    rw [decide_eq_false (fun h => hl (by rw [h]))]

theorem upB_srt {l : List Int} {lo hi : Int} (h : upB l lo hi 0 = true) : Srt l := by
  have hs : ∀ j, j + 1 < l.length → l.getD j 0 < l.getD (j + 1) 0 := by
    intro j hj
    have h1 := of_decide_eq_true h (j + 1) hj (Nat.zero_le _)
    unfold upAt at h1
    simp only [Bool.and_eq_true, Bool.or_eq_true, decide_eq_true_eq] at h1
    rcases h1.2 with h2 | h2
    · omega
    · exact h2
  have ht : ∀ d j, j + d + 1 < l.length → l.getD j 0 < l.getD (j + d + 1) 0 := by
    intro d
    induction d with
    | zero => intro j hj; exact hs j hj
    | succ d ih =>
      intro j hj
      have h1 := ih j (by omega)
      have h2 := hs (j + d + 1) (by omega)
      have e : j + (d + 1) + 1 = j + d + 1 + 1 := by omega
      rw [e]
      omega
  refine List.pairwise_iff_getElem.2 (fun i j hi hj hij => ?_)
  have := ht (j - i - 1) i (by omega)
  rw [show i + (j - i - 1) + 1 = j by omega, List.getD_eq_getElem?_getD, List.getD_eq_getElem?_getD, List.getElem?_eq_getElem hi, List.getElem?_eq_getElem hj] at this
  exact this

/-- One block: the rows of bools agree just if the lists do. -/
theorem fixed_one (g L : List (List Int)) (B : S56) (i : Nat) (hk : ∀ k ∈ g.getD i [], 0 ≤ k ∧ k < (L.length : Int)) (hL : ∀ r ∈ L, In7 r) (hu7 : In7 B.f0) (hs7 : In7 B.f1) (l o : List Int) (hl : Srt l) (hl7 : In7 l) (ho : Srt o) (ho7 : In7 o)
    (hm : ∀ y, y ∈ o ↔ y ∈ B.f0 ∨ (OutM g L i y ∧ y ∉ B.f1)) : (thrU (thrS (outF g (L.map setOf) i) B.f1) B.f0 = setOf l) ↔ o = l := by
  have hol : (outF g (L.map setOf) i).length = 8 := outF_len _ _ _ (fun r hr => by obtain ⟨x, _, rfl⟩ := List.mem_map.1 hr; exact setOf_len x) (by rw [List.length_map]; exact hk)
  have hbit : ∀ j, j < 8 → (thrU (thrS (outF g (L.map setOf) i) B.f1) B.f0).getD j false = decide ((j : Int) ∈ o) := by
    intro j hj
    rw [thrU_bit j _ _ (by rw [thrS_len, hol]; exact hj) (fun x hx => (hu7 x hx).1), thrS_bit j _ _ (by rw [hol]; exact hj) (fun x hx => (hs7 x hx).1)]
    have e : (outF g (L.map setOf) i).getD j false = decide (OutM g L i (j : Int)) := by
      unfold outF OutM
      rw [out_bit L hL hj _ _ (by simp) hk]
      have : (List.replicate 8 false).getD j false = false := by
        rw [List.getD_eq_getElem?_getD, List.getElem?_replicate]
        split <;> rfl
      rw [this, Bool.false_or]
    rw [e, Bool.eq_iff_iff, decide_eq_true_eq, hm]
    simp only [Bool.or_eq_true, Bool.and_eq_true, Bool.not_eq_true', decide_eq_false_iff_not, decide_eq_true_eq]
    constructor
    · rintro (h | h)
      · exact .inr h
      · exact .inl h
    · rintro (h | h)
      · exact .inr h
      · exact .inl h
  constructor
  · intro h
    refine srt_ext ho hl (fun x => ?_)
    have key : ∀ j : Nat, j < 8 → (((j : Int) ∈ o) ↔ ((j : Int) ∈ l)) := by
      intro j hj
      have h1 := hbit j hj
      rw [h, setOf_bit hl7 hj] at h1
      exact (decide_eq_decide.1 h1).symm
    constructor
    · intro hx
      have h7 := ho7 x hx
      have := (key x.toNat (by omega)).1 (by rw [Int.toNat_of_nonneg h7.1]; exact hx)
      rwa [Int.toNat_of_nonneg h7.1] at this
    · intro hx
      have h7 := hl7 x hx
      have := (key x.toNat (by omega)).2 (by rw [Int.toNat_of_nonneg h7.1]; exact hx)
      rwa [Int.toNat_of_nonneg h7.1] at this
  · intro h
    refine bits_ext (by rw [thrU_len, thrS_len, hol, setOf_len]) (fun j hj => ?_)
    have hj8 : j < 8 := by rw [thrU_len, thrS_len, hol] at hj; exact hj
    rw [hbit j hj8, setOf_bit hl7 hj8, h]


theorem isFixed_ev (g L : List (List Int)) (b : List S56) (hg : Small g) (hLs : Small L) (hb : SmallI b) : Ev (fun k => spec_IsFixed.f k g b L) (isFixedF g b L) := by
  have hlen := hLs.1
  have hbl := hb.1
  unfold spec_IsFixed.f isFixedF
  refine (specGoodFlow_ev g b hg hb).bind ?_
  cases hgf : goodF g b with
  | false => exact Ev.congr (fun k => by rw [if_neg (by simp)]) (Ev.step (f := fun _ => some (false, false)) (fun k => by simp [spec_IsFixed.j0]) (ev_is fun k => by simp))
  | true =>
    refine Ev.congr (fun k => by rw [if_pos rfl]) ?_
    by_cases hl : L.length = b.length
    · have e0 : ((L.length : Int) != (b.length : Int)) = false := by simp; omega
      rw [e0, decide_eq_true hl]
      refine Ev.step (fun k => by simp only [spec_IsFixed.j0]; rw [if_neg (by simp)]) ?_
      rw [if_pos (by simp)]
      have key := down0 (n := L.length) (p := fun i => (∀ j, j < i → upB (L.getD j []) 0 7 0 = true) → Ev (fun k => spec_IsFixed.l0 k L L (L.length : Int) (i : Int) g b) (if (L.drop i).all (fun x => upB x 0 7 0) then (fixedF g b (L.map setOf), true) else (false, false))) ?h0 ?hs (fun j h => by omega)
      · rw [List.drop_zero] at key
        exact key
      case h0 =>
        intro hup
        have hrow : ∀ j, j < L.length → In7 (L.getD j []) := fun j hj => upB_mem (hup j hj)
        have hL : ∀ r ∈ L, In7 r := by
          intro r hr
          obtain ⟨j, hj, e⟩ := List.getElem_of_mem hr
          have := hrow j hj
          rw [List.getD_eq_getElem?_getD, List.getElem?_eq_getElem hj, e] at this
          exact this
        rw [List.drop_length, List.all_nil, if_pos rfl]
        refine Ev.step (fun k => by simp only [spec_IsFixed.l0]; rw [if_neg (by omega)]) ?_
        have hgb := hgf
        unfold goodF goodG at hgb
        simp only [Bool.and_eq_true, decide_eq_true_eq] at hgb
        obtain ⟨⟨⟨hg1, hg2⟩, hg3⟩, hg4⟩ := hgb
        have key := down0 (n := b.length) (p := fun i => Ev (fun k => spec_IsFixed.l1 k L (b.length : Int) (i : Int) g b) (decide (∀ j, j < b.length → i ≤ j → thrU (thrS (outF g (L.map setOf) j) (b.getD j z56).f1) (b.getD j z56).f0 = (L.map setOf).getD j []), true)) ?h1 ?hs1
        · refine ev_eq key ?_
          unfold fixedF
          simp
        case h1 =>
          refine Ev.step (f := fun _ => some (true, true)) (fun k => by simp only [spec_IsFixed.l1]; rw [if_neg (by omega)]) (ev_is fun k => ?_)
          rw [decide_eq_true (fun j h1 h2 => by omega)]
        case hs1 =>
          intro i hi ih
          have hgi : i < g.length := by omega
          have hgk : ∀ k ∈ g.getD i [], 0 ≤ k ∧ k < (L.length : Int) := by
            have h8 := List.all_eq_true.1 hg2 (g.getD i []) (by rw [List.getD_eq_getElem?_getD, List.getElem?_eq_getElem hgi]; exact List.getElem_mem hgi)
            intro k hk
            have := upB_mem h8 k hk
            omega
          have hok := List.all_eq_true.1 hg4 (b.getD i z56) (by rw [List.getD_eq_getElem?_getD, List.getElem?_eq_getElem hi]; exact List.getElem_mem hi)
          unfold okBlock at hok
          simp only [Bool.and_eq_true] at hok
          obtain ⟨o, o1, o2, o3, o4⟩ := spec_in_ev g L b i hg hLs hb hgi hi hgk hL (upB_srt hok.1) (upB_mem hok.1)
          have hli : i < L.length := by omega
          have el : rd_L1 L (i : Int) = L.getD i [] := rfl
          have hfo := fixed_one g L (b.getD i z56) i hgk hL (upB_mem hok.1) (upB_mem hok.2) (L.getD i []) o (upB_srt (hup i hli)) (hrow i hli) o2 o3 o4
          have eM : (L.map setOf).getD i [] = setOf (L.getD i []) := by
            rw [List.getD_eq_getElem?_getD, List.getElem?_map, List.getD_eq_getElem?_getD, List.getElem?_eq_getElem hli]
            rfl
          refine Ev.step (fun k => by simp only [spec_IsFixed.l1]; rw [if_pos (by omega)]) (o1.bind ?_)
          refine Ev.congr (fun k => by rw [if_pos (by omega), if_pos (by omega), el]) ((same_ev o (L.getD i []) (by have := srt_len7 o2 o3; omega)).bind ?_)
          by_cases c : o = L.getD i []
          · rw [decide_eq_true c]
            refine Ev.congr (fun k => by rw [if_pos rfl, w64 (by omega) (by omega)]; rfl) (ev_eq ih ?_)
            congr 1
            rw [decide_eq_decide]
            constructor
            · intro h j h1 h2
              by_cases e : j = i
              · rw [e, eM]; exact hfo.2 c
              · exact h j h1 (by omega)
            · intro h j h1 h2
              exact h j h1 (by omega)
          · rw [decide_eq_false c]
            refine ev_is fun k => ?_
            rw [if_neg (by simp), decide_eq_false (fun h => c (hfo.1 (by have := h i hi (Nat.le_refl _); rw [eM] at this; exact this)))]
      case hs =>
        intro i hi ih hup
        have e : L.drop i = L.getD i [] :: L.drop (i + 1) := by
          rw [List.drop_eq_getElem_cons hi, List.getD_eq_getElem?_getD, List.getElem?_eq_getElem hi]
          rfl
        have el : rd_L1 L (i : Int) = L.getD i [] := rfl
        rw [e, List.all_cons]
        refine Ev.step (fun k => by simp only [spec_IsFixed.l0]; rw [if_pos (by omega), if_pos (by omega), if_pos (by omega), el]) ((l12Names_ev _ (hLs.at hi)).bind ?_)
        cases c : upB (L.getD i []) 0 7 0 with
        | false => exact ev_is fun k => by simp
        | true =>
          rw [Bool.true_and]
          refine Ev.congr (fun k => by rw [if_pos rfl, w64 (by omega) (by omega)]; rfl) (ih (fun j hj => by
            by_cases e : j = i
            · rw [e]; exact c
            · exact hup j (by omega)))
    · have e0 : ((L.length : Int) != (b.length : Int)) = true := by simp; omega
      rw [e0, decide_eq_false hl]
      exact Ev.step (f := fun _ => some (false, false)) (fun k => by simp [spec_IsFixed.j0]) (ev_is fun k => by simp)

theorem isFixed_law (g : List (List Int)) (b : List S97) (L : List (List Int)) (hn : g.length ≤ 9223372036854775807) (hm : b.length ≤ 9223372036854775807) (hl : Len (Len I64) g ∧ Len I64B b) (hL0 : L.length ≤ 9223372036854775807) (hL1 : ∀ y ∈ L, Len I64 y) : ∃ k, laws_FnExactIsFixed.f k g b L = some true := by
  apply Ev.rounds
  unfold laws_FnExactIsFixed.f
  obtain ⟨v, hv, h⟩ := szFlow_ev g b 1048576 (by omega) (by omega) hl.1 hl.2
  refine hv.bind ?_
  by_cases c : v < 0
  · exact Ev.congr (fun k => by rw [if_pos c]) (Ev.now _)
  · have hs : 0 ≤ v ∧ v ≤ 1048576 ∧ Small g ∧ SmallB b := by rcases h with h | h; exact absurd h c; exact h
    refine Ev.congr (fun k => by rw [if_neg c]) ?_
    obtain ⟨u, hu, h2⟩ := szIntSS_ev L v hs.1 hs.2.1 ⟨hL0, hL1⟩
    refine hu.bind ?_
    by_cases c2 : u < 0
    · exact Ev.congr (fun k => by rw [if_pos c2]) (Ev.now _)
    · have hL : Small L := by rcases h2 with h | h; exact absurd h c2; exact h.2.2
      refine Ev.congr (fun k => by rw [if_neg c2]) ?_
      have hT := toFlow_ev g b hs.2.2.1 hs.2.2.2
      have hI := toIntSS_ev L hL
      refine hT.bind (hI.bind ((isFixed_ev g L (b.map cvBlock) hs.2.2.1 hL hs.2.2.2.cv).bind (hT.bind (hI.bind ((ev_some (x := impl_IsFixed.f g (b.map cvBlock) L) rfl).bind ?_)))))
      refine Ev.congr (fun k => by rw [if_neg (by simp)]) ?_
      have e0 : ((isFixedF g (b.map cvBlock) L).2 != (isFixedF g (b.map cvBlock) L).2) = false := by simp
      rw [e0]
      refine Ev.step (fun k => by simp only [laws_FnExactIsFixed.j0]; rw [if_neg (by simp)]) ?_
      refine hT.bind ((eqFlow_ev g _ hs.2.2.1 hs.2.2.2.cv).bind ?_)
      refine Ev.congr (fun k => by rw [if_pos rfl]) (hI.bind ((eqIntSS_ev L hL).bind ?_))
      exact ev_is fun _ => rfl
end Go.Proofs.Ytkfpbblaomgihaa.Q
