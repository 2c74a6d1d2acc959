/- Trees of sums: what the given functions tell, in plain Lean. -/
import Derived.Test.YtclkajdafinccaaHPure
import Derived.Test.YtclkajdafinccaaHOpen
import Derived.Test.YtclkajdafinccaaPLawsFnExactGoodTree
import Derived.Test.YtclkajdafinccaaPLawsFnExactPlacesFor
import Derived.Test.YtclkajdafinccaaPLawsFnExactValueOf
namespace Go.Proofs.Ytclkajdafinccaa.Q
open Go.RowKit Go.Proofs.Ytclkajdafinccaa.P Go.Proofs.Ytclkajdafinccaa.H Go.Proofs.YtclkajdafinccaaW.PrintWords
set_option linter.unusedVariables false

def cvTreeCell (x : S80) : S78 := ⟨x.f0, x.f1⟩

theorem toTreeCellS_ev (l : List S80) (hl : l.length ≤ 1048576) : Ev (fun k => laws_toTreeCellS.f k l) (l.map cvTreeCell) := by
  unfold laws_toTreeCellS.f
  refine Ev.congr (fun k => by rw [if_pos (by omega), if_pos (by omega)]) ?_
  have key := down (n := l.length) (p := fun i => ∀ acc : List S78, acc.length = (l.map cvTreeCell).length → acc.take i = (l.map cvTreeCell).take i → Ev (fun k => laws_toTreeCellS.l0 k l acc (i : Int)) (l.map cvTreeCell)) ?h0 ?hs 0 (Nat.zero_le _)
  · exact key _ (by simp) (by simp)
  case h0 =>
    intro acc ha ht
    refine Ev.step (f := fun _ => some acc) (fun k => by simp only [laws_toTreeCellS.l0]; rw [if_neg (by omega)]) ?_
    have e : acc = l.map cvTreeCell := full ha (by simpa using ht)
    rw [e]
    exact Ev.now _
  case hs =>
    intro i hi ih acc ha ht
    have ha' : acc.length = l.length := by simpa using ha
    refine Ev.step (f := fun k => laws_toTreeCellS.l0 k l (acc.set i (cvTreeCell (l.getD i z80))) ((i + 1 : Nat) : Int)) (fun k => ?_) ?_
    · simp only [laws_toTreeCellS.l0]
      rw [if_pos (by omega), if_pos (by omega)]
      simp only [laws_toTreeCell.f, Option.bind_some]
      rw [if_pos (by omega), w64 (by omega) (by omega)]
      rfl
    · refine ih _ (by simpa using ha) (fill_step ha ht ?_)
      rw [List.getElem?_map, getD_some z80 hi]
      rfl

theorem eqTreeCellS_ev (l : List S78) (hl : l.length ≤ 1048576) : Ev (fun k => laws_eqTreeCellS.f k l l) true := by
  unfold laws_eqTreeCellS.f
  refine Ev.congr (fun k => by rw [if_pos rfl]) ?_
  refine down0 (n := l.length) (p := fun i => Ev (fun k => laws_eqTreeCellS.l0 k l l (i : Int)) true) ?h0 ?hs
  case h0 => exact Ev.step (f := fun _ => some true) (fun k => by simp only [laws_eqTreeCellS.l0]; rw [if_neg (by omega)]) (Ev.now _)
  case hs =>
    intro i hi ih
    refine Ev.step (fun k => ?_) ih
    simp only [laws_eqTreeCellS.l0]
    rw [if_pos (by omega), if_pos (by omega), if_pos (by omega), w64 (by omega) (by omega)]
    simp [laws_eqTreeCell.f]

theorem opensTreeCell : Opens Try.prog 80 k80 (fun x => I64 x.f0 ∧ I64 x.f1) :=
  Opens.iso (Opens.struct2 Try.underlying80 rfl rfl (by kernel_rfl) (by kernel_rfl) (by kernel_rfl) (Opens.int Try.underlying3) (Opens.int Try.underlying3)) (fun x : S80 => (x.f0, x.f1)) (fun a => (⟨a.1, a.2⟩ : S80)) (fun _ => rfl)


def trOp : Tr → Int
  | .leaf op _ _ => op
  | .node op _ _ _ _ => op
def trNum : Tr → Int
  | .leaf _ num _ => num
  | .node _ num _ _ _ => num
def trAt : Tr → Int
  | .leaf _ _ at_ => at_
  | .node _ _ at_ _ _ => at_
/-- A tree as the reference has it. -/
def conv : Tr → S74
  | .leaf op num at_ => ⟨op, num, at_, []⟩
  | .node op num at_ a b => ⟨op, num, at_, [conv a, conv b]⟩
def kids (t : Tr) : List S74 := (conv t).f3

theorem conv_eta (t : Tr) : conv t = ⟨trOp t, trNum t, trAt t, kids t⟩ := by cases t <;> rfl

def encT : Option (Tr × Nat) → Int × Int × Int × List S74 × Int
  | none => (0, 0, 0, [], 0)
  | some (t, e) => (trOp t, trNum t, trAt t, kids t, (e : Int))

theorem in_f (a b c : Int) : spec_l1In.f a b c = some (decide (b ≤ a) && decide (a ≤ c)) := by
  unfold spec_l1In.f
  by_cases h : b ≤ a
  · simp [h]
  · simp [h]

theorem l0_none {l : List S78} {j : Int} {c op num at_ : Int} {acc : List S74} (hc : c < 2) (h : Ev (fun k => spec_l13Read.f k l j) (0, 0, 0, [], 0)) : Ev (fun k => spec_l13Read.l0 k l j c op num at_ acc) (0, 0, 0, [], 0) := by
  refine Ev.step (fun k => by simp only [spec_l13Read.l0]; rw [if_pos hc]) ?_
  refine h.bind ?_
  exact ev_is fun k => rfl

theorem l0_some {l : List S78} {j : Int} {c op num at_ : Int} {acc : List S74} {x : S74} {e : Int} {r : Int × Int × Int × List S74 × Int} (hc0 : 0 ≤ c) (hc : c < 2) (he : e ≠ 0) (ha : acc.length < 2932031007402)
    (h : Ev (fun k => spec_l13Read.f k l j) (x.f0, x.f1, x.f2, x.f3, e)) (hr : Ev (fun k => spec_l13Read.l0 k l e (c + 1) op num at_ (acc ++ [x])) r) : Ev (fun k => spec_l13Read.l0 k l j c op num at_ acc) r := by
  refine Ev.step (fun k => by simp only [spec_l13Read.l0]; rw [if_pos hc]) ?_
  refine h.bind ?_
  refine Ev.congr (fun k => ?_) hr
  show (if e = 0 then _ else _) = _
  rw [if_neg he, if_pos ha, w64 (by omega) (by omega)]
  cases x
  rfl

theorem l0_end {l : List S78} {j : Int} {c op num at_ : Int} {acc : List S74} (hc : ¬ c < 2) : Ev (fun k => spec_l13Read.l0 k l j c op num at_ acc) (op, num, at_, acc, j) := by
  refine Ev.step (f := fun _ => some (op, num, at_, acc, j)) (fun k => by simp only [spec_l13Read.l0]; rw [if_neg hc]) (Ev.now _)

theorem read_ev (l : List S78) (hl : l.length ≤ 40) : ∀ (K i : Nat), l.length < i + K → i ≤ l.length → Ev (fun k => spec_l13Read.f k l (i : Int)) (encT (readT l K i)) := by
  intro K
  induction K with
  | zero => intro i h1 h2; omega
  | succ K ih =>
    intro i h1 h2
    unfold readT
    by_cases hlt : i < l.length
    · rw [if_pos hlt]
      have hx : rd_T78 l (i : Int) = l.getD i z78 := rfl
      generalize l.getD i z78 = x at hx ⊢
      obtain ⟨op, num⟩ := x
      simp only
      by_cases hA : op = 1
      · by_cases hA2 : -1000 ≤ num ∧ num ≤ 1000
        · rw [if_pos ⟨hA, hA2⟩]
          refine Ev.step (f := fun _ => some (op, num, (i : Int), ([] : List S74), (i : Int) + 1)) (fun k => ?_) (ev_is fun k => rfl)
          simp only [spec_l13Read.f]
          rw [if_neg (by omega), if_pos (by omega), if_pos (by omega), hx, if_pos hA, in_f]
          simp only [Option.bind_some]
          rw [if_pos (by simp [hA2]), w64 (by omega) (by omega)]
        · rw [if_neg (fun h => hA2 h.2), if_neg (by omega)]
          refine Ev.step (f := fun _ => some (0, 0, 0, ([] : List S74), 0)) (fun k => ?_) (Ev.now _)
          simp only [spec_l13Read.f]
          rw [if_neg (by omega), if_pos (by omega), if_pos (by omega), hx, if_pos hA, in_f]
          simp only [Option.bind_some]
          rw [if_neg (by simp; omega)]
      · rw [if_neg (fun h => hA h.1)]
        by_cases hB : (2 ≤ op ∧ op ≤ 4) ∧ num = 0
        · rw [if_pos hB]
          have hgo : ∀ r, Ev (fun k => spec_l13Read.l0 k l ((i + 1 : Nat) : Int) 0 op num (i : Int) []) r → Ev (fun k => spec_l13Read.f k l (i : Int)) r := by
            intro r hr
            refine Ev.step (f := fun k => spec_l13Read.j0 k l ((i + 1 : Nat) : Int) false op num (i : Int)) (fun k => ?_) (Ev.step (fun k => ?_) hr)
            · simp only [spec_l13Read.f]
              rw [if_neg (by omega), if_pos (by omega), if_pos (by omega), hx, if_neg hA, in_f]
              simp only [Option.bind_some]
              rw [if_pos (by simp [hB.1]), w64 (by omega) (by omega)]
              simp [hB.2]
            · simp only [spec_l13Read.j0]
              rw [if_neg (by simp)]
          have i1 := ih (i + 1) (by omega) (by omega)
          cases hR : readT l K (i + 1) with
          | none =>
            rw [hR] at i1
            exact hgo _ (l0_none (by omega) i1)
          | some te =>
            obtain ⟨a, e1⟩ := te
            have g1 := readT_gt hR
            rw [hR] at i1
            have i1' : Ev (fun k => spec_l13Read.f k l ((i + 1 : Nat) : Int)) ((conv a).f0, (conv a).f1, (conv a).f2, (conv a).f3, (e1 : Int)) := by rw [conv_eta a]; exact i1
            have i2 := ih e1 (by omega) (by omega)
            refine hgo _ (l0_some (by omega) (by omega) (by omega) (by simp) i1' ?_)
            simp only
            cases hR2 : readT l K e1 with
            | none =>
              rw [hR2] at i2
              exact l0_none (by omega) i2
            | some te2 =>
              obtain ⟨b, e2⟩ := te2
              have g2 := readT_gt hR2
              rw [hR2] at i2
              have i2' : Ev (fun k => spec_l13Read.f k l (e1 : Int)) ((conv b).f0, (conv b).f1, (conv b).f2, (conv b).f3, (e2 : Int)) := by rw [conv_eta b]; exact i2
              refine l0_some (by omega) (by omega) (by omega) (by simp) i2' ?_
              exact l0_end (by omega)
        · rw [if_neg hB]
          have hstop : ∀ k, spec_l13Read.j0 (k + 1) l ((i + 1 : Nat) : Int) true op num (i : Int) = some (0, 0, 0, [], 0) := fun k => by simp [spec_l13Read.j0]
          refine Ev.step (f := fun k => spec_l13Read.j0 k l ((i + 1 : Nat) : Int) true op num (i : Int)) (fun k => ?_) (Ev.step (f := fun _ => some (0, 0, 0, [], 0)) hstop (Ev.now _))
          simp only [spec_l13Read.f]
          rw [if_neg (by omega), if_pos (by omega), if_pos (by omega), hx, if_neg hA, in_f]
          simp only [Option.bind_some]
          rw [w64 (by omega) (by omega)]
          by_cases hC : 2 ≤ op ∧ op ≤ 4
          · rw [if_pos (by simp [hC])]
            have : num ≠ 0 := fun h => hB ⟨hC, h⟩
            have e : (num != 0) = true := by simpa using this
            rw [e]
            rfl
          · rw [if_neg (by simp; omega)]
            rfl
    · rw [if_neg hlt]
      refine Ev.step (f := fun _ => some (0, 0, 0, ([] : List S74), 0)) (fun k => ?_) (Ev.now _)
      simp only [spec_l13Read.f]
      rw [if_pos (by omega)]

theorem readT_of (l : List S78) : treeL l = if l.length ≤ 40 then (match readT l (l.length + 1) 0 with | some (t, e) => if e = l.length then some t else none | none => none) else none := rfl

/-- What the reference's reader tells of a list of cells. -/
theorem tree_ev (l : List S78) : ∃ r, Ev (fun k => spec_l13Tree.f k l) r ∧ r.2.2.2.2 = (treeL l).isSome ∧ ∀ t, treeL l = some t → r = (trOp t, trNum t, trAt t, kids t, true) := by
  rw [readT_of]
  by_cases h : l.length ≤ 40
  · rw [if_pos h]
    have hr : Ev (fun k => spec_l13Read.f k l 0) (encT (readT l (l.length + 1) 0)) := read_ev l h (l.length + 1) 0 (by omega) (by omega)
    cases hR : readT l (l.length + 1) 0 with
    | none =>
      rw [hR] at hr
      refine ⟨(0, 0, 0, [], false), ?_, rfl, fun t h => by simp at h⟩
      unfold spec_l13Tree.f
      refine Ev.congr (fun k => by rw [if_neg (by omega)]) (hr.bind ?_)
      exact ev_is fun k => rfl
    | some te =>
      obtain ⟨t, e⟩ := te
      have g := readT_gt hR
      rw [hR] at hr
      refine ⟨(trOp t, trNum t, trAt t, kids t, ((e : Int) == (l.length : Int))), ?_, ?_, ?_⟩
      · unfold spec_l13Tree.f
        refine Ev.congr (fun k => by rw [if_neg (by omega)]) (hr.bind ?_)
        refine ev_is fun k => ?_
        show (if (e : Int) > 0 then _ else _) = _
        rw [if_pos (by omega)]
        rfl
      · simp only
        by_cases he : e = l.length
        · simp [he]
        · rw [if_neg he]
          simp
          omega
      · intro t' ht
        simp only at ht
        split at ht
        · rename_i he
          simp only [Option.some.injEq] at ht
          subst ht
          simp [he]
        · simp at ht
  · rw [if_neg h]
    refine ⟨(0, 0, 0, [], false), ?_, rfl, fun t h => by simp at h⟩
    unfold spec_l13Tree.f
    exact ev_is fun k => by rw [if_pos (by omega)]

/-- The ops of a tree that was read. -/
def okT : Tr → Prop
  | .leaf op _ _ => op = 1
  | .node op _ _ a b => op ≠ 1 ∧ okT a ∧ okT b

theorem readT_ok {l : List S78} : ∀ {k i : Nat} {t : Tr} {e : Nat}, readT l k i = some (t, e) → okT t
  | 0, _, _, _, h => by simp [readT] at h
  | k + 1, i, t, e, h => by
    unfold readT at h
    split at h
    · split at h
      · rename_i hA
        simp only [Option.some.injEq, Prod.mk.injEq] at h
        obtain ⟨rfl, rfl⟩ := h
        exact hA.1
      · split at h
        · rename_i hA hB
          split at h
          · simp at h
          · rename_i a e1 h1
            split at h
            · simp at h
            · rename_i b e2 h2
              simp only [Option.some.injEq, Prod.mk.injEq] at h
              obtain ⟨rfl, rfl⟩ := h
              exact ⟨by omega, readT_ok h1, readT_ok h2⟩
        · simp at h
    · simp at h

theorem treeL_ok {l : List S78} {t : Tr} (h : treeL l = some t) : okT t := by
  unfold treeL at h
  split at h
  · split at h
    · rename_i t1 e h1
      split at h
      · simp only [Option.some.injEq] at h
        subst h
        exact readT_ok h1
      · simp at h
    · simp at h
  · simp at h

theorem specPlaces_ev : ∀ t : Tr, okT t → t.size ≤ 40 → Ev (fun k => spec_l13Places.f k (trOp t) (trNum t) (trAt t) (kids t)) t.places
  | .leaf op num at_, h, _ => by
    refine Ev.step (f := fun _ => some 1) (fun k => by simp only [spec_l13Places.f]; rw [if_pos (show trOp (.leaf op num at_) = 1 from h)]) (ev_is fun k => rfl)
  | .node op num at_ a b, h, hs => by
    simp only [Tr.size] at hs
    have ha := specPlaces_ev a h.2.1 (by omega)
    have hb := specPlaces_ev b h.2.2 (by omega)
    have la := a.places_le
    have lb := b.places_le
    have ha' : Ev (fun k => spec_l13Places.f k (conv a).f0 (conv a).f1 (conv a).f2 (conv a).f3) a.places := by rw [conv_eta a]; exact ha
    have hb' : Ev (fun k => spec_l13Places.f k (conv b).f0 (conv b).f1 (conv b).f2 (conv b).f3) b.places := by rw [conv_eta b]; exact hb
    have hn : ¬ trOp (.node op num at_ a b) = 1 := h.1
    refine Ev.step (fun k => by simp only [spec_l13Places.f]; rw [if_neg hn, if_pos (by simp [kids, conv])]) ?_
    refine ha'.bind ?_
    refine Ev.congr (fun k => by rw [if_pos (by simp [kids, conv])]) ?_
    refine hb'.bind ?_
    refine ev_is fun k => ?_
    simp only [Tr.places, mx]
    by_cases e : a.places = b.places
    · rw [if_pos e, if_pos e, w64 (by omega) (by omega)]
    · rw [if_neg e, if_neg e]
      by_cases e2 : a.places > b.places
      · rw [if_pos e2, if_neg (by omega)]
      · rw [if_neg e2, if_pos (by omega)]

theorem norm_f (n : Int) : spec_l13Norm.f n = some (modF n) := rfl
theorem do_f (op a b : Int) : spec_l13Do.f op a b = some (doF op a b) := by
  unfold spec_l13Do.f doF
  simp only [norm_f, Option.bind_some]
  split
  · rfl
  · split <;> rfl

theorem specValue_ev : ∀ t : Tr, okT t → Ev (fun k => spec_l13Value.f k (trOp t) (trNum t) (trAt t) (kids t)) t.value
  | .leaf op num at_, h => by
    refine Ev.step (fun k => by simp only [spec_l13Value.f]; rw [if_pos (show trOp (.leaf op num at_) = 1 from h), norm_f]) ?_
    exact ev_is fun k => rfl
  | .node op num at_ a b, h => by
    have ha := specValue_ev a h.2.1
    have hb := specValue_ev b h.2.2
    have ha' : Ev (fun k => spec_l13Value.f k (conv a).f0 (conv a).f1 (conv a).f2 (conv a).f3) a.value := by rw [conv_eta a]; exact ha
    have hb' : Ev (fun k => spec_l13Value.f k (conv b).f0 (conv b).f1 (conv b).f2 (conv b).f3) b.value := by rw [conv_eta b]; exact hb
    have hn : ¬ trOp (.node op num at_ a b) = 1 := h.1
    refine Ev.step (fun k => by simp only [spec_l13Value.f]; rw [if_neg hn, if_pos (by simp [kids, conv])]) ?_
    refine ha'.bind ?_
    refine Ev.congr (fun k => by rw [if_pos (by simp [kids, conv])]) ?_
    refine hb'.bind ?_
    exact ev_is fun k => by rw [do_f]; rfl

theorem goodTree_pure (l : List S80) (hl : l.length ≤ 9223372036854775807) (_ : ∀ y ∈ l, I64 y.f0 ∧ I64 y.f1) : ∃ k, laws_FnExactGoodTree.f k l = some true := by
  apply Ev.rounds
  unfold laws_FnExactGoodTree.f laws_szTreeCellS.f
  by_cases hb : l.length ≤ 1048576
  · rw [w64 (by omega) (by omega), if_neg (by omega)]
    simp only [Option.bind_some]
    refine Ev.congr (fun k => by rw [if_neg (by omega)]) ?_
    have hT := toTreeCellS_ev l hb
    obtain ⟨r, h1, h2, _⟩ := tree_ev (l.map cvTreeCell)
    have hG : Ev (fun k => spec_GoodTree.f k (l.map cvTreeCell)) (treeL (l.map cvTreeCell)).isSome := by
      unfold spec_GoodTree.f
      refine h1.bind ?_
      exact ev_is fun k => by rw [h2]
    refine hT.bind (hG.bind (hT.bind ?_))
    refine (ev_some (x := impl_GoodTree.f (l.map cvTreeCell)) rfl).bind ?_
    refine Ev.congr (fun k => by rw [if_neg (by simp)]) (hT.bind ((eqTreeCellS_ev (l.map cvTreeCell) (by simpa using hb)).bind ?_))
    exact ev_is fun _ => rfl
  · rw [w64 (by omega) (by omega), if_pos (by omega)]
    simpa using Ev.now _

theorem placesFor_both (l : List S78) : ∃ r, Ev (fun k => spec_PlacesFor.f k l) r ∧ impl_PlacesFor.f l = some r := by
  obtain ⟨r, h1, h2, h3⟩ := tree_ev l
  unfold spec_PlacesFor.f impl_PlacesFor.f
  cases ht : treeL l with
  | none =>
    rw [ht] at h2
    refine ⟨(0, false), h1.bind ?_, rfl⟩
    exact ev_is fun k => by rw [h2]; rfl
  | some t =>
    have hr := h3 t ht
    subst hr
    refine ⟨(t.places, true), h1.bind ?_, rfl⟩
    refine Ev.congr (fun k => by rw [if_pos rfl]) ((specPlaces_ev t (treeL_ok ht) (treeL_size ht)).bind ?_)
    exact ev_is fun k => rfl

theorem valueOf_both (l : List S78) : ∃ r, Ev (fun k => spec_ValueOf.f k l) r ∧ impl_ValueOf.f l = some r := by
  obtain ⟨r, h1, h2, h3⟩ := tree_ev l
  unfold spec_ValueOf.f impl_ValueOf.f
  cases ht : treeL l with
  | none =>
    rw [ht] at h2
    refine ⟨(0, false), h1.bind ?_, rfl⟩
    exact ev_is fun k => by rw [h2]; rfl
  | some t =>
    have hr := h3 t ht
    subst hr
    refine ⟨(t.value, true), h1.bind ?_, rfl⟩
    refine Ev.congr (fun k => by rw [if_pos rfl]) ((specValue_ev t (treeL_ok ht)).bind ?_)
    exact ev_is fun k => rfl

theorem placesFor_pure (l : List S80) (hl : l.length ≤ 9223372036854775807) (_ : ∀ y ∈ l, I64 y.f0 ∧ I64 y.f1) : ∃ k, laws_FnExactPlacesFor.f k l = some true := by
  apply Ev.rounds
  unfold laws_FnExactPlacesFor.f laws_szTreeCellS.f
  by_cases hb : l.length ≤ 1048576
  · rw [w64 (by omega) (by omega), if_neg (by omega)]
    simp only [Option.bind_some]
    refine Ev.congr (fun k => by rw [if_neg (by omega)]) ?_
    have hT := toTreeCellS_ev l hb
    obtain ⟨r, h1, h2⟩ := placesFor_both (l.map cvTreeCell)
    refine hT.bind (h1.bind (hT.bind ((ev_some h2).bind ?_)))
    refine Ev.congr (fun k => by rw [if_pos rfl]) ?_
    refine Ev.step (fun k => by simp only [laws_FnExactPlacesFor.j0]; rw [if_neg (by simp)]) (hT.bind ((eqTreeCellS_ev (l.map cvTreeCell) (by simpa using hb)).bind ?_))
    exact ev_is fun _ => rfl
  · rw [w64 (by omega) (by omega), if_pos (by omega)]
    simpa using Ev.now _

theorem valueOf_pure (l : List S80) (hl : l.length ≤ 9223372036854775807) (_ : ∀ y ∈ l, I64 y.f0 ∧ I64 y.f1) : ∃ k, laws_FnExactValueOf.f k l = some true := by
  apply Ev.rounds
  unfold laws_FnExactValueOf.f laws_szTreeCellS.f
  by_cases hb : l.length ≤ 1048576
  · rw [w64 (by omega) (by omega), if_neg (by omega)]
    simp only [Option.bind_some]
    refine Ev.congr (fun k => by rw [if_neg (by omega)]) ?_
    have hT := toTreeCellS_ev l hb
    obtain ⟨r, h1, h2⟩ := valueOf_both (l.map cvTreeCell)
    refine hT.bind (h1.bind (hT.bind ((ev_some h2).bind ?_)))
    refine Ev.congr (fun k => by rw [if_pos rfl]) ?_
    refine Ev.step (fun k => by simp only [laws_FnExactValueOf.j0]; rw [if_neg (by simp)]) (hT.bind ((eqTreeCellS_ev (l.map cvTreeCell) (by simpa using hb)).bind ?_))
    exact ev_is fun _ => rfl
  · rw [w64 (by omega) (by omega), if_pos (by omega)]
    simpa using Ev.now _

end Go.Proofs.Ytclkajdafinccaa.Q
