import Derived.Laws.Bits64b
import Derived.SizedLaws
import Derived.ChangeSlices
import Derived.Test.YtplcipjlkogadaaMFnDominators1
import Derived.Test.YtplcipjlkogadaaMFnDominators2
import Derived.Test.YtplcipjlkogadaaMFnDominators3
import Derived.Test.YtplcipjlkogadaaMFnDominators4
import Derived.Test.YtplcipjlkogadaaMFnDominators5
import Derived.Test.YtplcipjlkogadaaMFnDominators6
set_option linter.unusedVariables false
set_option linter.unusedSimpArgs false
set_option linter.unusedSectionVars false
namespace Go.Proofs.Ytplcipjlkogadaa.Q
open Go.RowKit Go.Proofs.Ytplcipjlkogadaa.P Go.Proofs.Ytplcipjlkogadaa.H Go.Proofs.YtplcipjlkogadaaW.PrintWords
theorem getD_memI {l : List Int} {m : Nat} (h : m < l.length) : l.getD m 0 ∈ l := by
  rw [List.getD_eq_getElem?_getD, List.getElem?_eq_getElem h]
  exact List.getElem_mem h
theorem drop_getD {l : List Int} {m : Nat} (h : m < l.length) : l.drop m = l.getD m 0 :: l.drop (m + 1) := by
  rw [List.drop_eq_getElem_cons h, List.getD_eq_getElem?_getD, List.getElem?_eq_getElem h]
  rfl
def nstep (dom : List (List Int)) (b best d : Int) : Int := if d = b then best else if best < 0 then d else if ((dom.getD d.toNat []).length : Int) > ((dom.getD best.toNat []).length : Int) then d else best
theorem near_inner {dom : List (List Int)} {acc : List Int} {b : Nat} {n : Int} {r : List Int} {l : List Int} (hacc : acc.length < 1048576) (hb : (b : Int) < 1048576) (hl : l.length ≤ 1048576) (hin : ∀ y ∈ l, 0 ≤ y ∧ y < (dom.length : Int)) :
    ∀ m, m ≤ l.length → ∀ best : Int, (best < 0 ∨ (0 ≤ best ∧ best < (dom.length : Int))) → Ev (fun k => spec_l10Nearest.l0 k dom (acc ++ [(l.drop m).foldl (nstep dom (b : Int)) best]) dom n ((b : Int) + 1)) r → Ev (fun k => spec_l10Nearest.l1 k dom acc (b : Int) best dom n (b : Int) l (l.length : Int) (m : Int)) r := by
  refine down (n := l.length) (p := fun m => ∀ best : Int, (best < 0 ∨ (0 ≤ best ∧ best < (dom.length : Int))) → Ev (fun k => spec_l10Nearest.l0 k dom (acc ++ [(l.drop m).foldl (nstep dom (b : Int)) best]) dom n ((b : Int) + 1)) r → Ev (fun k => spec_l10Nearest.l1 k dom acc (b : Int) best dom n (b : Int) l (l.length : Int) (m : Int)) r) ?h0 ?hs
  case h0 =>
    intro best _ h
    rw [List.drop_length, List.foldl_nil] at h
    refine Ev.step (fun k => ?_) h
    simp only [spec_l10Nearest.l1]
    rw [if_neg (by omega), if_pos (by omega), w64 (by omega) (by omega)]
  case hs =>
    intro m hm ih best hbest h
    have hx := hin _ (getD_memI hm)
    rw [drop_getD hm, List.foldl_cons] at h
    obtain ⟨d, hd⟩ : ∃ d, l.getD m 0 = d := ⟨_, rfl⟩
    have hrd : rd l (m : Int) = d := hd
    rw [hd] at hx h
    have hnb : nstep dom (b : Int) best d < 0 ∨ (0 ≤ nstep dom (b : Int) best d ∧ nstep dom (b : Int) best d < (dom.length : Int)) := by
      unfold nstep
      split
      · exact hbest
      · split
        · exact .inr hx
        · split
          · exact .inr hx
          · exact hbest
    refine Ev.step (fun k => ?_) (ih (nstep dom (b : Int) best d) hnb h)
    have e1 : rd_L1 dom d = dom.getD d.toNat [] := rfl
    have e2 : rd_L1 dom best = dom.getD best.toNat [] := rfl
    simp only [spec_l10Nearest.l1]
    rw [if_pos (by omega), if_pos (by omega), if_pos (by omega), hrd, w64 (show -9223372036854775808 ≤ (m : Int) + 1 by omega) (by omega)]
    unfold nstep
    by_cases c1 : d = (b : Int)
    · rw [if_pos c1, if_pos c1]; rfl
    · rw [if_neg c1, if_neg c1]
      by_cases c2 : best < 0
      · rw [if_pos c2, if_pos c2]; rfl
      · rw [if_neg c2, if_neg c2, if_pos hx.1, if_pos hx.2, if_pos (by omega), if_pos (by omega), e1, e2]
        by_cases c3 : ((dom.getD d.toNat []).length : Int) > ((dom.getD best.toNat []).length : Int)
        · rw [if_pos c3, if_pos c3]; rfl
        · rw [if_neg c3, if_neg c3]; rfl
section
variable {g : List (List Int)}
theorem domL_at {b : Nat} (hb : b < g.length) : (domL g).getD b [] = listTo ((domF g).getD b []) 12 := by
  have hbl : b < (domF g).length := by unfold domF; rw [matF_len]; exact hb
  unfold domL
  rw [List.getD_eq_getElem?_getD, List.getElem?_map, List.getD_eq_getElem?_getD, List.getElem?_eq_getElem hbl]
  rfl
theorem dom_self (hG : goodG g = true) {b : Nat} (hb : b < g.length) {y : Nat} (hy : (y : Int) ∈ (domL g).getD b []) : y < g.length ∧ 0 < (listTo ((domF g).getD y []) 12).length := by
  have hr := goodG_rows hG
  have hm := ((domL_rel hG).mem b hb _).1 hy
  have hyr := (listTo_reach hG _).1 hm.1
  have hyn := hyr.rng hG (by decide) (by have := hr.1.1; omega)
  have hyl : y < g.length := by omega
  refine ⟨hyl, ?_⟩
  have h2 : (y : Int) ∈ (domL g).getD y [] := ((domL_rel hG).mem y hyl _).2 ⟨hm.1, hm.1, fun h => ((listTo_reach hG _).1 h).ne rfl⟩
  rw [domL_at hyl] at h2
  exact List.length_pos_of_mem h2
theorem near_run (hG : goodG g = true) {b : Nat} (hb : b < g.length) : ∀ i, i ≤ 12 →
    (listTo ((domF g).getD b []) i).foldl (nstep (domL g) (b : Int)) (-1) = (nrTo (domF g) (((domF g).getD b []).set b false) i).1 ∧
    (((nrTo (domF g) (((domF g).getD b []).set b false) i).1 = -1 ∧ (nrTo (domF g) (((domF g).getD b []).set b false) i).2 = 0) ∨ (0 ≤ (nrTo (domF g) (((domF g).getD b []).set b false) i).1 ∧ (nrTo (domF g) (((domF g).getD b []).set b false) i).1.toNat < g.length ∧ (nrTo (domF g) (((domF g).getD b []).set b false) i).2 = (listTo ((domF g).getD (nrTo (domF g) (((domF g).getD b []).set b false) i).1.toNat []) 12).length)) := by
  intro i
  induction i with
  | zero => intro _; exact ⟨rfl, .inl ⟨rfl, rfl⟩⟩
  | succ i ih =>
    intro hi
    obtain ⟨h1, h2⟩ := ih (by omega)
    have hrl : ((domF g).getD b []).length = 12 := by
      unfold domF
      rw [matF_row hb, rowF_len]
    have hself : ∀ y : Nat, y < 12 → ((domF g).getD b []).getD y false = true → y < g.length ∧ 0 < (listTo ((domF g).getD y []) 12).length := fun y hy h => dom_self hG hb (by rw [domL_at hb, listTo_mem]; exact ⟨y, hy, rfl, h⟩)
    have hst : nrTo (domF g) (((domF g).getD b []).set b false) (i + 1) = if (((domF g).getD b []).set b false).getD i false && decide ((nrTo (domF g) (((domF g).getD b []).set b false) i).2 < (listTo ((domF g).getD i []) 12).length) then ((i : Int), (listTo ((domF g).getD i []) 12).length) else nrTo (domF g) (((domF g).getD b []).set b false) i := rfl
    have hset : (((domF g).getD b []).set b false).getD i false = if b = i then false else ((domF g).getD b []).getD i false := by
      by_cases e : b = i
      · subst e
        rw [if_pos rfl, List.getD_eq_getElem?_getD, List.getElem?_set_self (by omega)]
        rfl
      · rw [if_neg e]
        simp only [List.getD_eq_getElem?_getD, List.getElem?_set_ne e]
    rw [hset] at hst
    obtain ⟨st, hp⟩ : ∃ st, nrTo (domF g) (((domF g).getD b []).set b false) i = st := ⟨_, rfl⟩
    rw [hp] at h1 h2 hst
    rw [hst, listTo_step]
    cases hbit : ((domF g).getD b []).getD i false with
    | false =>
      rw [if_neg (by simp)]
      have : (if b = i then false else false) = false := by split <;> rfl
      rw [this, Bool.false_and, if_neg (by simp)]
      exact ⟨h1, h2⟩
    | true =>
      rw [if_pos rfl, List.foldl_append, List.foldl_cons, List.foldl_nil, h1]
      by_cases e : b = i
      · rw [if_pos e, Bool.false_and, if_neg (by simp)]
        refine ⟨?_, h2⟩
        unfold nstep
        rw [if_pos (by omega)]
      · obtain ⟨hig, hpos⟩ := hself i (by omega) hbit
        have hdi : (domL g).getD i [] = listTo ((domF g).getD i []) 12 := domL_at hig
        rw [if_neg e, Bool.true_and]
        unfold nstep
        rw [if_neg (by omega), Int.toNat_natCast, hdi]
        rcases h2 with ⟨a1, a2⟩ | ⟨a1, a2, a3⟩
        · rw [a1, a2, if_pos (by decide), decide_eq_true hpos, if_pos rfl]
          exact ⟨rfl, .inr ⟨by omega, by rw [Int.toNat_natCast]; exact hig, by rw [Int.toNat_natCast]⟩⟩
        · rw [if_neg (by omega), domL_at a2, ← a3]
          by_cases c : st.2 < (listTo ((domF g).getD i []) 12).length
          · rw [decide_eq_true c, if_pos rfl, if_pos (by omega)]
            exact ⟨rfl, .inr ⟨by omega, by rw [Int.toNat_natCast]; exact hig, by rw [Int.toNat_natCast]⟩⟩
          · rw [decide_eq_false c, if_neg (show ¬ (((listTo ((domF g).getD i []) 12).length : Nat) : Int) > ((st.2 : Nat) : Int) by omega), if_neg (show ¬ (false = true) by simp)]
            exact ⟨rfl, .inr ⟨a1, a2, a3⟩⟩
end
theorem nearestOf_core (g : List (List Int)) (hg : Small g) : ∃ (s1 : List Int) (s2 : Bool), Ev (fun k => spec_NearestOf.f k g) (s1, s2) ∧ impl_NearestOf.f g = some (s1, s2) ∧ s1.length ≤ 1048576 := by
  unfold impl_NearestOf.f spec_NearestOf.f
  cases hG : goodG g with
  | false =>
    refine ⟨[], false, (specGoodGraph_ev g hg).bind ?_, by rw [if_neg (by simp)], by simp⟩
    rw [hG]
    exact ev_is fun k => by rw [if_neg (by simp)]
  | true =>
    have hr := goodG_rows hG
    have hn2 : g.length ≤ 12 := hr.1.2
    have hdl : (domL g).length = g.length := (domL_rel hG).len
    refine ⟨nfTo (domF g) g.length g.length, true, (specGoodGraph_ev g hg).bind ?_, by rw [if_pos rfl], by rw [nfTo_len]; omega⟩
    rw [hG]
    have e : spec_l10Dominators.f g = some (domL g) := by unfold spec_l10Dominators.f; rw [hG, if_pos rfl]
    have key : Ev (fun k => spec_l10Nearest.f k g) (nfTo (domF g) g.length g.length) := by
      unfold spec_l10Nearest.f
      simp only [e, Option.bind_some]
      rw [hdl]
      obtain ⟨OUT, hOUT⟩ : ∃ OUT, nfTo (domF g) g.length g.length = OUT := ⟨_, rfl⟩
      have hol : OUT.length = g.length := by rw [← hOUT, nfTo_len]
      have hat : ∀ t, t < g.length → OUT[t]? = some (nfB (domF g) t) := by
        intro t ht
        rw [← hOUT]
        unfold nfTo
        rw [List.getElem?_map, List.getElem?_range ht, Option.map_some, if_pos ht]
      rw [hOUT]
      exact down0 (n := g.length) (p := fun b => Ev (fun k => spec_l10Nearest.l0 k (domL g) (OUT.take b) (domL g) (g.length : Int) (b : Int)) OUT)
        (Ev.step (f := fun _ => some OUT) (fun k => by simp only [spec_l10Nearest.l0]; rw [if_neg (by omega), List.take_of_length_le (by omega)]) (Ev.now _))
        (fun b hb ih => by
          have hrow := domL_at hb
          have hlen := listTo_len ((domF g).getD b []) 12
          refine Ev.step (fun k => ?_) (near_inner (dom := domL g) (acc := OUT.take b) (b := b) (n := (g.length : Int)) (r := OUT) (l := (domL g).getD b []) (by rw [List.length_take]; omega) (by omega) (by rw [hrow]; omega) (fun y hy => ?_) 0 (Nat.zero_le _) (-1) (.inl (by decide)) ?_)
          · simp only [spec_l10Nearest.l0]
            rw [if_pos (by omega), if_pos (by omega), if_pos (by omega)]
            rfl
          · have hm := ((domL_rel hG).mem b hb y).1 hy
            have := ((listTo_reach hG y).1 hm.1).rng hG (by decide) (by have := hr.1.1; omega)
            omega
          · rw [List.drop_zero, hrow, (near_run hG hb 12 (by decide)).1]
            have hto : OUT.take (b + 1) = OUT.take b ++ [nfB (domF g) b] := by rw [List.take_add_one, hat b hb]; rfl
            rw [hto] at ih
            exact ih)
    refine Ev.congr (fun k => by rw [if_pos rfl]) (key.bind ?_)
    exact Ev.now _
end Go.Proofs.Ytplcipjlkogadaa.Q

namespace Go.Proofs.Ytplcipjlkogadaa.Q
open Go.RowKit Go.Proofs.Ytplcipjlkogadaa.P Go.Proofs.Ytplcipjlkogadaa.H Go.Proofs.YtplcipjlkogadaaW.PrintWords
variable {g : List (List Int)}
structure DM (g : List (List Int)) (b x : Int) : Prop where
  rx : Rch g (-1) 0 x
  rb : Rch g (-1) 0 b
  no : ¬ Rch g x 0 b
theorem DM.self {x : Int} (h : Rch g (-1) 0 x) : DM g x x := ⟨h, h, fun h => h.ne rfl⟩
theorem DM.start {b : Int} (hb : Rch g (-1) 0 b) (h0 : Rch g (-1) 0 0) : DM g b 0 := ⟨h0, hb, fun h => by
  have : ∀ {y}, Rch g 0 0 y → False := by
    intro y h
    induction h with
    | here h => exact h rfl
    | on _ _ _ ih => exact ih
  exact this h⟩
theorem DM.chain {k x y : Int} (hx : DM g k x) (hy : DM g k y) : DM g x y ∨ DM g y x := by
  by_cases e : x = y
  · subst e
    exact .inl (.self hx.rx)
  · refine Classical.byContradiction (fun hn => ?_)
    have h1 : Rch g y 0 x := Classical.byContradiction (fun h => hn (.inl ⟨hy.rx, hx.rx, h⟩))
    have h2 : Rch g x 0 y := Classical.byContradiction (fun h => hn (.inr ⟨hx.rx, hy.rx, h⟩))
    have key : ∀ z, Rch g (-1) 0 z → Rch g y 0 z ∨ Rch g x 0 z := by
      intro z hz
      induction hz with
      | here _ =>
        by_cases e0 : (0 : Int) = y
        · exact .inr (.here (by omega))
        · exact .inl (.here e0)
      | @on a b _ hm _ ih =>
        rcases ih with ih | ih
        · by_cases e0 : b = y
          · subst e0; exact .inr h2
          · exact .inl (.on ih hm e0)
        · by_cases e0 : b = x
          · subst e0; exact .inl h1
          · exact .inr (.on ih hm e0)
    rcases key k hx.rb with h | h
    · exact hy.no h
    · exact hx.no h
theorem DM.trans {b m x : Int} (h1 : DM g b m) (h2 : DM g m x) : DM g b x := by
  refine ⟨h2.rx, h1.rb, fun h => ?_⟩
  have key : ∀ z, Rch g x 0 z → Rch g m 0 z ∨ Rch g x 0 m := by
    intro z hz
    induction hz with
    | here hz =>
      by_cases e0 : (0 : Int) = m
      · exact .inr (e0 ▸ .here hz)
      · exact .inl (.here e0)
    | @on a b hx hm hw ih =>
      rcases ih with ih | ih
      · by_cases e0 : b = m
        · subst e0; exact .inr (.on hx hm hw)
        · exact .inl (.on ih hm e0)
      · exact .inr ih
  rcases key b h with h | h
  · exact h1.no h
  · exact h2.no h
theorem DM.anti {m x : Int} (h1 : DM g m x) (h2 : DM g x m) : m = x := by
  refine Classical.byContradiction (fun e => ?_)
  have key : ∀ z, Rch g (-1) 0 z → Rch g x 0 z ∧ Rch g m 0 z := by
    intro z hz
    induction hz with
    | here _ =>
      by_cases e0 : (0 : Int) = x
      · exact absurd (e0 ▸ .here (by omega)) h2.no
      · by_cases e1 : (0 : Int) = m
        · exact absurd (e1 ▸ .here (by omega)) h1.no
        · exact ⟨.here e0, .here e1⟩
    | @on a b hx hm hw ih =>
      by_cases e0 : b = x
      · subst e0; exact absurd (.on ih.2 hm (fun h => e h.symm)) h2.no
      · by_cases e1 : b = m
        · subst e1; exact absurd (.on ih.1 hm e0) h1.no
        · exact ⟨.on ih.1 hm e0, .on ih.2 hm e1⟩
  exact (key x h1.rx).1.ne rfl
end Go.Proofs.Ytplcipjlkogadaa.Q

namespace Go.Proofs.Ytplcipjlkogadaa.Q
open Go.RowKit Go.Proofs.Ytplcipjlkogadaa.P Go.Proofs.Ytplcipjlkogadaa.H Go.Proofs.YtplcipjlkogadaaW.PrintWords
theorem nr_facts (D : List (List Bool)) (s : List Bool) : ∀ i, (∀ j : Nat, j < i → s.getD j false = true → (listTo (D.getD j []) 12).length ≤ (nrTo D s i).2) ∧ (((nrTo D s i).1 = -1 ∧ (nrTo D s i).2 = 0) ∨ ∃ m : Nat, m < i ∧ nrTo D s i = ((m : Int), (listTo (D.getD m []) 12).length) ∧ s.getD m false = true) := by
  intro i
  induction i with
  | zero => exact ⟨fun j hj => by omega, .inl ⟨rfl, rfl⟩⟩
  | succ i ih =>
    have hst : nrTo D s (i + 1) = if s.getD i false && decide ((nrTo D s i).2 < (listTo (D.getD i []) 12).length) then ((i : Int), (listTo (D.getD i []) 12).length) else nrTo D s i := rfl
    obtain ⟨h1, h2⟩ := ih
    rw [hst]
    generalize nrTo D s i = st at h1 h2 ⊢
    cases hb : s.getD i false with
    | false =>
      rw [Bool.false_and, if_neg (by simp)]
      refine ⟨fun j hj hs => ?_, h2.imp id (fun ⟨m, h, e⟩ => ⟨m, by omega, e⟩)⟩
      by_cases e : j = i
      · subst e
        rw [hb] at hs
        cases hs
      · exact h1 j (by omega) hs
    | true =>
      rw [Bool.true_and]
      by_cases c : st.2 < (listTo (D.getD i []) 12).length
      · rw [decide_eq_true c, if_pos rfl]
        refine ⟨fun j hj hs => ?_, .inr ⟨i, by omega, rfl, hb⟩⟩
        by_cases e : j = i
        · subst e
          exact Nat.le_refl _
        · exact Nat.le_of_lt (Nat.lt_of_le_of_lt (h1 j (by omega) hs) c)
      · rw [decide_eq_false c, if_neg (by simp)]
        refine ⟨fun j hj hs => ?_, h2.imp id (fun ⟨m, h, e⟩ => ⟨m, by omega, e⟩)⟩
        by_cases e : j = i
        · subst e
          omega
        · exact h1 j (by omega) hs
section
variable {g : List (List Int)} (hG : goodG g = true)
include hG
theorem dm_iff {b : Nat} (hb : b < g.length) (d : Int) : d ∈ (domL g).getD b [] ↔ DM g (b : Int) d := by
  rw [(domL_rel hG).mem b hb]
  constructor
  · rintro ⟨h1, h2, h3⟩
    exact ⟨(listTo_reach hG _).1 h1, (listTo_reach hG _).1 h2, fun h => h3 ((listTo_reach hG _).2 h)⟩
  · rintro ⟨h1, h2, h3⟩
    exact ⟨(listTo_reach hG _).2 h1, (listTo_reach hG _).2 h2, fun h => h3 ((listTo_reach hG _).1 h)⟩
theorem dm_rng {b d : Int} (h : DM g b d) : 0 ≤ d ∧ d < (g.length : Int) := h.rx.rng hG (by decide) (by have := goodG_rows hG; omega)
theorem dm_rngb {b d : Int} (h : DM g b d) : 0 ≤ b ∧ b < (g.length : Int) := h.rb.rng hG (by decide) (by have := goodG_rows hG; omega)
theorem dm_fewer {b d : Nat} (h : DM g (b : Int) (d : Int)) (hne : d ≠ b) : ((domL g).getD d []).length < ((domL g).getD b []).length := by
  have hd := dm_rng hG h
  have hb := dm_rngb hG h
  have hsub : ∀ y ∈ (domL g).getD d [], y ∈ (domL g).getD b [] := fun y hy => (dm_iff hG (by omega) y).2 (h.trans ((dm_iff hG (by omega) y).1 hy))
  have hs := srt_sub_len ((domL_rel hG).srt d (by omega)) ((domL_rel hG).srt b (by omega)) hsub
  rcases Nat.lt_or_ge ((domL g).getD d []).length ((domL g).getD b []).length with hl | hl
  · exact hl
  · have e := hs.2 (by omega)
    have hbb : (b : Int) ∈ (domL g).getD b [] := (dm_iff hG (by omega) _).2 (.self h.rb)
    rw [← e] at hbb
    have h2 := (dm_iff hG (show d < g.length by omega) _).1 hbb
    exact absurd (DM.anti h h2) (by omega)
theorem dm_bit {b y : Nat} (hb : b < g.length) (hy : y < 12) : ((domF g).getD b []).getD y false = true ↔ DM g (b : Int) (y : Int) := by
  rw [← dm_iff hG hb, domL_at hb, listTo_mem]
  exact ⟨fun h => ⟨y, hy, rfl, h⟩, fun ⟨i, _, e, h⟩ => by rwa [show y = i by omega]⟩
theorem near_facts {b : Nat} (hb : b < g.length) : (0 ≤ nfB (domF g) b → nfB (domF g) b < (g.length : Int) ∧ ∀ x, DM g (b : Int) x → x ≠ (b : Int) → DM g (nfB (domF g) b) x) ∧ (nfB (domF g) b < 0 → Rch g (-1) 0 (b : Int) → b = 0) := by
  have hn := goodG_rows hG
  obtain ⟨h1, h2⟩ := nr_facts (domF g) (((domF g).getD b []).set b false) 12
  have hrl : ((domF g).getD b []).length = 12 := by unfold domF; rw [matF_row hb, rowF_len]
  have hset : ∀ i : Nat, (((domF g).getD b []).set b false).getD i false = if b = i then false else ((domF g).getD b []).getD i false := by
    intro i
    by_cases e : b = i
    · subst e
      rw [if_pos rfl, List.getD_eq_getElem?_getD, List.getElem?_set_self (by omega)]
      rfl
    · rw [if_neg e]
      simp only [List.getD_eq_getElem?_getD, List.getElem?_set_ne e]
  have hnf : nfB (domF g) b = (nrTo (domF g) (((domF g).getD b []).set b false) 12).1 := rfl
  rw [hnf]
  have hbig : ∀ x : Nat, DM g (b : Int) (x : Int) → x ≠ b → (listTo ((domF g).getD x []) 12).length ≤ (nrTo (domF g) (((domF g).getD b []).set b false) 12).2 := by
    intro x hx hne
    have hxr := dm_rng hG hx
    refine h1 x (by omega) ?_
    rw [hset, if_neg (fun e => hne e.symm)]
    exact (dm_bit hG hb (by omega)).2 hx
  generalize nrTo (domF g) (((domF g).getD b []).set b false) 12 = st at h2 hbig ⊢
  constructor
  · intro h0
    rcases h2 with ⟨e, _⟩ | ⟨m, hm, e, hs⟩
    · omega
    · subst e
      rw [hset] at hs
      by_cases ebm : b = m
      · rw [if_pos ebm] at hs
        cases hs
      · rw [if_neg ebm] at hs
        have hdm := (dm_bit hG hb hm).1 hs
        have hmr := dm_rng hG hdm
        refine ⟨hmr.2, fun x hx hne => ?_⟩
        rcases DM.chain hdm hx with h | h
        · exact h
        · have hxr := dm_rng hG hx
          obtain ⟨y, rfl⟩ : ∃ y : Nat, x = (y : Int) := ⟨x.toNat, by omega⟩
          by_cases e : m = y
          · subst e
            exact h
          · have h3 := hbig y hx (by omega)
            have h4 := dm_fewer hG h e
            rw [domL_at (show m < g.length by omega), domL_at (show y < g.length by omega)] at h4
            simp only at h3
            omega
  · intro h0 hr
    rcases h2 with ⟨e, e2⟩ | ⟨m, hm, e, hs⟩
    · refine Classical.byContradiction (fun hb0 => ?_)
      have hz : Rch g (-1) 0 0 := .here (by decide)
      have h3 := hbig 0 (DM.start hr hz) (fun h => hb0 h.symm)
      have h4 : (0 : Int) ∈ (domL g).getD 0 [] := (dm_iff hG (show 0 < g.length by omega) _).2 (.self hz)
      rw [domL_at (show 0 < g.length by omega)] at h4
      have := List.length_pos_of_mem h4
      omega
    · subst e
      simp only at h0
      omega
end
end Go.Proofs.Ytplcipjlkogadaa.Q

namespace Go.Proofs.Ytplcipjlkogadaa.Q.C
open Go.RowKit Go.Proofs.Ytplcipjlkogadaa.P Go.Proofs.Ytplcipjlkogadaa.H Go.Proofs.YtplcipjlkogadaaW.PrintWords
theorem small_lists (M : List (List Bool)) (h : M.length ≤ 1048576) : Small (M.map (fun r => listTo r 12)) := ⟨by rw [List.length_map]; exact h, fun r hr => by obtain ⟨x, _, rfl⟩ := List.mem_map.1 hr; exact listTo_small x⟩
theorem small_nil' : Small ([] : List (List Int)) := ⟨by simp, fun r hr => by simp at hr⟩
theorem dominatorsOf_core (g : List (List Int)) (hg : Small g) : ∃ (s1 : List (List Int)) (s2 : Bool), Ev (fun k => spec_DominatorsOf.f k g) (s1, s2) ∧ impl_DominatorsOf.f g = some (s1, s2) ∧ Small s1 := by
  unfold impl_DominatorsOf.f spec_DominatorsOf.f
  cases hG : goodG g with
  | false =>
    refine ⟨[], false, (specGoodGraph_ev g hg).bind ?_, by rw [if_neg (by simp)], small_nil'⟩
    rw [hG]
    exact ev_is fun k => by rw [if_neg (by simp)]
  | true =>
    refine ⟨domL g, true, (specGoodGraph_ev g hg).bind ?_, by rw [if_pos rfl]; rfl, small_lists _ (by unfold domF; rw [matF_len]; exact hg.1)⟩
    rw [hG]
    exact ev_is fun k => by rw [if_pos rfl]; unfold spec_l10Dominators.f; rw [hG, if_pos rfl]; rfl
theorem without_core (g : List (List Int)) (a : Int) (hg : Small g) : ∃ (s1 : List Int) (s2 : Bool), Ev (fun k => spec_Without.f k g a) (s1, s2) ∧ impl_Without.f g a = some (s1, s2) ∧ s1.length ≤ 1048576 := by
  unfold impl_Without.f spec_Without.f inB
  cases hG : goodG g with
  | false =>
    refine ⟨[], false, (specGoodGraph_ev g hg).bind ?_, by rw [Bool.false_and, if_neg (by simp)], by simp⟩
    rw [hG]
    exact ev_is fun k => by rw [if_neg (by simp)]
  | true =>
    by_cases h0 : a < 0
    · refine ⟨[], false, (specGoodGraph_ev g hg).bind ?_, by rw [decide_eq_false (show ¬ (0 : Int) ≤ a by omega)]; simp, by simp⟩
      rw [hG]
      exact ev_is fun k => by rw [if_pos rfl, if_pos h0]
    · by_cases h1 : a ≥ (g.length : Int)
      · refine ⟨[], false, (specGoodGraph_ev g hg).bind ?_, by rw [decide_eq_false (show ¬ a ≤ (g.length : Int) - 1 by omega)]; simp, by simp⟩
        rw [hG]
        exact ev_is fun k => by rw [if_pos rfl, if_neg h0, if_pos h1]
      · refine ⟨_, true, (specGoodGraph_ev g hg).bind ?_, by rw [decide_eq_true (show (0 : Int) ≤ a by omega), decide_eq_true (show a ≤ (g.length : Int) - 1 by omega)]; rfl, listTo_small _⟩
        rw [hG]
        refine Ev.congr (fun k => by rw [if_pos rfl, if_neg h0, if_neg h1]) ((specReach_ev hG a).bind ?_)
        exact Ev.now _
theorem reachedOf_core (g : List (List Int)) (hg : Small g) : ∃ (s1 : List Int) (s2 : Bool), Ev (fun k => spec_ReachedOf.f k g) (s1, s2) ∧ impl_ReachedOf.f g = some (s1, s2) ∧ s1.length ≤ 1048576 := by
  unfold impl_ReachedOf.f spec_ReachedOf.f
  cases hG : goodG g with
  | false =>
    refine ⟨[], false, (specGoodGraph_ev g hg).bind ?_, by rw [if_neg (by simp)], by simp⟩
    rw [hG]
    exact ev_is fun k => by rw [if_neg (by simp)]
  | true =>
    refine ⟨_, true, (specGoodGraph_ev g hg).bind ?_, by rw [if_pos rfl], listTo_small _⟩
    rw [hG]
    refine Ev.congr (fun k => by rw [if_pos rfl]) ((specReach_ev hG (-1)).bind ?_)
    exact Ev.now _
end Go.Proofs.Ytplcipjlkogadaa.Q.C

namespace Go.Proofs.Ytplcipjlkogadaa.Q
open Go.RowKit Go.Proofs.Ytplcipjlkogadaa.P Go.Proofs.Ytplcipjlkogadaa.H Go.Proofs.YtplcipjlkogadaaW.PrintWords
theorem low_byte {n : Int} (h0 : 0 ≤ n) (h1 : n < 18446744073709551616) : 0 ≤ Go.bits .and .u64 n 255 ∧ Go.bits .and .u64 n 255 < 256 := by
  have h := bits_and_u64_nat n.toNat 255 (by omega) (by omega)
  rw [Int.toNat_of_nonneg h0] at h
  have h2 : n.toNat &&& 255 ≤ 255 := Nat.and_le_right
  have h3 : Go.bits .and .u64 n 255 = ((n.toNat &&& 255 : Nat) : Int) := h
  rw [h3]
  omega
theorem drawn_byte (n : Int) : ∃ x, wrap64 (Go.bits .and .u64 (IntKind.u64.wrap n / 1099511627776) 255) = x ∧ 0 ≤ x ∧ x < 256 := by
  have hw := IntKind.wrap_u64 n
  have h := low_byte (n := IntKind.u64.wrap n / 1099511627776) (by omega) (by omega)
  refine ⟨_, rfl, ?_⟩
  rw [w64 (by omega) (by omega)]
  exact h
def Byt (l : List Int) : Prop := ∀ x ∈ l, 0 ≤ x ∧ x < 256
theorem next_ok {code : List Int} (hc : Byt code) (hl : code.length ≤ 4611686018427387904) {at_ : Int} (sd : Int) (h0 : 0 ≤ at_) (h1 : at_ ≤ 4611686018427387904) : ∃ x sd', spec_l1Cur_next.f code at_ sd = some (x, at_ + 1, sd') ∧ 0 ≤ x ∧ x < 256 := by
  unfold spec_l1Cur_next.f
  have hw : wrap64 (at_ + 1) = at_ + 1 := w64 (by omega) (by omega)
  by_cases c : at_ < (code.length : Int)
  · rw [if_pos c, if_pos h0, hw, if_pos (by omega)]
    have hr : rd code at_ = code.getD at_.toNat 0 := rfl
    have hx := hc _ (show code.getD at_.toNat 0 ∈ code by rw [List.getD_eq_getElem?_getD, List.getElem?_eq_getElem (by omega)]; exact List.getElem_mem _)
    exact ⟨_, _, rfl, by rw [hr, w64 (by omega) (by omega)]; exact hx.1, by rw [hr, w64 (by omega) (by omega)]; exact hx.2⟩
  · rw [if_neg c, hw]
    by_cases c2 : at_ + 1 ≤ (code.length : Int)
    · rw [if_pos c2]
      exact ⟨_, _, rfl, by omega, by omega⟩
    · rw [if_neg c2]
      obtain ⟨x, hx, h2⟩ := drawn_byte (IntKind.u64.wrap (IntKind.u64.wrap (sd * 6364136223846793005) + 0) + 1442695040888963407)
      exact ⟨_, _, rfl, by rw [hx]; exact h2.1, by rw [hx]; exact h2.2⟩
theorem pick_ok {code : List Int} (hc : Byt code) (hl : code.length ≤ 4611686018427387904) {at_ : Int} (sd n : Int) (h0 : 0 ≤ at_) (h1 : at_ + 2 ≤ 4611686018427387904) : ∃ x at' sd', spec_l1Cur_pick.f code at_ sd n = some (x, at', sd') ∧ 0 ≤ x ∧ (1 ≤ n → x < n) ∧ at_ ≤ at' ∧ at' ≤ at_ + 2 := by
  unfold spec_l1Cur_pick.f
  by_cases c : n ≤ 1
  · rw [if_pos c]
    exact ⟨0, at_, sd, rfl, by omega, fun _ => by omega, by omega, by omega⟩
  · rw [if_neg c]
    obtain ⟨x, sd1, e, hx0, hx1⟩ := next_ok hc hl sd h0 (by omega)
    rw [e, Option.bind_some]
    by_cases c2 : n > 200
    · obtain ⟨y, sd2, e2, hy0, hy1⟩ := next_ok hc hl sd1 (at_ := at_ + 1) (by omega) (by omega)
      simp only []
      rw [if_pos c2, e2, Option.bind_some]
      simp only []
      rw [if_neg (by omega)]
      have hw : wrap64 (x * 256) = x * 256 := w64 (by omega) (by omega)
      have hw2 : wrap64 (wrap64 (x * 256) + y) = x * 256 + y := by rw [hw]; exact w64 (by omega) (by omega)
      have hm : Int.tmod (x * 256 + y) n = (x * 256 + y) % n := Int.tmod_eq_emod_of_nonneg (by omega)
      have hm0 := Int.emod_nonneg (x * 256 + y) (show n ≠ 0 by omega)
      have hm1 := Int.emod_lt_of_pos (x * 256 + y) (show 0 < n by omega)
      exact ⟨_, _, _, rfl, by rw [hw2, hm]; exact hm0, fun _ => by rw [hw2, hm]; exact hm1, by omega, by omega⟩
    · simp only []
      rw [if_neg c2, if_neg (by omega)]
      have hm : Int.tmod x n = x % n := Int.tmod_eq_emod_of_nonneg hx0
      have hm0 := Int.emod_nonneg x (show n ≠ 0 by omega)
      have hm1 := Int.emod_lt_of_pos x (show 0 < n by omega)
      exact ⟨_, _, _, rfl, by rw [hm]; exact hm0, fun _ => by rw [hm]; exact hm1, by omega, by omega⟩
theorem one_ok {code : List Int} (hc : Byt code) (hl : code.length ≤ 4611686018427387904) {at_ : Int} (sd n : Int) (h0 : 0 ≤ at_) (h1 : at_ + 2 ≤ 4611686018427387904) : ∃ x at' sd', spec_l1Cur_one.f code at_ sd n = some (x, at', sd') ∧ at_ ≤ at' ∧ at' ≤ at_ + 2 := by
  unfold spec_l1Cur_one.f
  obtain ⟨x, a, s, e, _, _, h3, h4⟩ := pick_ok hc hl sd n h0 h1
  rw [e, Option.bind_some]
  exact ⟨_, a, s, rfl, h3, h4⟩
structure Fair (n m : Nat) (g : List (List Int)) : Prop where
  len : g.length ≤ n
  row : ∀ r ∈ g, r.length ≤ m
theorem Fair.small {n m : Nat} {g : List (List Int)} (h : Fair n m g) (hn : n ≤ 1048576) (hm : m ≤ 1048576) : Small g := ⟨Nat.le_trans h.len hn, fun r hr => Nat.le_trans (h.row r hr) hm⟩
def Drw (r : List (List Int) × Int × Int) : Prop := Fair 13 5 r.1 ∧ 1 ≤ r.1.length ∧ 0 ≤ r.2.1 ∧ r.2.1 ≤ 200
section
variable {code : List Int} (hc : Byt code) (hl : code.length ≤ 1048576) {n : Int}
include hc hl
theorem graph_l1 {K : Int} (kk : Int) (g : List (List Int)) (hgl : g.length ≤ 13) (cont : ∀ (row : List Int) (at_ sd : Int), row.length ≤ 4 → 0 ≤ at_ → at_ ≤ K + 4 → ∃ r, Drw r ∧ Ev (fun k => spec_l1Cur_graph.l0 k n (wrap64 (kk + 1)) code at_ sd (g ++ [row])) r) (hK : K ≤ 1048576) :
    ∀ (m : Nat) (row : List Int) (at_ sd : Int), m ≤ 2 → row.length + m ≤ 4 → 0 ≤ at_ → at_ + 2 * m ≤ K + 4 → ∃ r, Drw r ∧ Ev (fun k => spec_l1Cur_graph.l1 k n kk row (m : Int) code at_ sd g) r := by
  intro m
  induction m with
  | zero =>
    intro row at_ sd _ hr h0 h1
    obtain ⟨r, hr1, hr2⟩ := cont row at_ sd (by omega) h0 (by omega)
    refine ⟨r, hr1, Ev.step (fun k => ?_) hr2⟩
    simp only [spec_l1Cur_graph.l1]
    rw [if_neg (by omega), if_pos (by omega)]
  | succ m ih =>
    intro row at_ sd hm hr h0 h1
    obtain ⟨x, a, s, e, _, _, ha1, ha2⟩ := pick_ok hc (by omega) sd n h0 (by omega)
    have hp := putL_len x row
    obtain ⟨r, hr1, hr2⟩ := ih (putL row x) a s (by omega) (by omega) (by omega) (by omega)
    refine ⟨r, hr1, Ev.step (fun k => ?_) ((put_ev row x (by omega)).bind (f := fun k t => spec_l1Cur_graph.l1 k n kk t (m : Int) code a s g) hr2)⟩
    simp only [spec_l1Cur_graph.l1]
    rw [if_pos (by omega), e, Option.bind_some, w64 (by omega) (by omega), show ((m + 1 : Nat) : Int) - 1 = (m : Int) by omega]
theorem graph_j3 {i : Nat} (hi : (i : Int) < n) (hn2 : n ≤ 13) (g : List (List Int)) (hg : g.length = i) (hf : Fair 13 4 g) {B : Int} (hB : B ≤ 1000) (cont : ∀ (row : List Int) (at_ sd : Int), row.length ≤ 4 → 0 ≤ at_ → at_ ≤ B + 6 → ∃ r, Drw r ∧ Ev (fun k => spec_l1Cur_graph.l0 k n ((i + 1 : Nat) : Int) code at_ sd (g ++ [row])) r) (row : List Int) (hr : row.length ≤ 1) (at_ sd : Int) (h0 : 0 ≤ at_) (h1 : at_ ≤ B) :
    ∃ r, Drw r ∧ Ev (fun k => spec_l1Cur_graph.j3 k n (i : Int) row code at_ sd g) r := by
  obtain ⟨x, a, s, e, hx0, hx1, ha1, ha2⟩ := pick_ok hc (by omega) sd (3 : Int) h0 (by omega)
  have hx3 := hx1 (by omega)
  obtain ⟨m, rfl⟩ : ∃ m : Nat, x = (m : Int) := ⟨x.toNat, by omega⟩
  have hw : wrap64 ((i : Int) + 1) = ((i + 1 : Nat) : Int) := w64 (by omega) (by omega)
  obtain ⟨r, hr1, hr2⟩ := graph_l1 hc hl (n := n) (K := B + 2) (i : Int) g (by omega) (fun row at_ sd h1 h2 h3 => by
    rw [hw]
    exact cont row at_ sd h1 h2 (by omega)) (by omega) m row a s (by omega) (by omega) (by omega) (by omega)
  refine ⟨r, hr1, Ev.step (fun k => ?_) hr2⟩
  simp only [spec_l1Cur_graph.j3]
  rw [e, Option.bind_some]
theorem graph_l0 (hn1 : 1 ≤ n) (hn2 : n ≤ 13) : ∀ (d i : Nat) (g : List (List Int)) (at_ sd : Int), (i : Int) + d = n → g.length = i → Fair 13 4 g → 0 ≤ at_ → at_ ≤ 10 + 10 * i → ∃ r, Drw r ∧ Ev (fun k => spec_l1Cur_graph.l0 k n (i : Int) code at_ sd g) r := by
  intro d
  induction d with
  | zero =>
    intro i g at_ sd hi hg hf h0 h1
    obtain ⟨b, a, s, e, ha1, ha2⟩ := one_ok hc (by omega) sd 30 h0 (by omega)
    cases b with
    | false =>
      refine ⟨(g, a, s), ⟨⟨hf.len, fun r hr => Nat.le_trans (hf.row r hr) (by decide)⟩, by show 1 ≤ g.length; omega, by show 0 ≤ a; omega, by show a ≤ 200; omega⟩, Ev.step (f := fun _ => some (g, a, s)) (fun k => ?_) (Ev.now _)⟩
      simp only [spec_l1Cur_graph.l0]
      rw [if_neg (by omega), e, Option.bind_some, if_neg (by simp)]
    | true =>
      obtain ⟨x, a2, s2, e2, hx0, hx1, hb1, hb2⟩ := pick_ok hc (by omega) s (3 : Int) (at_ := a) (by omega) (by omega)
      have hx3 := hx1 (by omega)
      have hrow : rd_L1 g 0 = g.getD 0 [] := rfl
      have hmem : g.getD 0 [] ∈ g := by rw [List.getD_eq_getElem?_getD, List.getElem?_eq_getElem (by omega)]; exact List.getElem_mem _
      have hr4 := hf.row _ hmem
      have hal : spec_l1Cur_among.f code a s [-1, 0, n] = some (rd [-1, 0, n] x, a2, s2) := by
        unfold spec_l1Cur_among.f
        show (spec_l1Cur_pick.f code a s 3).bind _ = _
        rw [e2, Option.bind_some]
        simp only []
        rw [if_pos hx0]
        exact if_pos hx3
      refine ⟨(g.set (0 : Int).toNat (g.getD 0 [] ++ [rd [-1, 0, n] x]), a2, s2), ⟨⟨by rw [List.length_set]; exact hf.len, fun r hr => ?_⟩, by rw [List.length_set]; omega, by show 0 ≤ a2; omega, by show a2 ≤ 200; omega⟩, Ev.step (f := fun _ => some (g.set (0 : Int).toNat (g.getD 0 [] ++ [rd [-1, 0, n] x]), a2, s2)) (fun k => ?_) (Ev.now _)⟩
      · rcases List.mem_or_eq_of_mem_set hr with hr | rfl
        · exact Nat.le_trans (hf.row r hr) (by decide)
        · rw [List.length_append, List.length_singleton]; omega
      · simp only [spec_l1Cur_graph.l0]
        rw [if_neg (by omega), e, Option.bind_some, if_pos rfl, if_pos (by omega), hal, Option.bind_some, hrow, if_pos (by omega)]
  | succ d ih =>
    intro i g at_ sd hi hg hf h0 h1
    have hw : wrap64 ((i : Int) + 1) = ((i + 1 : Nat) : Int) := w64 (by omega) (by omega)
    have hcont : ∀ (row : List Int) (at_ sd : Int), row.length ≤ 4 → 0 ≤ at_ → at_ ≤ 14 + 10 * (i : Int) + 6 → ∃ r, Drw r ∧ Ev (fun k => spec_l1Cur_graph.l0 k n ((i + 1 : Nat) : Int) code at_ sd (g ++ [row])) r := by
      intro row at_ sd hr h0 h1
      refine ih (i + 1) (g ++ [row]) at_ sd (by omega) (by rw [List.length_append, List.length_singleton]; omega) ⟨by rw [List.length_append, List.length_singleton]; omega, fun r hr' => ?_⟩ h0 (by omega)
      rcases List.mem_append.1 hr' with h | h
      · exact hf.row r h
      · rw [List.mem_singleton.1 h]; exact hr
    have hj3 := fun row hr at_ sd h0 h1 => graph_j3 hc hl (n := n) (i := i) (by omega) hn2 g hg hf (B := 14 + 10 * (i : Int)) (by omega) hcont row hr at_ sd h0 h1
    have hj2 : ∀ (b : Bool) (at_ sd : Int), 0 ≤ at_ → at_ ≤ 14 + 10 * (i : Int) → ∃ r, Drw r ∧ Ev (fun k => spec_l1Cur_graph.j2 k n (i : Int) [] b code at_ sd g) r := by
      intro b at_ sd h0 h1
      cases b with
      | false =>
        obtain ⟨r, hr1, hr2⟩ := hj3 [] (by simp) at_ sd h0 h1
        exact ⟨r, hr1, Ev.step (fun k => by simp only [spec_l1Cur_graph.j2]; rw [if_neg (by simp)]) hr2⟩
      | true =>
        have hp := putL_len ((i + 1 : Nat) : Int) []
        obtain ⟨r, hr1, hr2⟩ := hj3 (putL [] ((i + 1 : Nat) : Int)) (by simpa using hp) at_ sd h0 h1
        refine ⟨r, hr1, Ev.step (fun k => ?_) ((put_ev [] ((i + 1 : Nat) : Int) (by simp)).bind (f := fun k t => spec_l1Cur_graph.j3 k n (i : Int) t code at_ sd g) hr2)⟩
        simp only [spec_l1Cur_graph.j2]
        rw [if_pos trivial, hw]
    by_cases c : ((i + 1 : Nat) : Int) < n
    · obtain ⟨b, a, s, e, ha1, ha2⟩ := one_ok hc (by omega) sd 4 h0 (by omega)
      obtain ⟨r, hr1, hr2⟩ := hj2 (!b) a s (by omega) (by omega)
      refine ⟨r, hr1, Ev.step (fun k => ?_) hr2⟩
      simp only [spec_l1Cur_graph.l0]
      rw [if_pos (by omega), hw, if_pos c, e, Option.bind_some]
    · obtain ⟨r, hr1, hr2⟩ := hj2 false at_ sd h0 (by omega)
      refine ⟨r, hr1, Ev.step (fun k => ?_) hr2⟩
      simp only [spec_l1Cur_graph.l0]
      rw [if_pos (by omega), hw, if_neg c]
theorem graph_ev : ∃ r, Drw r ∧ Ev (fun k => spec_l1Cur_graph.f k code 0 0) r := by
  unfold spec_l1Cur_graph.f
  obtain ⟨x, a, s, e, hx0, hx1, ha1, ha2⟩ := pick_ok hc (by omega) 0 (7 : Int) (at_ := 0) (by omega) (by omega)
  have hx7 := hx1 (by omega)
  obtain ⟨b, a2, s2, e2, hb1, hb2⟩ := one_ok hc (by omega) s 20 (at_ := a) (by omega) (by omega)
  have hj : ∀ (n : Int), 1 ≤ n → n ≤ 13 → ∀ at_ sd, 0 ≤ at_ → at_ ≤ 10 → ∃ r, Drw r ∧ Ev (fun k => spec_l1Cur_graph.j0 k n code at_ sd) r := by
    intro n hn1 hn2 at_ sd h0 h1
    obtain ⟨r, hr1, hr2⟩ := graph_l0 hc hl hn1 hn2 n.toNat 0 [] at_ sd (by omega) rfl ⟨by simp, fun r hr => by simp at hr⟩ h0 (by omega)
    exact ⟨r, hr1, Ev.step (fun k => by simp only [spec_l1Cur_graph.j0]; rfl) hr2⟩
  cases b with
  | true =>
    obtain ⟨y, a3, s3, e3, hy0, hy1, hc1, hc2⟩ := pick_ok hc (by omega) s2 (2 : Int) (at_ := a2) (by omega) (by omega)
    have hy2 := hy1 (by omega)
    obtain ⟨r, hr1, hr2⟩ := hj (12 + y) (by omega) (by omega) a3 s3 (by omega) (by omega)
    refine ⟨r, hr1, Ev.congr (fun k => ?_) hr2⟩
    rw [e, Option.bind_some]
    simp only []
    rw [e2, Option.bind_some, if_pos rfl]
    simp only []
    rw [e3, Option.bind_some, w64 (by omega) (by omega)]
  | false =>
    obtain ⟨r, hr1, hr2⟩ := hj (1 + x) (by omega) (by omega) a2 s2 (by omega) (by omega)
    refine ⟨r, hr1, Ev.congr (fun k => ?_) hr2⟩
    rw [e, Option.bind_some]
    simp only []
    rw [e2, Option.bind_some, if_neg (by simp), w64 (by omega) (by omega)]
end
end Go.Proofs.Ytplcipjlkogadaa.Q

namespace Go.Proofs.Ytplcipjlkogadaa.Q
open Go.RowKit Go.Proofs.Ytplcipjlkogadaa.P Go.Proofs.Ytplcipjlkogadaa.H Go.Proofs.YtplcipjlkogadaaW.PrintWords
theorem drawWithout_ev {code : List Int} (hc : Byt code) (hl : code.length ≤ 1048576) : ∃ (g : List (List Int)) (a : Int), Ev (fun k => spec_DrawWithout.f k code) (g, a) ∧ Small g := by
  obtain ⟨⟨g, a, s⟩, ⟨h1, h2, h3, h4⟩, h5⟩ := graph_ev hc hl
  simp only at h1 h2 h3 h4
  obtain ⟨x, a2, s2, e, _, _, ha1, ha2⟩ := pick_ok hc (by omega) s (wrap64 ((g.length : Int) + 2)) h3 (by omega)
  have hs := h1.small (by decide) (by decide)
  refine ⟨g, wrap64 (x - 1), ?_, hs⟩
  unfold spec_DrawWithout.f
  refine h5.bind (f := fun k g => (spec_l1Cur_pick.f code g.2.1 g.2.2 (wrap64 ((g.1.length : Int) + 2))).map fun b => (g.1, wrap64 (b.1 - 1))) ?_
  refine ev_is fun k => ?_
  simp only []
  rw [e]
  rfl
end Go.Proofs.Ytplcipjlkogadaa.Q

namespace Go.Proofs.Ytplcipjlkogadaa.Q
open Go.RowKit Go.Proofs.Ytplcipjlkogadaa.P Go.Proofs.Ytplcipjlkogadaa.H Go.Proofs.YtplcipjlkogadaaW.PrintWords
theorem sameInts_ev (l : List Int) (hl : l.length ≤ 1048576) : Ev (fun k => laws_sameInts.f k l l) true := by
  unfold laws_sameInts.f
  refine Ev.congr (fun k => by rw [if_pos rfl]) ?_
  refine down0 (n := l.length) (p := fun i => Ev (fun k => laws_sameInts.l0 k l l (l.length : Int) (i : Int)) true) ?h0 ?hs
  case h0 => exact Ev.step (f := fun _ => some true) (fun k => by simp only [laws_sameInts.l0]; rw [if_neg (by omega)]) (Ev.now _)
  case hs =>
    intro i hi ih
    refine Ev.step (fun k => ?_) ih
    simp only [laws_sameInts.l0]
    rw [if_pos (by omega), if_pos (by omega), if_pos (by omega), if_pos (by omega), if_pos trivial, w64 (by omega) (by omega)]
    rfl
theorem sameLists_ev (l : List (List Int)) (hl : Small l) : Ev (fun k => laws_sameLists.f k l l) true := by
  have hlen := hl.1
  unfold laws_sameLists.f
  refine Ev.congr (fun k => by rw [if_pos rfl]) ?_
  refine down0 (n := l.length) (p := fun i => Ev (fun k => laws_sameLists.l0 k l l (l.length : Int) (i : Int)) true) ?h0 ?hs
  case h0 => exact Ev.step (f := fun _ => some true) (fun k => by simp only [laws_sameLists.l0]; rw [if_neg (by omega)]) (Ev.now _)
  case hs =>
    intro i hi ih
    have hr : rd_L1 l (i : Int) = l.getD i [] := rfl
    refine Ev.step (fun k => ?_) ((sameInts_ev (l.getD i []) (hl.at hi)).bind (f := fun k t => if t = true then laws_sameLists.l0 k l l (l.length : Int) ((i + 1 : Nat) : Int) else some false) (Ev.congr (fun k => by rw [if_pos rfl]) ih))
    simp only [laws_sameLists.l0]
    rw [if_pos (by omega), if_pos (by omega), if_pos (by omega), if_pos (by omega), hr, w64 (by omega) (by omega)]
    rfl
theorem lhas_ev (l : List Int) (x : Int) (hl : l.length ≤ 1048576) : Ev (fun k => laws_has.f k l x) (decide (x ∈ l)) := by
  unfold laws_has.f
  have key := down0 (n := l.length) (p := fun i => Ev (fun k => laws_has.l0 k x l (l.length : Int) (i : Int)) (decide (x ∈ l.drop i))) ?h0 ?hs
  · exact key
  case h0 =>
    rw [List.drop_length]
    exact Ev.step (f := fun _ => some false) (fun k => by simp only [laws_has.l0]; rw [if_neg (by omega)]) (Ev.now _)
  case hs =>
    intro i hi ih
    have hd : l.drop i = l.getD i 0 :: l.drop (i + 1) := by
      rw [List.drop_eq_getElem_cons hi, List.getD_eq_getElem?_getD, List.getElem?_eq_getElem hi]
      rfl
    have hr : rd l (i : Int) = l.getD i 0 := rfl
    by_cases c : l.getD i 0 = x
    · have e : decide (x ∈ l.drop i) = true := by rw [hd, c]; simp
      rw [e]
      refine Ev.step (f := fun _ => some true) (fun k => ?_) (Ev.now _)
      simp only [laws_has.l0]
      rw [if_pos (by omega), if_pos (by omega), if_pos (by omega), hr, if_pos c]
    · have e : decide (x ∈ l.drop i) = decide (x ∈ l.drop (i + 1)) := by
        rw [hd]
        refine decide_eq_decide.2 ?_
        rw [List.mem_cons]
        exact ⟨fun h => h.elim (fun h => absurd h.symm c) id, .inr⟩
      rw [e]
      refine Ev.step (fun k => ?_) ih
      simp only [laws_has.l0]
      rw [if_pos (by omega), if_pos (by omega), if_pos (by omega), hr, if_neg c, w64 (by omega) (by omega)]
      rfl
end Go.Proofs.Ytplcipjlkogadaa.Q

namespace Go.Proofs.Ytplcipjlkogadaa.Q
open Go.RowKit Go.Proofs.Ytplcipjlkogadaa.P Go.Proofs.Ytplcipjlkogadaa.H Go.Proofs.YtplcipjlkogadaaW.PrintWords
theorem byt_of_wf {l : List Int} (h : ∀ x ∈ l, (Lit.int .u8 x).wf = true) : Byt l := fun x hx => by
  have h1 := h x hx
  simp [Lit.wf, IntKind.min, IntKind.max, IntKind.signed, IntKind.bits] at h1
  omega
def dEnd (more : List Int) (k : Nat) : Option Bool := (spec_DrawWithout.f k more).bind fun bt310 => ((impl_Without.f bt310.1 bt310.2).bind fun bt315 => ((spec_Without.f k bt310.1 bt310.2).bind fun bt319 => (if (bt315.2 == bt319.2) = true then ((laws_sameInts.f k bt315.1 bt319.1).bind fun t323 => (some t323)) else (some false))))
theorem dEnd_ev {more : List Int} (hc : Byt more) (hl : more.length ≤ 1048576) : Ev (dEnd more) true := by
  obtain ⟨h, a, hd, hs⟩ := drawWithout_ev hc hl
  obtain ⟨s1, s2, e1, e2, e3⟩ := C.without_core h a hs
  unfold dEnd
  refine hd.bind ((ev_some (x := impl_Without.f h a) e2).bind (e1.bind ?_))
  refine Ev.congr (fun k => by rw [if_pos (by simp)]) ((sameInts_ev s1 e3).bind ?_)
  exact Ev.now _
section
variable (g D : List (List Int)) (more N R row : List Int) (b : Int)
def dL0 (k : Nat) : Option Bool := laws_FnDominators.l0 k more D N R D (D.length : Int) b g
def dJ2 (t : Bool) (k : Nat) : Option Bool := laws_FnDominators.j2 k more D N R b D (D.length : Int) b t g
def d0d (t : Bool) (k : Nat) (t2 : Bool) : Option Bool := dJ2 g D more N R b (t != t2) k
def d0c (k : Nat) (t : Bool) : Option Bool := (laws_has.f k row 0).bind (d0d g D more N R b t k)
def d0b (t : Bool) (k : Nat) (t2 : Bool) : Option Bool := if (t != t2) = true then dJ2 g D more N R b true k else (laws_has.f k R b).bind (d0c g D more N R row b k)
def d0a (k : Nat) (t : Bool) : Option Bool := (laws_has.f k row b).bind (d0b g D more N R row b t k)
theorem dL0_succ (h0 : 0 ≤ b) (h1 : b < (D.length : Int)) (hr : rd_L1 D b = row) (k : Nat) : dL0 g D more N R b (k + 1) = (laws_has.f k R b).bind (d0a g D more N R row b k) := by
  unfold dL0
  simp only [laws_FnDominators.l0]
  rw [if_pos h1, if_pos h0, if_pos h1, hr]
  rfl
def dL1 (i : Int) (k : Nat) : Option Bool := laws_FnDominators.l1 k more D N R b row D (D.length : Int) b R (R.length : Int) i g
theorem dJ2_succ (hr : rd_L1 D b = row) (k : Nat) : dJ2 g D more N R b false (k + 1) = dL1 g D more N R row b 0 k := by
  unfold dJ2
  simp only [laws_FnDominators.j2]
  rw [if_neg (by simp), hr]
  rfl
def d1c (i : Int) (t : Bool) (k : Nat) (t2 : Bool) : Option Bool := if (t == t2) = true then some false else dL1 g D more N R row b i k
def d1b (i : Int) (W : List Int) (k : Nat) (t : Bool) : Option Bool := (laws_has.f k W b).bind (d1c g D more N R row b i t k)
def d1a (i x : Int) (W : List Int) (k : Nat) (t : Bool) : Option Bool := if t = true then (laws_has.f k row x).bind (d1b g D more N R row b i W k) else dL1 g D more N R row b i k
theorem dL1_succ {i : Nat} {x : Int} {W : List Int} (hi : i < R.length) (hx : rd R (i : Int) = x) (hW : impl_Without.f g x = some (W, true)) (hw : wrap64 ((i : Int) + 1) = ((i + 1 : Nat) : Int)) (k : Nat) : dL1 g D more N R row b (i : Int) (k + 1) = (laws_has.f k R b).bind (d1a g D more N R row b ((i + 1 : Nat) : Int) x W k) := by
  unfold dL1
  simp only [laws_FnDominators.l1]
  rw [if_pos (by omega), if_pos (by omega), if_pos (by omega), hx, hW, Option.bind_some, if_pos rfl, hw]
  rfl
def dL2 (i : Int) (k : Nat) : Option Bool := laws_FnDominators.l2 k more D N R b row D (D.length : Int) b row (row.length : Int) i g
theorem dL1_end (k : Nat) : dL1 g D more N R row b (R.length : Int) (k + 1) = dL2 g D more N R row b 0 k := by
  unfold dL1
  simp only [laws_FnDominators.l1]
  rw [if_neg (by omega)]
  rfl
def dL3 (x i m : Int) (k : Nat) : Option Bool := laws_FnDominators.l3 k more D N R b row x D (D.length : Int) b row (row.length : Int) i row (row.length : Int) m g
def d3b (x i m : Int) (k : Nat) (t : Bool) : Option Bool := if t = true then dL3 g D more N R row b x i m k else some false
def d3a (x i m : Int) (Dy : List Int) (k : Nat) (t : Bool) : Option Bool := if t = true then dL3 g D more N R row b x i m k else (laws_has.f k Dy x).bind (d3b g D more N R row b x i m k)
theorem dL3_succ {x y i : Int} {m : Nat} {Dx Dy : List Int} (hm : m < row.length) (hy : rd row (m : Int) = y) (hx0 : 0 ≤ x) (hx1 : x < (D.length : Int)) (hy0 : 0 ≤ y) (hy1 : y < (D.length : Int)) (hDx : rd_L1 D x = Dx) (hDy : rd_L1 D y = Dy) (hw : wrap64 ((m : Int) + 1) = ((m + 1 : Nat) : Int)) (k : Nat) : dL3 g D more N R row b x i (m : Int) (k + 1) = (laws_has.f k Dx y).bind (d3a g D more N R row b x i ((m + 1 : Nat) : Int) Dy k) := by
  unfold dL3
  simp only [laws_FnDominators.l3]
  rw [if_pos (by omega), if_pos (by omega), if_pos (by omega), if_pos hx0, if_pos hx1, hy, if_pos hy0, if_pos hy1, hDx, hDy, hw]
  rfl
theorem dL3_end {x : Int} {i : Nat} (hw : wrap64 ((i : Int) + 1) = ((i + 1 : Nat) : Int)) (k : Nat) : dL3 g D more N R row b x (i : Int) (row.length : Int) (k + 1) = dL2 g D more N R row b ((i + 1 : Nat) : Int) k := by
  unfold dL3
  simp only [laws_FnDominators.l3]
  rw [if_neg (by omega), hw]
  rfl
theorem dL2_succ {i : Nat} {x : Int} (hi : i < row.length) (hx : rd row (i : Int) = x) (k : Nat) : dL2 g D more N R row b (i : Int) (k + 1) = dL3 g D more N R row b x (i : Int) 0 k := by
  unfold dL2
  simp only [laws_FnDominators.l2]
  rw [if_pos (by omega), if_pos (by omega), if_pos (by omega), hx]
  rfl
def dL4 (m i : Int) (k : Nat) : Option Bool := laws_FnDominators.l4 k more D N R b m D (D.length : Int) b row (row.length : Int) i g
def d2a (k : Nat) (t : Bool) : Option Bool := if t = true then (if b > 0 then some false else laws_FnDominators.l0 k more D N R D (D.length : Int) (wrap64 (b + 1)) g) else laws_FnDominators.l0 k more D N R D (D.length : Int) (wrap64 (b + 1)) g
theorem dL2_near {m : Int} (h0 : 0 ≤ b) (h1 : b < (N.length : Int)) (hm : rd N b = m) (hm0 : 0 ≤ m) (k : Nat) : dL2 g D more N R row b (row.length : Int) (k + 1) = dL4 g D more N R row b m 0 k := by
  unfold dL2
  simp only [laws_FnDominators.l2]
  rw [if_neg (by omega), if_pos h0, if_pos h1, hm, if_pos hm0]
  rfl
theorem dL2_none {m : Int} (h0 : 0 ≤ b) (h1 : b < (N.length : Int)) (hm : rd N b = m) (hm0 : m < 0) (k : Nat) : dL2 g D more N R row b (row.length : Int) (k + 1) = (laws_has.f k R b).bind (d2a g D more N R b k) := by
  unfold dL2
  simp only [laws_FnDominators.l2]
  rw [if_neg (by omega), if_pos h0, if_pos h1, hm, if_neg (by omega)]
  rfl
def d4a (m i : Int) (k : Nat) (t : Bool) : Option Bool := if t = true then dL4 g D more N R row b m i k else some false
theorem dL4_same {m : Int} {i : Nat} (hi : i < row.length) (hx : rd row (i : Int) = b) (hw : wrap64 ((i : Int) + 1) = ((i + 1 : Nat) : Int)) (k : Nat) : dL4 g D more N R row b m (i : Int) (k + 1) = dL4 g D more N R row b m ((i + 1 : Nat) : Int) k := by
  unfold dL4
  simp only [laws_FnDominators.l4]
  rw [if_pos (by omega), if_pos (by omega), if_pos (by omega), if_pos hx, hw]
theorem dL4_other {m x : Int} {i : Nat} {Dm : List Int} (hi : i < row.length) (hx : rd row (i : Int) = x) (hne : ¬ x = b) (hm0 : 0 ≤ m) (hm1 : m < (D.length : Int)) (hD : rd_L1 D m = Dm) (hw : wrap64 ((i : Int) + 1) = ((i + 1 : Nat) : Int)) (k : Nat) : dL4 g D more N R row b m (i : Int) (k + 1) = (laws_has.f k Dm x).bind (d4a g D more N R row b m ((i + 1 : Nat) : Int) k) := by
  unfold dL4
  simp only [laws_FnDominators.l4]
  rw [if_pos (by omega), if_pos (by omega), if_pos (by omega), hx, if_neg hne, if_pos hm0, if_pos hm1, hD, hw]
  rfl
theorem dL4_end {m : Int} (k : Nat) : dL4 g D more N R row b m (row.length : Int) (k + 1) = laws_FnDominators.l0 k more D N R D (D.length : Int) (wrap64 (b + 1)) g := by
  unfold dL4
  simp only [laws_FnDominators.l4]
  rw [if_neg (by omega)]
end
theorem getD_memX {l : List Int} {m : Nat} (h : m < l.length) : l.getD m 0 ∈ l := by
  rw [List.getD_eq_getElem?_getD, List.getElem?_eq_getElem h]
  exact List.getElem_mem h
theorem domL_l (g : List (List Int)) : (domL g).length = g.length := by unfold domL domF; rw [List.length_map, matF_len]
theorem domL_r {g : List (List Int)} {b : Nat} (hb : b < g.length) : ((domL g).getD b []).length ≤ 12 := by rw [domL_at hb]; exact listTo_len _ 12
section
variable {g : List (List Int)} (hG : goodG g = true) {more N R : List Int} {b : Nat} (hb : b < g.length)
include hG hb
theorem dom_l4 {m : Nat} (hm : m < g.length) (hall : ∀ x, DM g (b : Int) x → x ≠ (b : Int) → DM g (m : Int) x) (hnext : Ev (fun k => laws_FnDominators.l0 k more (domL g) N R (domL g) ((domL g).length : Int) (wrap64 ((b : Int) + 1)) g) true) :
    Ev (dL4 g (domL g) more N R ((domL g).getD b []) (b : Int) (m : Int) 0) true := by
  have hdl := domL_l g
  have hrl := domL_r (g := g) hb
  have hml := domL_r (g := g) hm
  have hin : ∀ y ∈ (domL g).getD b [], DM g (b : Int) y := fun y hy => (dm_iff hG hb y).1 hy
  have hDm : ∀ y, y ∈ (domL g).getD m [] ↔ DM g (m : Int) y := fun y => dm_iff hG hm y
  have hrm : rd_L1 (domL g) (m : Int) = (domL g).getD m [] := rfl
  generalize (domL g).getD m [] = Dm at hml hDm hrm
  generalize (domL g).getD b [] = row at hrl hin ⊢
  refine down0 (n := row.length) (p := fun i => Ev (dL4 g (domL g) more N R row (b : Int) (m : Int) (i : Int)) true) ?h0 ?hs
  case h0 => exact Ev.step (fun k => dL4_end g (domL g) more N R row (b : Int) k) hnext
  case hs =>
    intro i hi ih
    have hd := hin _ (getD_memX hi)
    have hw : wrap64 ((i : Int) + 1) = ((i + 1 : Nat) : Int) := w64 (by omega) (by omega)
    by_cases c : row.getD i 0 = (b : Int)
    · exact Ev.step (fun k => dL4_same g (domL g) more N R row (b : Int) hi c hw k) ih
    · have h1 := lhas_ev Dm (row.getD i 0) (by omega)
      rw [decide_eq_true ((hDm _).2 (hall _ hd c))] at h1
      refine Ev.step (fun k => dL4_other g (domL g) more N R row (b : Int) hi rfl c (by omega) (by omega) hrm hw k) (h1.bind (Ev.congr (fun k => ?_) ih))
      unfold d4a
      rw [if_pos rfl]
theorem dom_l3 {x i : Nat} (hx : x < g.length) (hi : i < 1000) (hxd : DM g (b : Int) (x : Int)) (hnext : Ev (dL2 g (domL g) more N R ((domL g).getD b []) (b : Int) ((i + 1 : Nat) : Int)) true) :
    Ev (dL3 g (domL g) more N R ((domL g).getD b []) (b : Int) (x : Int) (i : Int) 0) true := by
  have hdl := domL_l g
  have hrl := domL_r (g := g) hb
  have hxl := domL_r (g := g) hx
  have hin : ∀ y ∈ (domL g).getD b [], DM g (b : Int) y := fun y hy => (dm_iff hG hb y).1 hy
  generalize (domL g).getD b [] = row at hrl hin hnext ⊢
  refine down0 (n := row.length) (p := fun m => Ev (dL3 g (domL g) more N R row (b : Int) (x : Int) (i : Int) (m : Int)) true) ?h0 ?hs
  case h0 => exact Ev.step (fun k => dL3_end g (domL g) more N R row (b : Int) (w64 (by omega) (by omega)) k) hnext
  case hs =>
    intro m hm ih
    have hd := hin _ (getD_memX hm)
    have hyr := dm_rng hG hd
    obtain ⟨y, hy⟩ : ∃ y : Nat, row.getD m 0 = (y : Int) := ⟨(row.getD m 0).toNat, by omega⟩
    rw [hy] at hd hyr
    have hw : wrap64 ((m : Int) + 1) = ((m + 1 : Nat) : Int) := w64 (by omega) (by omega)
    have hyl := domL_r (g := g) (b := y) (by omega)
    have h1 := lhas_ev ((domL g).getD x []) (y : Int) (by omega)
    have h2 := lhas_ev ((domL g).getD y []) (x : Int) (by omega)
    have e1 := dm_iff hG hx (y : Int)
    have e2 := dm_iff hG (show y < g.length by omega) (x : Int)
    refine Ev.step (fun k => dL3_succ g (domL g) more N R row (b : Int) (Dx := (domL g).getD x []) (Dy := (domL g).getD y []) hm hy (by omega) (by omega) (by omega) (by omega) rfl rfl hw k) (h1.bind ?_)
    by_cases c : (y : Int) ∈ (domL g).getD x []
    · rw [decide_eq_true c]
      refine Ev.congr (fun k => ?_) ih
      unfold d3a
      rw [if_pos rfl]
    · rw [decide_eq_false c]
      have h3 : (x : Int) ∈ (domL g).getD y [] := e2.2 ((DM.chain hxd hd).elim (fun h => absurd (e1.2 h) c) id)
      rw [decide_eq_true h3] at h2
      refine Ev.congr (fun k => ?_) (h2.bind (f := fun k t => d3b g (domL g) more N R row (b : Int) (x : Int) (i : Int) ((m + 1 : Nat) : Int) k t) (Ev.congr (fun k => ?_) ih))
      · unfold d3a
        rw [if_neg (by simp)]
      · unfold d3b
        rw [if_pos rfl]
theorem dom_l2 (hend : Ev (dL2 g (domL g) more N R ((domL g).getD b []) (b : Int) (((domL g).getD b []).length : Int)) true) : Ev (dL2 g (domL g) more N R ((domL g).getD b []) (b : Int) 0) true := by
  have hrl := domL_r (g := g) hb
  refine down0 (n := ((domL g).getD b []).length) (p := fun i => Ev (dL2 g (domL g) more N R ((domL g).getD b []) (b : Int) (i : Int)) true) hend ?hs
  case hs =>
    intro i hi ih
    have hd := (dm_iff hG hb _).1 (getD_memX hi)
    have hxr := dm_rng hG hd
    obtain ⟨x, hx⟩ : ∃ x : Nat, ((domL g).getD b []).getD i 0 = (x : Int) := ⟨(((domL g).getD b []).getD i 0).toNat, by omega⟩
    rw [hx] at hd hxr
    exact Ev.step (fun k => dL2_succ g (domL g) more N R ((domL g).getD b []) (b : Int) hi hx k) (dom_l3 hG hb (by omega) (by omega) hd ih)
theorem dom_l1 (hR : ∀ y, y ∈ R ↔ Rch g (-1) 0 y) (hRl : R.length ≤ 12) (hend : Ev (dL2 g (domL g) more N R ((domL g).getD b []) (b : Int) 0) true) : Ev (dL1 g (domL g) more N R ((domL g).getD b []) (b : Int) 0) true := by
  have hn := goodG_rows hG
  have hrl := domL_r (g := g) hb
  refine down0 (n := R.length) (p := fun i => Ev (dL1 g (domL g) more N R ((domL g).getD b []) (b : Int) (i : Int)) true) ?h0 ?hs
  case h0 => exact Ev.step (fun k => dL1_end g (domL g) more N R ((domL g).getD b []) (b : Int) k) hend
  case hs =>
    intro i hi ih
    have hx := (hR _).1 (getD_memX hi)
    have hxr := hx.rng hG (by decide) (by omega)
    have hw : wrap64 ((i : Int) + 1) = ((i + 1 : Nat) : Int) := w64 (by omega) (by omega)
    have hW : impl_Without.f g (R.getD i 0) = some (listTo (reachF g 0 (R.getD i 0)) 12, true) := by
      unfold impl_Without.f inB
      rw [hG, decide_eq_true (show (0 : Int) ≤ R.getD i 0 by omega), decide_eq_true (show R.getD i 0 ≤ (g.length : Int) - 1 by omega)]
      rfl
    have hwl := listTo_len (reachF g 0 (R.getD i 0)) 12
    have hwm := listTo_reach hG (wo := R.getD i 0) (b : Int)
    have h1 := lhas_ev R (b : Int) (by omega)
    have h2 := lhas_ev ((domL g).getD b []) (R.getD i 0) (by omega)
    have h3 := lhas_ev (listTo (reachF g 0 (R.getD i 0)) 12) (b : Int) (by omega)
    have e2 := dm_iff hG hb (R.getD i 0)
    refine Ev.step (fun k => dL1_succ g (domL g) more N R ((domL g).getD b []) (b : Int) hi rfl hW hw k) (h1.bind ?_)
    by_cases c : (b : Int) ∈ R
    · rw [decide_eq_true c]
      have hkey : (decide (R.getD i 0 ∈ (domL g).getD b []) == decide ((b : Int) ∈ listTo (reachF g 0 (R.getD i 0)) 12)) = false := by
        by_cases c2 : (b : Int) ∈ listTo (reachF g 0 (R.getD i 0)) 12
        · rw [decide_eq_true c2, decide_eq_false (fun h => (e2.1 h).no (hwm.1 c2))]
          rfl
        · rw [decide_eq_false c2, decide_eq_true (e2.2 ⟨hx, (hR _).1 c, fun h => c2 (hwm.2 h)⟩)]
          rfl
      refine Ev.congr (fun k => ?_) (h2.bind (f := fun k t => d1b g (domL g) more N R ((domL g).getD b []) (b : Int) ((i + 1 : Nat) : Int) (listTo (reachF g 0 (R.getD i 0)) 12) k t) (h3.bind (f := fun k t2 => d1c g (domL g) more N R ((domL g).getD b []) (b : Int) ((i + 1 : Nat) : Int) (decide (R.getD i 0 ∈ (domL g).getD b [])) k t2) (Ev.congr (fun k => ?_) ih)))
      · unfold d1a
        rw [if_pos rfl]
        rfl
      · unfold d1c
        rw [hkey, if_neg (by simp)]
    · rw [decide_eq_false c]
      refine Ev.congr (fun k => ?_) ih
      unfold d1a
      rw [if_neg (by simp)]
end
theorem dom_l0 {g : List (List Int)} (hG : goodG g = true) {more R : List Int} (hR : ∀ y, y ∈ R ↔ Rch g (-1) 0 y) (hRl : R.length ≤ 12) (hend : Ev (dEnd more) true) : Ev (fun k => laws_FnDominators.l0 k more (domL g) (nfTo (domF g) g.length g.length) R (domL g) ((domL g).length : Int) 0 g) true := by
  have hn := goodG_rows hG
  have hdl := domL_l g
  have hnl := nfTo_len (domF g) g.length g.length
  have hat : ∀ t : Nat, t < g.length → rd (nfTo (domF g) g.length g.length) (t : Int) = nfB (domF g) t := by
    intro t ht
    show (nfTo (domF g) g.length g.length).getD t 0 = _
    unfold nfTo
    rw [List.getD_eq_getElem?_getD, List.getElem?_map, List.getElem?_range ht, Option.map_some, if_pos ht]
    rfl
  generalize nfTo (domF g) g.length g.length = N at hnl hat ⊢
  refine down0 (n := g.length) (p := fun b => Ev (dL0 g (domL g) more N R (b : Int)) true) ?h0 ?hs
  case h0 =>
    refine Ev.step (fun k => ?_) hend
    unfold dL0
    simp only [laws_FnDominators.l0]
    rw [if_neg (by omega)]
    rfl
  case hs =>
    intro b hb ih
    have hrl := domL_r (g := g) hb
    have hw : wrap64 ((b : Int) + 1) = ((b + 1 : Nat) : Int) := w64 (by omega) (by omega)
    have hnext : Ev (fun k => laws_FnDominators.l0 k more (domL g) N R (domL g) ((domL g).length : Int) (wrap64 ((b : Int) + 1)) g) true := by rw [hw]; exact ih
    obtain ⟨hf1, hf2⟩ := near_facts hG hb
    have h1 := lhas_ev R (b : Int) (by omega)
    have h2 := lhas_ev ((domL g).getD b []) (b : Int) (by omega)
    have h3 := lhas_ev ((domL g).getD b []) 0 (by omega)
    have hz : Rch g (-1) 0 0 := .here (by decide)
    have e2 : decide ((b : Int) ∈ (domL g).getD b []) = decide ((b : Int) ∈ R) := decide_eq_decide.2 ⟨fun h => (hR _).2 ((dm_iff hG hb _).1 h).rb, fun h => (dm_iff hG hb _).2 (.self ((hR _).1 h))⟩
    have e3 : decide ((0 : Int) ∈ (domL g).getD b []) = decide ((b : Int) ∈ R) := decide_eq_decide.2 ⟨fun h => (hR _).2 ((dm_iff hG hb _).1 h).rb, fun h => (dm_iff hG hb _).2 (.start ((hR _).1 h) hz)⟩
    rw [e2] at h2
    rw [e3] at h3
    have hl2end : Ev (dL2 g (domL g) more N R ((domL g).getD b []) (b : Int) (((domL g).getD b []).length : Int)) true := by
      have hrd := hat b hb
      by_cases c : 0 ≤ nfB (domF g) b
      · obtain ⟨hm1, hm2⟩ := hf1 c
        obtain ⟨m, hm⟩ : ∃ m : Nat, nfB (domF g) b = (m : Int) := ⟨(nfB (domF g) b).toNat, by omega⟩
        rw [hm] at hm1 hm2 hrd
        exact Ev.step (fun k => dL2_near g (domL g) more N R ((domL g).getD b []) (b : Int) (by omega) (by omega) hrd (by omega) k) (dom_l4 hG hb (by omega) hm2 hnext)
      · refine Ev.step (fun k => dL2_none g (domL g) more N R ((domL g).getD b []) (b : Int) (by omega) (by omega) hrd (by omega) k) (h1.bind ?_)
        by_cases c2 : (b : Int) ∈ R
        · rw [decide_eq_true c2]
          have hb0 := hf2 (by omega) ((hR _).1 c2)
          refine Ev.congr (fun k => ?_) hnext
          unfold d2a
          rw [if_pos rfl, if_neg (by omega)]
        · rw [decide_eq_false c2]
          refine Ev.congr (fun k => ?_) hnext
          unfold d2a
          rw [if_neg (by simp)]
    have hl1 := dom_l1 hG hb hR hRl (dom_l2 hG hb hl2end)
    have hj2 : Ev (dJ2 g (domL g) more N R (b : Int) false) true := Ev.step (fun k => dJ2_succ g (domL g) more N R ((domL g).getD b []) (b : Int) rfl k) hl1
    refine Ev.step (fun k => dL0_succ g (domL g) more N R ((domL g).getD b []) (b : Int) (by omega) (by omega) rfl k) (h1.bind (h2.bind (f := fun k t2 => d0b g (domL g) more N R ((domL g).getD b []) (b : Int) (decide ((b : Int) ∈ R)) k t2) ?_))
    refine Ev.congr (fun k => ?_) (h1.bind (f := fun k t => d0c g (domL g) more N R ((domL g).getD b []) (b : Int) k t) (h3.bind (f := fun k t2 => d0d g (domL g) more N R (b : Int) (decide ((b : Int) ∈ R)) k t2) (Ev.congr (fun k => ?_) hj2)))
    · unfold d0b
      rw [if_neg (by simp)]
    · unfold d0d
      rw [bne_self_eq_false]
theorem fnDominators_pure : laws_FnDominators.Pure := by
  intro code more hc1 _ hc2 hm1 _ hm2
  apply Ev.rounds
  unfold laws_FnDominators.f
  have hx1 : code.length ≤ 9223372036854775807 := by unfold maxLen at hc1; omega
  have hx2 : more.length ≤ 9223372036854775807 := by unfold maxLen at hm1; omega
  by_cases hw : wrap64 ((code.length : Int) + (more.length : Int)) > 1048576
  · exact Ev.congr (fun k => by rw [if_pos hw]) (Ev.now _)
  refine Ev.congr (fun k => by rw [if_neg hw]) ?_
  have hws : wrap64 ((code.length : Int) + (more.length : Int)) = (code.length : Int) + (more.length : Int) := w64 (by omega) (by omega)
  rw [hws] at hw
  have hb1 := byt_of_wf hc2
  have hb2 := byt_of_wf hm2
  obtain ⟨⟨g, a, s⟩, ⟨h1, h2, h3, h4⟩, h5⟩ := graph_ev hb1 (show code.length ≤ 1048576 by omega)
  simp only at h1 h2 h3 h4
  have hs := h1.small (by decide) (by decide)
  have hd : Ev (fun k => spec_DrawDominatorsOf.f k code) g := by
    unfold spec_DrawDominatorsOf.f spec_DrawGoodGraph.f
    refine (show Ev (fun k => (spec_l1Cur_graph.f k code 0 0).map (fun r => r.1)) g from ?_).bind (Ev.now _)
    refine Ev.congr (fun k => ?_) (h5.bind (f := fun _ r => some r.1) (Ev.now _))
    cases spec_l1Cur_graph.f k code 0 0 <;> rfl
  obtain ⟨d1, d2, e1, e2, e3⟩ := C.dominatorsOf_core g hs
  obtain ⟨n1, n2, e4, e5, e6⟩ := nearestOf_core g hs
  obtain ⟨r1, r2, e7, e8, e9⟩ := C.reachedOf_core g hs
  have hend := dEnd_ev hb2 (by omega)
  have hdo : d2 = goodG g := by
    unfold impl_DominatorsOf.f at e2
    cases hG : goodG g with
    | true => rw [hG, if_pos rfl] at e2; simp only [Option.some.injEq, Prod.mk.injEq] at e2; exact e2.2.symm
    | false => rw [hG, if_neg (by simp)] at e2; simp only [Option.some.injEq, Prod.mk.injEq] at e2; exact e2.2.symm
  have hj0 : Ev (fun k => laws_FnDominators.j0 k more d1 n1 r1 false g) true := by
    have hl0 : Ev (fun k => laws_FnDominators.l0 k more d1 n1 r1 d1 (d1.length : Int) 0 g) true := by
      unfold impl_DominatorsOf.f at e2
      unfold impl_NearestOf.f at e5
      unfold impl_ReachedOf.f at e8
      cases hG : goodG g with
      | true =>
        rw [hG, if_pos rfl] at e2 e5 e8
        simp only [Option.some.injEq, Prod.mk.injEq] at e2 e5 e8
        obtain ⟨rfl, _⟩ := e2
        obtain ⟨rfl, _⟩ := e5
        obtain ⟨rfl, _⟩ := e8
        exact dom_l0 hG (fun y => listTo_reach hG y) (listTo_len _ 12) hend
      | false =>
        rw [hG, if_neg (by simp)] at e2
        simp only [Option.some.injEq, Prod.mk.injEq] at e2
        obtain ⟨rfl, _⟩ := e2
        refine Ev.step (fun k => ?_) hend
        simp only [laws_FnDominators.l0]
        rw [if_neg (by simp)]
        rfl
    refine Ev.step (fun k => ?_) hl0
    simp only [laws_FnDominators.j0]
    rw [if_neg (by simp)]
  refine hd.bind ((ev_some (x := impl_DominatorsOf.f g) e2).bind (e1.bind ((ev_some (x := impl_NearestOf.f g) e5).bind (e4.bind ((ev_some (x := impl_ReachedOf.f g) e8).bind (e7.bind ?_))))))
  refine Ev.congr (fun k => by rw [if_neg (by simp)]) ((sameLists_ev d1 e3).bind ?_)
  refine Ev.congr (fun k => by rw [if_pos rfl, if_neg (by simp)]) ((sameInts_ev n1 e6).bind ?_)
  refine Ev.congr (fun k => by rw [if_pos rfl, if_neg (by simp)]) ((sameInts_ev r1 e9).bind ?_)
  refine Ev.congr (fun k => ?_) hj0
  rw [if_pos rfl]
  show laws_FnDominators.j0 k more d1 n1 r1 (goodG g != d2) g = _
  rw [hdo, bne_self_eq_false]
end Go.Proofs.Ytplcipjlkogadaa.Q

namespace Go.Proofs.Ytplcipjlkogadaa.Pure
theorem FnDominators : P.laws_FnDominators.Pure := Q.fnDominators_pure
end Go.Proofs.Ytplcipjlkogadaa.Pure

namespace Go.Proofs.YtplcipjlkogadaaW.PrintWords
open Go.ChangeShapes Go.WideShapes
theorem sized_ints {H : Type} {enc : TypeId × Value → H} {P : Program} {W : World} {base : Nat} {spare : Nat → Bool} {held : Bool} {t e : TypeId} {k : IntKind} {a : Option Addr} {len cap : Nat} {d : DataW H} {ps : List MemPlace} {ts : List TypeId} {ds : List (DataW H)} {j : Nat}
    (hsz : (DataW.weightsEach P ts ds).all (· ≤ reachBytes) = true) (ht : ts[j]? = some t) (hd : ds[j]? = some d) (hu : P.underlying t = some (.slice e)) (he : P.underlying e = some (.int k)) (hc : P.cellsOf e = 1) {B : Nat} (hB : P.bytesOf e = B)
    (h : DataW.Trod enc P W base spare held t (.slice a len cap) d ps) : len * B ≤ 140737488351232 := by
  obtain ⟨fuel, hf⟩ := h
  rcases open_ints hu he hc hf with ⟨hcs, _⟩ | ⟨x, l, c, zs, hcs, _, hl, _, hz, hx, _, _⟩
  · simp [Value.cells] at hcs
    obtain ⟨rfl, rfl, rfl⟩ := hcs
    simp
  · simp [Value.cells] at hcs
    obtain ⟨rfl, rfl, rfl⟩ := hcs
    obtain ⟨hx, _⟩ := Prod.mk.inj hx
    subst hx
    have z := sized_slice hsz ht hd hu
    rw [hB] at z
    have hl2 : len ≤ zs.length := by
      rw [hz]
      split
      · exact hl
      · exact Nat.le_refl _
    have h1 : (lits (H := H) k (zs.take len)).length + (lits (H := H) k (zs.drop len)).length = zs.length := by
      simp [lits]
      omega
    rw [h1] at z
    exact Nat.le_trans (Nat.mul_le_mul_right _ hl2) z
end Go.Proofs.YtplcipjlkogadaaW.PrintWords

