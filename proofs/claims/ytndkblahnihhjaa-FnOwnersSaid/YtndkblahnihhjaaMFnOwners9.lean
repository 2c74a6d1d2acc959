import Derived.Laws.Bits64b
import Derived.SizedLaws
import Derived.ChangeSlices
import Derived.Test.YtndkblahnihhjaaMFnOwners1
import Derived.Test.YtndkblahnihhjaaMFnOwners2
import Derived.Test.YtndkblahnihhjaaMFnOwners3
import Derived.Test.YtndkblahnihhjaaMFnOwners4
import Derived.Test.YtndkblahnihhjaaMFnOwners5
import Derived.Test.YtndkblahnihhjaaMFnOwners6
import Derived.Test.YtndkblahnihhjaaMFnOwners7
import Derived.Test.YtndkblahnihhjaaMFnOwners8
set_option linter.unusedVariables false
set_option linter.unusedSimpArgs false
set_option linter.unusedSectionVars false
namespace Go.Proofs.Ytndkblahnihhjaa.Q
open Go.RowKit Go.Proofs.Ytndkblahnihhjaa.P Go.Proofs.Ytndkblahnihhjaa.H Go.Proofs.YtndkblahnihhjaaW.PrintWords
variable {g : List (List Int)}
structure DM (g : List (List Int)) (b x : Int) : Prop where
  rx : Rch g (-1) 0 x
  rb : Rch g (-1) 0 b
  no : ¬ Rch g x 0 b
theorem DM.self {x : Int} (h : Rch g (-1) 0 x) : DM g x x := ⟨h, h, fun h => h.ne rfl⟩
theorem DM.trans {b m x : Int} (h1 : DM g b m) (h2 : DM g m x) : DM g b x := by
  refine ⟨h2.rx, h1.rb, fun h => ?_⟩
  have key : ∀ z, Rch g x 0 z → Rch g m 0 z ∨ Rch g x 0 m := by
    intro z hz
    induction hz with
    | here hz =>
      by_cases e0 : (0 : Int) = m
      · exact .inr (e0 ▸ .here hz)
      · exact .inl (.here e0)
    | @on a b hx hm hw ih =>
      rcases ih with ih | ih
      · by_cases e0 : b = m
        · subst e0; exact .inr (.on hx hm hw)
        · exact .inl (.on ih hm e0)
      · exact .inr ih
  rcases key b h with h | h
  · exact h1.no h
  · exact h2.no h
theorem DM.anti {m x : Int} (h1 : DM g m x) (h2 : DM g x m) : m = x := by
  refine Classical.byContradiction (fun e => ?_)
  have key : ∀ z, Rch g (-1) 0 z → Rch g x 0 z ∧ Rch g m 0 z := by
    intro z hz
    induction hz with
    | here _ =>
      by_cases e0 : (0 : Int) = x
      · exact absurd (e0 ▸ .here (by omega)) h2.no
      · by_cases e1 : (0 : Int) = m
        · exact absurd (e1 ▸ .here (by omega)) h1.no
        · exact ⟨.here e0, .here e1⟩
    | @on a b hx hm hw ih =>
      by_cases e0 : b = x
      · subst e0; exact absurd (.on ih.2 hm (fun h => e h.symm)) h2.no
      · by_cases e1 : b = m
        · subst e1; exact absurd (.on ih.1 hm e0) h1.no
        · exact ⟨.on ih.1 hm e0, .on ih.2 hm e1⟩
  exact (key x h1.rx).1.ne rfl
theorem DM.pred {k x d : Int} (h : DM g k d) (hne : d ≠ k) (hx : Rch g (-1) 0 x) (he : k ∈ g.getD x.toNat []) : DM g x d := ⟨h.rx, hx, fun h2 => h.no (.on h2 he (fun e => hne e.symm))⟩
end Go.Proofs.Ytndkblahnihhjaa.Q

namespace Go.Proofs.Ytndkblahnihhjaa.Q
open Go.RowKit Go.Proofs.Ytndkblahnihhjaa.P Go.Proofs.Ytndkblahnihhjaa.H Go.Proofs.YtndkblahnihhjaaW.PrintWords
section
variable {g : List (List Int)} (hG : goodG g = true)
include hG
theorem domL_DM {b : Nat} (hb : b < g.length) (y : Int) : y ∈ (domL g).getD b [] ↔ DM g (b : Int) y := by
  rw [(domL_rel hG).mem b hb y]
  constructor
  · rintro ⟨h1, h2, h3⟩
    exact ⟨(listTo_reach hG _).1 h1, (listTo_reach hG _).1 h2, fun h => h3 ((listTo_reach hG _).2 h)⟩
  · rintro ⟨h1, h2, h3⟩
    exact ⟨(listTo_reach hG _).2 h1, (listTo_reach hG _).2 h2, fun h => h3 ((listTo_reach hG _).1 h)⟩
theorem domF_bit {b d : Nat} (hb : b < g.length) (hd : d < 12) : ((domF g).getD b []).getD d false = true ↔ DM g (b : Int) (d : Int) := by
  rw [← domL_DM hG hb, domL_bit g hb hd]
  unfold domF
  rw [matF_row hb, rowF_get hd]
theorem DM.lt {b d : Int} (h : DM g b d) : 0 ≤ d ∧ d < (g.length : Int) := h.rx.rng hG (by decide) (by have := goodG_rows hG; omega)
theorem DM.ltb {b d : Int} (h : DM g b d) : 0 ≤ b ∧ b < (g.length : Int) := h.rb.rng hG (by decide) (by have := goodG_rows hG; omega)
theorem domL_atT {b : Nat} (hb : b < g.length) : listTo ((domF g).getD b []) 12 = (domL g).getD b [] := by
  have hbl : b < (domF g).length := by unfold domF; rw [matF_len]; exact hb
  unfold domL
  rw [List.getD_eq_getElem?_getD, List.getD_eq_getElem?_getD, List.getElem?_map, List.getElem?_eq_getElem hbl]
  rfl
theorem dom_fewer {b d : Nat} (h : DM g (b : Int) (d : Int)) (hne : d ≠ b) : (listTo ((domF g).getD d []) 12).length < (listTo ((domF g).getD b []) 12).length := by
  have hd := h.lt hG
  have hb := h.ltb hG
  rw [domL_atT hG (show d < g.length by omega), domL_atT hG (show b < g.length by omega)]
  have hsub : ∀ y ∈ (domL g).getD d [], y ∈ (domL g).getD b [] := fun y hy => (domL_DM hG (by omega) y).2 (h.trans ((domL_DM hG (by omega) y).1 hy))
  have hs := srt_sub_len ((domL_rel hG).srt d (by omega)) ((domL_rel hG).srt b (by omega)) hsub
  rcases Nat.lt_or_ge ((domL g).getD d []).length ((domL g).getD b []).length with hl | hl
  · exact hl
  · have e := hs.2 (by omega)
    have hbb : (b : Int) ∈ (domL g).getD b [] := (domL_DM hG (by omega) _).2 (.self h.rb)
    rw [← e] at hbb
    have h2 := (domL_DM hG (show d < g.length by omega) _).1 hbb
    exact absurd (DM.anti h h2) (by omega)
theorem dom_some {b : Nat} (h : Rch g (-1) 0 (b : Int)) : 0 < (listTo ((domF g).getD b []) 12).length := by
  have hd := (DM.self h).lt hG
  rw [domL_atT hG (by omega)]
  exact List.length_pos_of_mem ((domL_DM hG (by omega) _).2 (.self h))
theorem own_self {b : Nat} {O : List Bool} (hr : Rch g (-1) 0 (b : Int)) (hO : O.getD b false = true) : ownB (domF g) O b = (b : Int) := by
  have hd := (DM.self hr).lt hG
  have hn := goodG_rows hG
  unfold ownB nearestF
  generalize hs : rowF (fun k => ((domF g).getD b []).getD k false && O.getD k false) = s
  have hbit : ∀ i, i < 12 → s.getD i false = (((domF g).getD b []).getD i false && O.getD i false) := fun i hi => by rw [← hs, rowF_get hi]
  have key : ∀ i, i ≤ 12 → (i ≤ b → (nrTo (domF g) s i).2 < (listTo ((domF g).getD b []) 12).length) ∧ (b < i → nrTo (domF g) s i = ((b : Int), (listTo ((domF g).getD b []) 12).length)) := by
    intro i
    induction i with
    | zero => exact fun _ => ⟨fun _ => dom_some hG hr, fun h => by omega⟩
    | succ i ih =>
      intro hi
      obtain ⟨h1, h2⟩ := ih (by omega)
      have hst : nrTo (domF g) s (i + 1) = if s.getD i false && decide ((nrTo (domF g) s i).2 < (listTo ((domF g).getD i []) 12).length) then ((i : Int), (listTo ((domF g).getD i []) 12).length) else nrTo (domF g) s i := rfl
      rw [hst, hbit i (by omega)]
      by_cases e : i = b
      · subst e
        have hbb := (domF_bit hG (show i < g.length by omega) (by omega)).2 (.self hr)
        rw [hbb, hO, decide_eq_true (h1 (Nat.le_refl _)), if_pos (by rfl)]
        exact ⟨fun h => by omega, fun _ => rfl⟩
      · by_cases hb : ((domF g).getD b []).getD i false = true
        · have hf := dom_fewer hG ((domF_bit hG (show b < g.length by omega) (by omega)).1 hb) e
          by_cases hlt : i < b
          · refine ⟨fun _ => ?_, fun h => by omega⟩
            split
            · exact hf
            · exact h1 (by omega)
          · refine ⟨fun h => by omega, fun _ => ?_⟩
            have h3 := h2 (by omega)
            rw [h3, decide_eq_false (by show ¬ (listTo ((domF g).getD b []) 12).length < _; omega), Bool.and_false, if_neg (by simp)]
        · have hb' : ((domF g).getD b []).getD i false = false := by simpa using hb
          rw [hb', Bool.false_and, Bool.false_and, if_neg (by simp)]
          exact ⟨fun h => h1 (by omega), fun h => h2 (by omega)⟩
  rw [(key 12 (by decide)).2 (by omega)]
theorem own_pred {k x : Nat} {O : List Bool} {sets : List Int} (hO : ∀ d : Nat, d < 12 → (O.getD d false = true ↔ ((d : Int) ∈ sets ∨ Jn (froL g) sets (d : Int)))) (hk : k < g.length) (hno : O.getD k false = false) (hx : (x : Int) ∈ (prdL g).getD k []) : ownB (domF g) O x = ownB (domF g) O k := by
  have hn := goodG_rows hG
  have hxr := prdL_rng g hk hx
  have hxp := ((prdL_rel hG).mem k hk _).1 hx
  have hrx : Rch g (-1) 0 (x : Int) := (listTo_reach hG _).1 hxp.1
  have he : (k : Int) ∈ g.getD (x : Int).toNat [] := hxp.2
  unfold ownB
  congr 1
  refine rowF_congr (fun d hd => ?_)
  cases hOd : O.getD d false with
  | false => rw [Bool.and_false, Bool.and_false]
  | true =>
    rw [Bool.and_true, Bool.and_true, Bool.eq_iff_iff, domF_bit hG (by omega) hd, domF_bit hG hk hd]
    have hdk : d ≠ k := fun e => by rw [e, hno] at hOd; cases hOd
    constructor
    · intro h
      refine Classical.byContradiction (fun hn2 => ?_)
      have hdl := h.lt hG
      have hfro : (k : Int) ∈ (froL g).getD d [] := by
        refine ((froL_rel hn.1.2).mem d (by omega) _).2 ⟨by omega, (x : Int), by rw [Int.toNat_natCast]; exact hx, ?_, .inr ?_⟩
        · rw [Int.toNat_natCast]
          exact (domL_DM hG (by omega) _).2 h
        · rw [Int.toNat_natCast]
          exact fun h2 => hn2 ((domL_DM hG hk _).1 h2)
      have hJ : Jn (froL g) sets (k : Int) := by
        rcases (hO d hd).1 hOd with h1 | h1
        · exact .one h1 (by rw [Int.toNat_natCast]; exact hfro)
        · exact .on h1 (by rw [Int.toNat_natCast]; exact hfro)
      have := (hO k (by omega)).2 (.inr hJ)
      rw [hno] at this
      cases this
    · intro h
      exact h.pred (by omega) hrx he
end
end Go.Proofs.Ytndkblahnihhjaa.Q

namespace Go.Proofs.Ytndkblahnihhjaa.Q
open Go.RowKit Go.Proofs.Ytndkblahnihhjaa.P Go.Proofs.Ytndkblahnihhjaa.H Go.Proofs.YtndkblahnihhjaaW.PrintWords
theorem srt_first {l : List Int} (h : Srt l) (h0 : ∀ y ∈ l, 0 ≤ y) : (decide ((0 : Int) ∈ l)) = (decide (0 < l.length) && decide (l.getD 0 0 = 0)) := by
  cases l with
  | nil => simp
  | cons y l =>
    rw [Bool.eq_iff_iff]
    simp only [Bool.and_eq_true, decide_eq_true_eq, List.length_cons, List.getD_cons_zero, List.mem_cons]
    constructor
    · rintro (h1 | h1)
      · exact ⟨by omega, h1.symm⟩
      · have h2 := (List.pairwise_cons.1 h).1 0 h1
        have h3 := h0 y (by simp)
        omega
    · intro h1
      exact .inl h1.2.symm
theorem specJoins_ev {g : List (List Int)} {l : List Int} (hG : goodG g = true) (hr : ∀ y ∈ l, 0 ≤ y ∧ y < (g.length : Int)) (hn : l.length ≤ 12) : spec_l11Joins.f g l = some (listTo (joinsF (froL g) l) 12) := by
  unfold spec_l11Joins.f
  rw [hG, inRow_yes hr hn]
  rfl
theorem joinsOf_core (g : List (List Int)) (l : List Int) (hg : Small g) (hl : l.length ≤ 1048576) : ∃ (s1 : List Int) (s2 : Bool), Ev (fun k => spec_JoinsOf.f k g l) (s1, s2) ∧ impl_JoinsOf.f g l = some (s1, s2) ∧ s1.length ≤ 1048576 ∧ s2 = setsB g l := by
  unfold impl_JoinsOf.f spec_JoinsOf.f
  cases hG : goodG g with
  | false =>
    have hs : setsB g l = false := by unfold setsB; rw [hG, Bool.false_and]
    refine ⟨[], false, (specGoodGraph_ev g hg).bind ?_, by rw [hs, if_neg (by simp)], by simp, hs.symm⟩
    rw [hG]
    exact ev_is fun k => by rw [if_neg (by simp)]
  | true =>
    have hr := goodG_rows hG
    cases hb : rlF g l with
    | false =>
      have hs : setsB g l = false := by unfold setsB; rw [hG, hb]; rfl
      refine ⟨[], false, (specGoodGraph_ev g hg).bind ?_, by rw [hs, if_neg (by simp)], by simp, hs.symm⟩
      rw [hG]
      refine Ev.congr (fun k => by rw [if_pos rfl]) ((B.blocks_ev hG l hl).bind ?_)
      rw [hb]
      exact ev_is fun k => by rw [if_neg (by simp)]
    | true =>
      have hrn := B.rl_rng hb
      have hf := srt_first (B.rl_srt hb) (fun y hy => (hrn y hy).1)
      have hln := B.rl_len12 hr.1.2 hb
      cases h0 : decide ((0 : Int) ∈ l) with
      | false =>
        have hs : setsB g l = false := by unfold setsB; rw [hG, hb, ← hf, h0]; rfl
        refine ⟨[], false, (specGoodGraph_ev g hg).bind ?_, by rw [hs, if_neg (by simp)], by simp, hs.symm⟩
        rw [hG]
        refine Ev.congr (fun k => by rw [if_pos rfl]) ((B.blocks_ev hG l hl).bind ?_)
        rw [hb]
        refine Ev.congr (fun k => by rw [if_pos rfl]) ((has_ev l 0 hl).bind ?_)
        rw [h0]
        exact ev_is fun k => by rw [if_neg (by simp)]
      | true =>
        have hs : setsB g l = true := by unfold setsB; rw [hG, hb, ← hf, h0]; rfl
        refine ⟨_, true, (specGoodGraph_ev g hg).bind ?_, by rw [hs, if_pos rfl], listTo_small _, hs.symm⟩
        rw [hG]
        refine Ev.congr (fun k => by rw [if_pos rfl]) ((B.blocks_ev hG l hl).bind ?_)
        rw [hb]
        refine Ev.congr (fun k => by rw [if_pos rfl]) ((has_ev l 0 hl).bind ?_)
        rw [h0]
        exact ev_is fun k => by rw [if_pos rfl, specJoins_ev hG hrn hln]; rfl
end Go.Proofs.Ytndkblahnihhjaa.Q

namespace Go.Proofs.Ytndkblahnihhjaa.Q
open Go.RowKit Go.Proofs.Ytndkblahnihhjaa.P Go.Proofs.Ytndkblahnihhjaa.H Go.Proofs.YtndkblahnihhjaaW.PrintWords
theorem getD_memO {l : List Int} {m : Nat} (h : m < l.length) : l.getD m 0 ∈ l := by
  rw [List.getD_eq_getElem?_getD, List.getElem?_eq_getElem h]
  exact List.getElem_mem h
theorem drop_getDO {l : List Int} {m : Nat} (h : m < l.length) : l.drop m = l.getD m 0 :: l.drop (m + 1) := by
  rw [List.drop_eq_getElem_cons h, List.getD_eq_getElem?_getD, List.getElem?_eq_getElem h]
  rfl
def inSJ (sets joins : List Int) (d : Int) : Bool := decide (d ∈ sets) || decide (d ∈ joins)
def ostep (dom : List (List Int)) (S : Int → Bool) (best d : Int) : Int := if S d = false then best else if best < 0 then d else if ((dom.getD d.toNat []).length : Int) > ((dom.getD best.toNat []).length : Int) then d else best
def ownA (dom : List (List Int)) (sets joins acc l : List Int) (best d n b L M : Int) (k : Nat) : Option (List Int × Bool) := (if best < 0 then spec_OwnerAt.l1 k sets joins dom acc d dom n b l L M else (if 0 ≤ d then (if d < (dom.length : Int) then (if 0 ≤ best then (if best < (dom.length : Int) then (if ((dom.getD d.toNat []).length : Int) > ((dom.getD best.toNat []).length : Int) then spec_OwnerAt.l1 k sets joins dom acc d dom n b l L M else spec_OwnerAt.l1 k sets joins dom acc best dom n b l L M) else none) else none) else none) else none))
theorem own_l1 {dom : List (List Int)} {sets joins acc l : List Int} {best d n : Int} {b k m : Nat} (hm : m < l.length) (h0 : 0 ≤ d) (hd : l.getD m 0 = d) (hw : wrap64 ((m : Int) + 1) = ((m + 1 : Nat) : Int)) :
    spec_OwnerAt.l1 (k + 1) sets joins dom acc best dom n (b : Int) l (l.length : Int) (m : Int) = (spec_l1Has.f k sets d).bind fun t => if t = true then ownA dom sets joins acc l best d n (b : Int) (l.length : Int) ((m + 1 : Nat) : Int) k else ((spec_l1Has.f k joins d).bind fun t2 => if t2 = true then ownA dom sets joins acc l best d n (b : Int) (l.length : Int) ((m + 1 : Nat) : Int) k else spec_OwnerAt.l1 k sets joins dom acc best dom n (b : Int) l (l.length : Int) ((m + 1 : Nat) : Int)) := by
  have hrd : rd l (m : Int) = d := hd
  have e1 : rd_L1 dom d = dom.getD d.toNat [] := rfl
  have e2 : rd_L1 dom best = dom.getD best.toNat [] := rfl
  simp only [spec_OwnerAt.l1]
  rw [if_pos (by omega), if_pos (by omega), if_pos (by omega), hrd, hw, e1, e2]
  rfl
theorem own_inner {dom : List (List Int)} {sets joins acc : List Int} {b : Nat} {n : Int} {r : List Int × Bool} {l : List Int} (hse : sets.length ≤ 1048576) (hjo : joins.length ≤ 1048576) (hacc : acc.length < 1048576) (hb : (b : Int) < 1048576) (hl : l.length ≤ 1048576) (hin : ∀ y ∈ l, 0 ≤ y ∧ y < (dom.length : Int)) :
    ∀ m, m ≤ l.length → ∀ best : Int, (best < 0 ∨ (0 ≤ best ∧ best < (dom.length : Int))) → Ev (fun k => spec_OwnerAt.l0 k sets joins dom (acc ++ [(l.drop m).foldl (ostep dom (inSJ sets joins)) best]) dom n ((b : Int) + 1)) r → Ev (fun k => spec_OwnerAt.l1 k sets joins dom acc best dom n (b : Int) l (l.length : Int) (m : Int)) r := by
  refine down (n := l.length) (p := fun m => ∀ best : Int, (best < 0 ∨ (0 ≤ best ∧ best < (dom.length : Int))) → Ev (fun k => spec_OwnerAt.l0 k sets joins dom (acc ++ [(l.drop m).foldl (ostep dom (inSJ sets joins)) best]) dom n ((b : Int) + 1)) r → Ev (fun k => spec_OwnerAt.l1 k sets joins dom acc best dom n (b : Int) l (l.length : Int) (m : Int)) r) ?h0 ?hs
  case h0 =>
    intro best _ h
    rw [List.drop_length, List.foldl_nil] at h
    refine Ev.step (fun k => ?_) h
    simp only [spec_OwnerAt.l1]
    rw [if_neg (by omega), if_pos (by omega), w64 (by omega) (by omega)]
  case hs =>
    intro m hm ih best hbest h
    have hx := hin _ (getD_memO hm)
    rw [drop_getDO hm, List.foldl_cons] at h
    obtain ⟨d, hd⟩ : ∃ d, l.getD m 0 = d := ⟨_, rfl⟩
    rw [hd] at hx h
    have hnb : ostep dom (inSJ sets joins) best d < 0 ∨ (0 ≤ ostep dom (inSJ sets joins) best d ∧ ostep dom (inSJ sets joins) best d < (dom.length : Int)) := by
      unfold ostep
      split
      · exact hbest
      · split
        · exact .inr hx
        · split
          · exact .inr hx
          · exact hbest
    have hgo := ih (ostep dom (inSJ sets joins) best d) hnb h
    have hw : wrap64 ((m : Int) + 1) = ((m + 1 : Nat) : Int) := w64 (by omega) (by omega)
    have hyes : inSJ sets joins d = true → Ev (fun k => ownA dom sets joins acc l best d n (b : Int) (l.length : Int) ((m + 1 : Nat) : Int) k) r := by
      intro hS
      unfold ostep at hgo
      rw [if_neg (by rw [hS]; simp)] at hgo
      unfold ownA
      by_cases c2 : best < 0
      · rw [if_pos c2] at hgo
        exact Ev.congr (fun k => by rw [if_pos c2]) hgo
      · rw [if_neg c2] at hgo
        by_cases c3 : ((dom.getD d.toNat []).length : Int) > ((dom.getD best.toNat []).length : Int)
        · rw [if_pos c3] at hgo
          exact Ev.congr (fun k => by rw [if_neg c2, if_pos hx.1, if_pos hx.2, if_pos (by omega), if_pos (by omega), if_pos c3]) hgo
        · rw [if_neg c3] at hgo
          exact Ev.congr (fun k => by rw [if_neg c2, if_pos hx.1, if_pos hx.2, if_pos (by omega), if_pos (by omega), if_neg c3]) hgo
    refine Ev.step (fun k => own_l1 hm hx.1 hd hw) ?_
    have h5 := has_ev sets d hse
    have h6 := has_ev joins d hjo
    cases h1 : decide (d ∈ sets) with
    | true =>
      rw [h1] at h5
      exact h5.bind (f := fun k t => if t = true then ownA dom sets joins acc l best d n (b : Int) (l.length : Int) ((m + 1 : Nat) : Int) k else ((spec_l1Has.f k joins d).bind fun t2 => if t2 = true then ownA dom sets joins acc l best d n (b : Int) (l.length : Int) ((m + 1 : Nat) : Int) k else spec_OwnerAt.l1 k sets joins dom acc best dom n (b : Int) l (l.length : Int) ((m + 1 : Nat) : Int))) (Ev.congr (fun k => by rw [if_pos rfl]) (hyes (by unfold inSJ; rw [h1, Bool.true_or])))
    | false =>
      rw [h1] at h5
      refine h5.bind (f := fun k t => if t = true then ownA dom sets joins acc l best d n (b : Int) (l.length : Int) ((m + 1 : Nat) : Int) k else ((spec_l1Has.f k joins d).bind fun t2 => if t2 = true then ownA dom sets joins acc l best d n (b : Int) (l.length : Int) ((m + 1 : Nat) : Int) k else spec_OwnerAt.l1 k sets joins dom acc best dom n (b : Int) l (l.length : Int) ((m + 1 : Nat) : Int))) (Ev.congr (fun k => by rw [if_neg (by simp)]) (h6.bind (f := fun k t2 => if t2 = true then ownA dom sets joins acc l best d n (b : Int) (l.length : Int) ((m + 1 : Nat) : Int) k else spec_OwnerAt.l1 k sets joins dom acc best dom n (b : Int) l (l.length : Int) ((m + 1 : Nat) : Int)) ?_))
      cases h2 : decide (d ∈ joins) with
      | true => exact Ev.congr (fun k => by rw [if_pos rfl]) (hyes (by unfold inSJ; rw [h2, Bool.or_true]))
      | false =>
        have hS : inSJ sets joins d = false := by unfold inSJ; rw [h1, h2]; rfl
        unfold ostep at hgo
        rw [if_pos hS] at hgo
        exact Ev.congr (fun k => by rw [if_neg (by simp)]) hgo
section
variable {g : List (List Int)}
theorem domL_atO {b : Nat} (hb : b < g.length) : (domL g).getD b [] = listTo ((domF g).getD b []) 12 := by
  have hbl : b < (domF g).length := by unfold domF; rw [matF_len]; exact hb
  unfold domL
  rw [List.getD_eq_getElem?_getD, List.getElem?_map, List.getD_eq_getElem?_getD, List.getElem?_eq_getElem hbl]
  rfl
theorem dom_selfO (hG : goodG g = true) {b : Nat} (hb : b < g.length) {y : Nat} (hy : (y : Int) ∈ (domL g).getD b []) : y < g.length ∧ 0 < (listTo ((domF g).getD y []) 12).length := by
  have hr := goodG_rows hG
  have hm := ((domL_rel hG).mem b hb _).1 hy
  have hyr := (listTo_reach hG _).1 hm.1
  have hyn := hyr.rng hG (by decide) (by have := hr.1.1; omega)
  have hyl : y < g.length := by omega
  refine ⟨hyl, ?_⟩
  have h2 : (y : Int) ∈ (domL g).getD y [] := ((domL_rel hG).mem y hyl _).2 ⟨hm.1, hm.1, fun h => ((listTo_reach hG _).1 h).ne rfl⟩
  rw [domL_atO hyl] at h2
  exact List.length_pos_of_mem h2
theorem own_run (hG : goodG g = true) {b : Nat} (hb : b < g.length) {O : List Bool} {S : Int → Bool} (hO : ∀ k : Nat, k < 12 → O.getD k false = S (k : Int)) {s : List Bool} (hs : s = rowF (fun k => ((domF g).getD b []).getD k false && O.getD k false)) : ∀ i, i ≤ 12 →
    (listTo ((domF g).getD b []) i).foldl (ostep (domL g) S) (-1) = (nrTo (domF g) s i).1 ∧
    (((nrTo (domF g) s i).1 = -1 ∧ (nrTo (domF g) s i).2 = 0) ∨ (0 ≤ (nrTo (domF g) s i).1 ∧ (nrTo (domF g) s i).1.toNat < g.length ∧ (nrTo (domF g) s i).2 = (listTo ((domF g).getD (nrTo (domF g) s i).1.toNat []) 12).length)) := by
  intro i
  induction i with
  | zero => intro _; exact ⟨rfl, .inl ⟨rfl, rfl⟩⟩
  | succ i ih =>
    intro hi
    obtain ⟨h1, h2⟩ := ih (by omega)
    have hself : ∀ y : Nat, y < 12 → ((domF g).getD b []).getD y false = true → y < g.length ∧ 0 < (listTo ((domF g).getD y []) 12).length := fun y hy h => dom_selfO hG hb (by rw [domL_atO hb, listTo_mem]; exact ⟨y, hy, rfl, h⟩)
    have hst : nrTo (domF g) s (i + 1) = if s.getD i false && decide ((nrTo (domF g) s i).2 < (listTo ((domF g).getD i []) 12).length) then ((i : Int), (listTo ((domF g).getD i []) 12).length) else nrTo (domF g) s i := rfl
    have hsi : s.getD i false = (((domF g).getD b []).getD i false && S (i : Int)) := by rw [hs, rowF_get (by omega), hO i (by omega)]
    rw [hsi] at hst
    obtain ⟨st, hp⟩ : ∃ st, nrTo (domF g) s i = st := ⟨_, rfl⟩
    rw [hp] at h1 h2 hst
    rw [hst, listTo_step]
    cases hbit : ((domF g).getD b []).getD i false with
    | false =>
      rw [if_neg (by simp), Bool.false_and, Bool.false_and, if_neg (by simp)]
      exact ⟨h1, h2⟩
    | true =>
      rw [if_pos rfl, List.foldl_append, List.foldl_cons, List.foldl_nil, h1, Bool.true_and]
      cases hSi : S (i : Int) with
      | false =>
        rw [Bool.false_and, if_neg (by simp)]
        refine ⟨?_, h2⟩
        unfold ostep
        rw [if_pos hSi]
      | true =>
        obtain ⟨hig, hpos⟩ := hself i (by omega) hbit
        have hdi : (domL g).getD i [] = listTo ((domF g).getD i []) 12 := domL_atO hig
        rw [Bool.true_and]
        unfold ostep
        rw [if_neg (by rw [hSi]; simp), Int.toNat_natCast, hdi]
        rcases h2 with ⟨a1, a2⟩ | ⟨a1, a2, a3⟩
        · rw [a1, a2, if_pos (by decide), decide_eq_true hpos, if_pos rfl]
          exact ⟨rfl, .inr ⟨by omega, by rw [Int.toNat_natCast]; exact hig, by rw [Int.toNat_natCast]⟩⟩
        · rw [if_neg (by omega), domL_atO a2, ← a3]
          by_cases c : st.2 < (listTo ((domF g).getD i []) 12).length
          · rw [decide_eq_true c, if_pos rfl, if_pos (by omega)]
            exact ⟨rfl, .inr ⟨by omega, by rw [Int.toNat_natCast]; exact hig, by rw [Int.toNat_natCast]⟩⟩
          · rw [decide_eq_false c, if_neg (show ¬ (((listTo ((domF g).getD i []) 12).length : Nat) : Int) > ((st.2 : Nat) : Int) by omega), if_neg (show ¬ (false = true) by simp)]
            exact ⟨rfl, .inr ⟨a1, a2, a3⟩⟩
end
theorem ownerAt_core (g : List (List Int)) (l : List Int) (hg : Small g) (hl : l.length ≤ 1048576) : ∃ (s1 : List Int) (s2 : Bool), Ev (fun k => spec_OwnerAt.f k g l) (s1, s2) ∧ impl_OwnerAt.f g l = some (s1, s2) ∧ s1.length ≤ 1048576 := by
  obtain ⟨j1, j2, hj1, hj2, hj3, hj4⟩ := joinsOf_core g l hg hl
  unfold impl_OwnerAt.f spec_OwnerAt.f
  cases hs : setsB g l with
  | false =>
    rw [hs] at hj4
    subst hj4
    refine ⟨[], false, hj1.bind ?_, by rw [if_neg (by simp)], by simp⟩
    exact ev_is fun k => by rw [if_neg (by simp)]
  | true =>
    rw [hs] at hj4
    subst hj4
    unfold impl_JoinsOf.f at hj2
    rw [hs, if_pos rfl] at hj2
    simp only [Option.some.injEq, Prod.mk.injEq, and_true] at hj2
    have hs2 := hs
    unfold setsB at hs2
    rw [Bool.and_eq_true, Bool.and_eq_true] at hs2
    have hG := hs2.1
    have hr := goodG_rows hG
    have hn2 : g.length ≤ 12 := hr.1.2
    have hrn := B.rl_rng hs2.2.1
    have hln := B.rl_len12 hn2 hs2.2.1
    have hjl := (joins_some (fl := froL g) (l := l) (froL_row12 hn2) (fun y hy => ⟨(hrn y hy).1, by have := (hrn y hy).2; omega⟩) hln).2.len
    obtain ⟨J, hJ⟩ : ∃ J, joinsF (froL g) l = J := ⟨_, rfl⟩
    rw [hJ] at hj2 hjl
    have hO : ∀ k : Nat, k < 12 → (andF J l).getD k false = inSJ l j1 (k : Int) := by
      intro k hk
      unfold inSJ
      rw [Bool.eq_iff_iff, andF_get l J k (by omega) (fun y hy => (hrn y hy).1), Bool.or_eq_true, decide_eq_true_eq, decide_eq_true_eq, ← hj2, listTo_mem]
      constructor
      · rintro (h | h)
        · exact .inr ⟨k, hk, rfl, h⟩
        · exact .inl h
      · rintro (h | ⟨j, h1, h2, h3⟩)
        · exact .inr h
        · exact .inl (by rwa [show k = j by omega])
    have hdl : (domL g).length = g.length := (domL_rel hG).len
    rw [hJ]
    refine ⟨ownTo (domF g) (andF J l) g.length g.length, true, hj1.bind ?_, by rw [if_pos rfl], by rw [ownTo_len]; omega⟩
    have e : spec_l10Dominators.f g = some (domL g) := by unfold spec_l10Dominators.f; rw [hG, if_pos rfl]
    refine Ev.congr (fun k => by rw [if_pos rfl, e, Option.bind_some, hdl]) ?_
    obtain ⟨OUT, hOUT⟩ : ∃ OUT, ownTo (domF g) (andF J l) g.length g.length = OUT := ⟨_, rfl⟩
    have hol : OUT.length = g.length := by rw [← hOUT, ownTo_len]
    have hat : ∀ t, t < g.length → OUT[t]? = some (ownB (domF g) (andF J l) t) := by
      intro t ht
      rw [← hOUT]
      unfold ownTo
      rw [List.getElem?_map, List.getElem?_range ht, Option.map_some, if_pos ht]
    rw [hOUT]
    exact down0 (n := g.length) (p := fun b => Ev (fun k => spec_OwnerAt.l0 k l j1 (domL g) (OUT.take b) (domL g) (g.length : Int) (b : Int)) (OUT, true))
      (Ev.step (f := fun _ => some (OUT, true)) (fun k => by simp only [spec_OwnerAt.l0]; rw [if_neg (by omega), List.take_of_length_le (by omega)]) (Ev.now _))
      (fun b hb ih => by
        have hrow := domL_atO hb
        have hlen := listTo_len ((domF g).getD b []) 12
        refine Ev.step (fun k => ?_) (own_inner (dom := domL g) (sets := l) (joins := j1) (acc := OUT.take b) (b := b) (n := (g.length : Int)) (r := (OUT, true)) (l := (domL g).getD b []) hl hj3 (by rw [List.length_take]; omega) (by omega) (by rw [hrow]; omega) (fun y hy => ?_) 0 (Nat.zero_le _) (-1) (.inl (by decide)) ?_)
        · simp only [spec_OwnerAt.l0]
          rw [if_pos (by omega), if_pos (by omega), if_pos (by omega)]
          rfl
        · have hm := ((domL_rel hG).mem b hb y).1 hy
          have := ((listTo_reach hG y).1 hm.1).rng hG (by decide) (by have := hr.1.1; omega)
          omega
        · rw [List.drop_zero, hrow, (own_run hG hb hO rfl 12 (by decide)).1]
          have hto : OUT.take (b + 1) = OUT.take b ++ [ownB (domF g) (andF J l) b] := by rw [List.take_add_one, hat b hb]; rfl
          rw [hto] at ih
          exact ih)
end Go.Proofs.Ytndkblahnihhjaa.Q

namespace Go.Proofs.Ytndkblahnihhjaa.Q.C
open Go.RowKit Go.Proofs.Ytndkblahnihhjaa.P Go.Proofs.Ytndkblahnihhjaa.H Go.Proofs.YtndkblahnihhjaaW.PrintWords
theorem small_lists (M : List (List Bool)) (h : M.length ≤ 1048576) : Small (M.map (fun r => listTo r 12)) := ⟨by rw [List.length_map]; exact h, fun r hr => by obtain ⟨x, _, rfl⟩ := List.mem_map.1 hr; exact listTo_small x⟩
theorem small_nil' : Small ([] : List (List Int)) := ⟨by simp, fun r hr => by simp at hr⟩
theorem predsOf_core (g : List (List Int)) (hg : Small g) : ∃ (s1 : List (List Int)) (s2 : Bool), Ev (fun k => spec_PredsOf.f k g) (s1, s2) ∧ impl_PredsOf.f g = some (s1, s2) ∧ Small s1 := by
  unfold impl_PredsOf.f spec_PredsOf.f
  cases hG : goodG g with
  | false =>
    refine ⟨[], false, (specGoodGraph_ev g hg).bind ?_, by rw [if_neg (by simp)], small_nil'⟩
    rw [hG]
    exact ev_is fun k => by rw [if_neg (by simp)]
  | true =>
    refine ⟨prdL g, true, (specGoodGraph_ev g hg).bind ?_, by rw [if_pos rfl]; rfl, small_lists _ (by unfold prdF; rw [matF_len]; exact hg.1)⟩
    rw [hG]
    exact ev_is fun k => by rw [if_pos rfl]; unfold spec_l11Preds.f; rw [hG, if_pos rfl]; rfl
theorem frontierOf_core (g : List (List Int)) (hg : Small g) : ∃ (s1 : List (List Int)) (s2 : Bool), Ev (fun k => spec_FrontierOf.f k g) (s1, s2) ∧ impl_FrontierOf.f g = some (s1, s2) ∧ Small s1 := by
  unfold impl_FrontierOf.f spec_FrontierOf.f
  cases hG : goodG g with
  | false =>
    refine ⟨[], false, (specGoodGraph_ev g hg).bind ?_, by rw [if_neg (by simp)], small_nil'⟩
    rw [hG]
    exact ev_is fun k => by rw [if_neg (by simp)]
  | true =>
    refine ⟨froL g, true, (specGoodGraph_ev g hg).bind ?_, by rw [if_pos rfl]; rfl, small_lists _ (by unfold froF; rw [matF_len]; exact hg.1)⟩
    rw [hG]
    exact ev_is fun k => by rw [if_pos rfl]; unfold spec_l11Frontier.f; rw [hG, if_pos rfl]; rfl
end Go.Proofs.Ytndkblahnihhjaa.Q.C

namespace Go.Proofs.Ytndkblahnihhjaa.Q
open Go.RowKit Go.Proofs.Ytndkblahnihhjaa.P Go.Proofs.Ytndkblahnihhjaa.H Go.Proofs.YtndkblahnihhjaaW.PrintWords
theorem low_byte {n : Int} (h0 : 0 ≤ n) (h1 : n < 18446744073709551616) : 0 ≤ Go.bits .and .u64 n 255 ∧ Go.bits .and .u64 n 255 < 256 := by
  have h := bits_and_u64_nat n.toNat 255 (by omega) (by omega)
  rw [Int.toNat_of_nonneg h0] at h
  have h2 : n.toNat &&& 255 ≤ 255 := Nat.and_le_right
  have h3 : Go.bits .and .u64 n 255 = ((n.toNat &&& 255 : Nat) : Int) := h
  rw [h3]
  omega
theorem drawn_byte (n : Int) : ∃ x, wrap64 (Go.bits .and .u64 (IntKind.u64.wrap n / 1099511627776) 255) = x ∧ 0 ≤ x ∧ x < 256 := by
  have hw := IntKind.wrap_u64 n
  have h := low_byte (n := IntKind.u64.wrap n / 1099511627776) (by omega) (by omega)
  refine ⟨_, rfl, ?_⟩
  rw [w64 (by omega) (by omega)]
  exact h
def Byt (l : List Int) : Prop := ∀ x ∈ l, 0 ≤ x ∧ x < 256
theorem next_ok {code : List Int} (hc : Byt code) (hl : code.length ≤ 4611686018427387904) {at_ : Int} (sd : Int) (h0 : 0 ≤ at_) (h1 : at_ ≤ 4611686018427387904) : ∃ x sd', spec_l1Cur_next.f code at_ sd = some (x, at_ + 1, sd') ∧ 0 ≤ x ∧ x < 256 := by
  unfold spec_l1Cur_next.f
  have hw : wrap64 (at_ + 1) = at_ + 1 := w64 (by omega) (by omega)
  by_cases c : at_ < (code.length : Int)
  · rw [if_pos c, if_pos h0, hw, if_pos (by omega)]
    have hr : rd code at_ = code.getD at_.toNat 0 := rfl
    have hx := hc _ (show code.getD at_.toNat 0 ∈ code by rw [List.getD_eq_getElem?_getD, List.getElem?_eq_getElem (by omega)]; exact List.getElem_mem _)
    exact ⟨_, _, rfl, by rw [hr, w64 (by omega) (by omega)]; exact hx.1, by rw [hr, w64 (by omega) (by omega)]; exact hx.2⟩
  · rw [if_neg c, hw]
    by_cases c2 : at_ + 1 ≤ (code.length : Int)
    · rw [if_pos c2]
      exact ⟨_, _, rfl, by omega, by omega⟩
    · rw [if_neg c2]
      obtain ⟨x, hx, h2⟩ := drawn_byte (IntKind.u64.wrap (IntKind.u64.wrap (sd * 6364136223846793005) + 0) + 1442695040888963407)
      exact ⟨_, _, rfl, by rw [hx]; exact h2.1, by rw [hx]; exact h2.2⟩
theorem pick_ok {code : List Int} (hc : Byt code) (hl : code.length ≤ 4611686018427387904) {at_ : Int} (sd n : Int) (h0 : 0 ≤ at_) (h1 : at_ + 2 ≤ 4611686018427387904) : ∃ x at' sd', spec_l1Cur_pick.f code at_ sd n = some (x, at', sd') ∧ 0 ≤ x ∧ (1 ≤ n → x < n) ∧ at_ ≤ at' ∧ at' ≤ at_ + 2 := by
  unfold spec_l1Cur_pick.f
  by_cases c : n ≤ 1
  · rw [if_pos c]
    exact ⟨0, at_, sd, rfl, by omega, fun _ => by omega, by omega, by omega⟩
  · rw [if_neg c]
    obtain ⟨x, sd1, e, hx0, hx1⟩ := next_ok hc hl sd h0 (by omega)
    rw [e, Option.bind_some]
    by_cases c2 : n > 200
    · obtain ⟨y, sd2, e2, hy0, hy1⟩ := next_ok hc hl sd1 (at_ := at_ + 1) (by omega) (by omega)
      simp only []
      rw [if_pos c2, e2, Option.bind_some]
      simp only []
      rw [if_neg (by omega)]
      have hw : wrap64 (x * 256) = x * 256 := w64 (by omega) (by omega)
      have hw2 : wrap64 (wrap64 (x * 256) + y) = x * 256 + y := by rw [hw]; exact w64 (by omega) (by omega)
      have hm : Int.tmod (x * 256 + y) n = (x * 256 + y) % n := Int.tmod_eq_emod_of_nonneg (by omega)
      have hm0 := Int.emod_nonneg (x * 256 + y) (show n ≠ 0 by omega)
      have hm1 := Int.emod_lt_of_pos (x * 256 + y) (show 0 < n by omega)
      exact ⟨_, _, _, rfl, by rw [hw2, hm]; exact hm0, fun _ => by rw [hw2, hm]; exact hm1, by omega, by omega⟩
    · simp only []
      rw [if_neg c2, if_neg (by omega)]
      have hm : Int.tmod x n = x % n := Int.tmod_eq_emod_of_nonneg hx0
      have hm0 := Int.emod_nonneg x (show n ≠ 0 by omega)
      have hm1 := Int.emod_lt_of_pos x (show 0 < n by omega)
      exact ⟨_, _, _, rfl, by rw [hm]; exact hm0, fun _ => by rw [hm]; exact hm1, by omega, by omega⟩
theorem one_ok {code : List Int} (hc : Byt code) (hl : code.length ≤ 4611686018427387904) {at_ : Int} (sd n : Int) (h0 : 0 ≤ at_) (h1 : at_ + 2 ≤ 4611686018427387904) : ∃ x at' sd', spec_l1Cur_one.f code at_ sd n = some (x, at', sd') ∧ at_ ≤ at' ∧ at' ≤ at_ + 2 := by
  unfold spec_l1Cur_one.f
  obtain ⟨x, a, s, e, _, _, h3, h4⟩ := pick_ok hc hl sd n h0 h1
  rw [e, Option.bind_some]
  exact ⟨_, a, s, rfl, h3, h4⟩
structure Fair (n m : Nat) (g : List (List Int)) : Prop where
  len : g.length ≤ n
  row : ∀ r ∈ g, r.length ≤ m
theorem Fair.small {n m : Nat} {g : List (List Int)} (h : Fair n m g) (hn : n ≤ 1048576) (hm : m ≤ 1048576) : Small g := ⟨Nat.le_trans h.len hn, fun r hr => Nat.le_trans (h.row r hr) hm⟩
def Drw (r : List (List Int) × Int × Int) : Prop := Fair 13 5 r.1 ∧ 1 ≤ r.1.length ∧ 0 ≤ r.2.1 ∧ r.2.1 ≤ 200
section
variable {code : List Int} (hc : Byt code) (hl : code.length ≤ 1048576) {n : Int}
include hc hl
theorem graph_l1 {K : Int} (kk : Int) (g : List (List Int)) (hgl : g.length ≤ 13) (cont : ∀ (row : List Int) (at_ sd : Int), row.length ≤ 4 → 0 ≤ at_ → at_ ≤ K + 4 → ∃ r, Drw r ∧ Ev (fun k => spec_l1Cur_graph.l0 k n (wrap64 (kk + 1)) code at_ sd (g ++ [row])) r) (hK : K ≤ 1048576) :
    ∀ (m : Nat) (row : List Int) (at_ sd : Int), m ≤ 2 → row.length + m ≤ 4 → 0 ≤ at_ → at_ + 2 * m ≤ K + 4 → ∃ r, Drw r ∧ Ev (fun k => spec_l1Cur_graph.l1 k n kk row (m : Int) code at_ sd g) r := by
  intro m
  induction m with
  | zero =>
    intro row at_ sd _ hr h0 h1
    obtain ⟨r, hr1, hr2⟩ := cont row at_ sd (by omega) h0 (by omega)
    refine ⟨r, hr1, Ev.step (fun k => ?_) hr2⟩
    simp only [spec_l1Cur_graph.l1]
    rw [if_neg (by omega), if_pos (by omega)]
  | succ m ih =>
    intro row at_ sd hm hr h0 h1
    obtain ⟨x, a, s, e, _, _, ha1, ha2⟩ := pick_ok hc (by omega) sd n h0 (by omega)
    have hp := putL_len x row
    obtain ⟨r, hr1, hr2⟩ := ih (putL row x) a s (by omega) (by omega) (by omega) (by omega)
    refine ⟨r, hr1, Ev.step (fun k => ?_) ((put_ev row x (by omega)).bind (f := fun k t => spec_l1Cur_graph.l1 k n kk t (m : Int) code a s g) hr2)⟩
    simp only [spec_l1Cur_graph.l1]
    rw [if_pos (by omega), e, Option.bind_some, w64 (by omega) (by omega), show ((m + 1 : Nat) : Int) - 1 = (m : Int) by omega]
theorem graph_j3 {i : Nat} (hi : (i : Int) < n) (hn2 : n ≤ 13) (g : List (List Int)) (hg : g.length = i) (hf : Fair 13 4 g) {B : Int} (hB : B ≤ 1000) (cont : ∀ (row : List Int) (at_ sd : Int), row.length ≤ 4 → 0 ≤ at_ → at_ ≤ B + 6 → ∃ r, Drw r ∧ Ev (fun k => spec_l1Cur_graph.l0 k n ((i + 1 : Nat) : Int) code at_ sd (g ++ [row])) r) (row : List Int) (hr : row.length ≤ 1) (at_ sd : Int) (h0 : 0 ≤ at_) (h1 : at_ ≤ B) :
    ∃ r, Drw r ∧ Ev (fun k => spec_l1Cur_graph.j3 k n (i : Int) row code at_ sd g) r := by
  obtain ⟨x, a, s, e, hx0, hx1, ha1, ha2⟩ := pick_ok hc (by omega) sd (3 : Int) h0 (by omega)
  have hx3 := hx1 (by omega)
  obtain ⟨m, rfl⟩ : ∃ m : Nat, x = (m : Int) := ⟨x.toNat, by omega⟩
  have hw : wrap64 ((i : Int) + 1) = ((i + 1 : Nat) : Int) := w64 (by omega) (by omega)
  obtain ⟨r, hr1, hr2⟩ := graph_l1 hc hl (n := n) (K := B + 2) (i : Int) g (by omega) (fun row at_ sd h1 h2 h3 => by
    rw [hw]
    exact cont row at_ sd h1 h2 (by omega)) (by omega) m row a s (by omega) (by omega) (by omega) (by omega)
  refine ⟨r, hr1, Ev.step (fun k => ?_) hr2⟩
  simp only [spec_l1Cur_graph.j3]
  rw [e, Option.bind_some]
theorem graph_l0 (hn1 : 1 ≤ n) (hn2 : n ≤ 13) : ∀ (d i : Nat) (g : List (List Int)) (at_ sd : Int), (i : Int) + d = n → g.length = i → Fair 13 4 g → 0 ≤ at_ → at_ ≤ 10 + 10 * i → ∃ r, Drw r ∧ Ev (fun k => spec_l1Cur_graph.l0 k n (i : Int) code at_ sd g) r := by
  intro d
  induction d with
  | zero =>
    intro i g at_ sd hi hg hf h0 h1
    obtain ⟨b, a, s, e, ha1, ha2⟩ := one_ok hc (by omega) sd 30 h0 (by omega)
    cases b with
    | false =>
      refine ⟨(g, a, s), ⟨⟨hf.len, fun r hr => Nat.le_trans (hf.row r hr) (by decide)⟩, by show 1 ≤ g.length; omega, by show 0 ≤ a; omega, by show a ≤ 200; omega⟩, Ev.step (f := fun _ => some (g, a, s)) (fun k => ?_) (Ev.now _)⟩
      simp only [spec_l1Cur_graph.l0]
      rw [if_neg (by omega), e, Option.bind_some, if_neg (by simp)]
    | true =>
      obtain ⟨x, a2, s2, e2, hx0, hx1, hb1, hb2⟩ := pick_ok hc (by omega) s (3 : Int) (at_ := a) (by omega) (by omega)
      have hx3 := hx1 (by omega)
      have hrow : rd_L1 g 0 = g.getD 0 [] := rfl
      have hmem : g.getD 0 [] ∈ g := by rw [List.getD_eq_getElem?_getD, List.getElem?_eq_getElem (by omega)]; exact List.getElem_mem _
      have hr4 := hf.row _ hmem
      have hal : spec_l1Cur_among.f code a s [-1, 0, n] = some (rd [-1, 0, n] x, a2, s2) := by
        unfold spec_l1Cur_among.f
        show (spec_l1Cur_pick.f code a s 3).bind _ = _
        rw [e2, Option.bind_some]
        simp only []
        rw [if_pos hx0]
        exact if_pos hx3
      refine ⟨(g.set (0 : Int).toNat (g.getD 0 [] ++ [rd [-1, 0, n] x]), a2, s2), ⟨⟨by rw [List.length_set]; exact hf.len, fun r hr => ?_⟩, by rw [List.length_set]; omega, by show 0 ≤ a2; omega, by show a2 ≤ 200; omega⟩, Ev.step (f := fun _ => some (g.set (0 : Int).toNat (g.getD 0 [] ++ [rd [-1, 0, n] x]), a2, s2)) (fun k => ?_) (Ev.now _)⟩
      · rcases List.mem_or_eq_of_mem_set hr with hr | rfl
        · exact Nat.le_trans (hf.row r hr) (by decide)
        · rw [List.length_append, List.length_singleton]; omega
      · simp only [spec_l1Cur_graph.l0]
        rw [if_neg (by omega), e, Option.bind_some, if_pos rfl, if_pos (by omega), hal, Option.bind_some, hrow, if_pos (by omega)]
  | succ d ih =>
    intro i g at_ sd hi hg hf h0 h1
    have hw : wrap64 ((i : Int) + 1) = ((i + 1 : Nat) : Int) := w64 (by omega) (by omega)
    have hcont : ∀ (row : List Int) (at_ sd : Int), row.length ≤ 4 → 0 ≤ at_ → at_ ≤ 14 + 10 * (i : Int) + 6 → ∃ r, Drw r ∧ Ev (fun k => spec_l1Cur_graph.l0 k n ((i + 1 : Nat) : Int) code at_ sd (g ++ [row])) r := by
      intro row at_ sd hr h0 h1
      refine ih (i + 1) (g ++ [row]) at_ sd (by omega) (by rw [List.length_append, List.length_singleton]; omega) ⟨by rw [List.length_append, List.length_singleton]; omega, fun r hr' => ?_⟩ h0 (by omega)
      rcases List.mem_append.1 hr' with h | h
      · exact hf.row r h
      · rw [List.mem_singleton.1 h]; exact hr
    have hj3 := fun row hr at_ sd h0 h1 => graph_j3 hc hl (n := n) (i := i) (by omega) hn2 g hg hf (B := 14 + 10 * (i : Int)) (by omega) hcont row hr at_ sd h0 h1
    have hj2 : ∀ (b : Bool) (at_ sd : Int), 0 ≤ at_ → at_ ≤ 14 + 10 * (i : Int) → ∃ r, Drw r ∧ Ev (fun k => spec_l1Cur_graph.j2 k n (i : Int) [] b code at_ sd g) r := by
      intro b at_ sd h0 h1
      cases b with
      | false =>
        obtain ⟨r, hr1, hr2⟩ := hj3 [] (by simp) at_ sd h0 h1
        exact ⟨r, hr1, Ev.step (fun k => by simp only [spec_l1Cur_graph.j2]; rw [if_neg (by simp)]) hr2⟩
      | true =>
        have hp := putL_len ((i + 1 : Nat) : Int) []
        obtain ⟨r, hr1, hr2⟩ := hj3 (putL [] ((i + 1 : Nat) : Int)) (by simpa using hp) at_ sd h0 h1
        refine ⟨r, hr1, Ev.step (fun k => ?_) ((put_ev [] ((i + 1 : Nat) : Int) (by simp)).bind (f := fun k t => spec_l1Cur_graph.j3 k n (i : Int) t code at_ sd g) hr2)⟩
        simp only [spec_l1Cur_graph.j2]
        rw [if_pos trivial, hw]
    by_cases c : ((i + 1 : Nat) : Int) < n
    · obtain ⟨b, a, s, e, ha1, ha2⟩ := one_ok hc (by omega) sd 4 h0 (by omega)
      obtain ⟨r, hr1, hr2⟩ := hj2 (!b) a s (by omega) (by omega)
      refine ⟨r, hr1, Ev.step (fun k => ?_) hr2⟩
      simp only [spec_l1Cur_graph.l0]
      rw [if_pos (by omega), hw, if_pos c, e, Option.bind_some]
    · obtain ⟨r, hr1, hr2⟩ := hj2 false at_ sd h0 (by omega)
      refine ⟨r, hr1, Ev.step (fun k => ?_) hr2⟩
      simp only [spec_l1Cur_graph.l0]
      rw [if_pos (by omega), hw, if_neg c]
theorem graph_ev : ∃ r, Drw r ∧ Ev (fun k => spec_l1Cur_graph.f k code 0 0) r := by
  unfold spec_l1Cur_graph.f
  obtain ⟨x, a, s, e, hx0, hx1, ha1, ha2⟩ := pick_ok hc (by omega) 0 (7 : Int) (at_ := 0) (by omega) (by omega)
  have hx7 := hx1 (by omega)
  obtain ⟨b, a2, s2, e2, hb1, hb2⟩ := one_ok hc (by omega) s 20 (at_ := a) (by omega) (by omega)
  have hj : ∀ (n : Int), 1 ≤ n → n ≤ 13 → ∀ at_ sd, 0 ≤ at_ → at_ ≤ 10 → ∃ r, Drw r ∧ Ev (fun k => spec_l1Cur_graph.j0 k n code at_ sd) r := by
    intro n hn1 hn2 at_ sd h0 h1
    obtain ⟨r, hr1, hr2⟩ := graph_l0 hc hl hn1 hn2 n.toNat 0 [] at_ sd (by omega) rfl ⟨by simp, fun r hr => by simp at hr⟩ h0 (by omega)
    exact ⟨r, hr1, Ev.step (fun k => by simp only [spec_l1Cur_graph.j0]; rfl) hr2⟩
  cases b with
  | true =>
    obtain ⟨y, a3, s3, e3, hy0, hy1, hc1, hc2⟩ := pick_ok hc (by omega) s2 (2 : Int) (at_ := a2) (by omega) (by omega)
    have hy2 := hy1 (by omega)
    obtain ⟨r, hr1, hr2⟩ := hj (12 + y) (by omega) (by omega) a3 s3 (by omega) (by omega)
    refine ⟨r, hr1, Ev.congr (fun k => ?_) hr2⟩
    rw [e, Option.bind_some]
    simp only []
    rw [e2, Option.bind_some, if_pos rfl]
    simp only []
    rw [e3, Option.bind_some, w64 (by omega) (by omega)]
  | false =>
    obtain ⟨r, hr1, hr2⟩ := hj (1 + x) (by omega) (by omega) a2 s2 (by omega) (by omega)
    refine ⟨r, hr1, Ev.congr (fun k => ?_) hr2⟩
    rw [e, Option.bind_some]
    simp only []
    rw [e2, Option.bind_some, if_neg (by simp), w64 (by omega) (by omega)]
end
end Go.Proofs.Ytndkblahnihhjaa.Q

namespace Go.Proofs.Ytndkblahnihhjaa.Q
open Go.RowKit Go.Proofs.Ytndkblahnihhjaa.P Go.Proofs.Ytndkblahnihhjaa.H Go.Proofs.YtndkblahnihhjaaW.PrintWords
theorem specReachedOf_ev (g : List (List Int)) (hg : Small g) : ∃ (l : List Int) (ok : Bool), Ev (fun k => spec_ReachedOf.f k g) (l, ok) ∧ l.length ≤ 12 := by
  unfold spec_ReachedOf.f
  cases hG : goodG g with
  | false =>
    refine ⟨[], false, (specGoodGraph_ev g hg).bind ?_, by simp⟩
    rw [hG]
    exact ev_is fun k => by rw [if_neg (by simp)]
  | true =>
    refine ⟨listTo (reachF g 0 (-1)) 12, true, (specGoodGraph_ev g hg).bind ?_, listTo_len _ _⟩
    rw [hG]
    exact Ev.congr (fun k => by rw [if_pos rfl]) ((specReach_ev hG (-1)).bind (Ev.now _))
section
variable {code : List Int} (hc : Byt code) (hl : code.length ≤ 1048576)
include hc hl
theorem some_l0 (b ok : Bool) (l : List Int) (hll : l.length ≤ 12) : ∀ (d i : Nat) (out : List Int) (at_ sd : Int), i + d = l.length → out.length ≤ i → 0 ≤ at_ → at_ ≤ 1000 + 2 * i → ∃ r : List Int × Int × Int, (r.1.length ≤ 13 ∧ 0 ≤ r.2.1 ∧ r.2.1 ≤ 2000) ∧ Ev (fun k => spec_l1Cur_someBlocks.l0 k b ok out l (l.length : Int) (i : Int) code at_ sd) r := by
  intro d
  induction d with
  | zero =>
    intro i out at_ sd hi ho h0 h1
    have hend : ∀ (a s : Int), 0 ≤ a → a ≤ 1100 → ∃ r : List Int × Int × Int, (r.1.length ≤ 13 ∧ 0 ≤ r.2.1 ∧ r.2.1 ≤ 2000) ∧ ((spec_l1Cur_pick.f code a s 14).bind fun bt355 => (if out.length < 17592186044416 then (some ((out ++ [bt355.1]), bt355.2.1, bt355.2.2)) else (none))) = some r := by
      intro a s ha0 ha1
      obtain ⟨x, a2, s2, e2, _, _, hb1, hb2⟩ := pick_ok hc (by omega) s (14 : Int) (at_ := a) (by omega) (by omega)
      refine ⟨(out ++ [x], a2, s2), ⟨by rw [List.length_append, List.length_singleton]; omega, by show 0 ≤ a2; omega, by show a2 ≤ 2000; omega⟩, ?_⟩
      rw [e2, Option.bind_some, if_pos (by omega)]
    cases ok with
    | true =>
      obtain ⟨b1, a, s, e, ha1, ha2⟩ := one_ok hc (by omega) sd 30 h0 (by omega)
      cases b1 with
      | false =>
        refine ⟨(out, a, s), ⟨by show out.length ≤ 13; omega, by show 0 ≤ a; omega, by show a ≤ 2000; omega⟩, Ev.step (f := fun _ => some (out, a, s)) (fun k => ?_) (Ev.now _)⟩
        simp only [spec_l1Cur_someBlocks.l0]
        rw [if_neg (by omega), if_pos trivial, e, Option.bind_some, if_neg (by simp)]
      | true =>
        obtain ⟨r, hr1, hr2⟩ := hend a s (by omega) (by omega)
        refine ⟨r, hr1, Ev.step (f := fun _ => some r) (fun k => ?_) (Ev.now _)⟩
        simp only [spec_l1Cur_someBlocks.l0]
        rw [if_neg (by omega), if_pos trivial, e, Option.bind_some, if_pos rfl]
        exact hr2
    | false =>
      obtain ⟨r, hr1, hr2⟩ := hend at_ sd h0 (by omega)
      refine ⟨r, hr1, Ev.step (f := fun _ => some r) (fun k => ?_) (Ev.now _)⟩
      simp only [spec_l1Cur_someBlocks.l0]
      rw [if_neg (by omega), if_neg (by simp)]
      exact hr2
  | succ d ih =>
    intro i out at_ sd hi ho h0 h1
    obtain ⟨b1, a, s, e, ha1, ha2⟩ := one_ok hc (by omega) sd 3 h0 (by omega)
    have hw : wrap64 ((i : Int) + 1) = ((i + 1 : Nat) : Int) := w64 (by omega) (by omega)
    obtain ⟨r, hr1, hr2⟩ := ih (i + 1) (out ++ [rd l (i : Int)]) a s (by omega) (by rw [List.length_append, List.length_singleton]; omega) (by omega) (by omega)
    obtain ⟨q, hq1, hq2⟩ := ih (i + 1) out a s (by omega) (by omega) (by omega) (by omega)
    cases b1 with
    | true =>
      refine ⟨r, hr1, Ev.step (fun k => ?_) hr2⟩
      simp only [spec_l1Cur_someBlocks.l0]
      rw [if_pos (by omega), if_pos (by omega), if_pos (by omega), e, Option.bind_some, if_pos rfl, if_pos (by omega), hw]
    | false =>
      cases b with
      | true =>
        by_cases c : rd l (i : Int) = 0
        · refine ⟨r, hr1, Ev.step (fun k => ?_) hr2⟩
          simp only [spec_l1Cur_someBlocks.l0]
          rw [if_pos (by omega), if_pos (by omega), if_pos (by omega), e, Option.bind_some, if_neg (by simp), if_pos trivial, if_pos c, if_pos (by omega), hw]
        · refine ⟨q, hq1, Ev.step (fun k => ?_) hq2⟩
          simp only [spec_l1Cur_someBlocks.l0]
          rw [if_pos (by omega), if_pos (by omega), if_pos (by omega), e, Option.bind_some, if_neg (by simp), if_pos trivial, if_neg c, hw]
      | false =>
        refine ⟨q, hq1, Ev.step (fun k => ?_) hq2⟩
        simp only [spec_l1Cur_someBlocks.l0]
        rw [if_pos (by omega), if_pos (by omega), if_pos (by omega), e, Option.bind_some, if_neg (by simp), if_neg (by simp), hw]
theorem some_ev (g : List (List Int)) (hg : Small g) (b : Bool) (at_ sd : Int) (h0 : 0 ≤ at_) (h1 : at_ ≤ 1000) : ∃ r : List Int × Int × Int, (r.1.length ≤ 13 ∧ 0 ≤ r.2.1 ∧ r.2.1 ≤ 2000) ∧ Ev (fun k => spec_l1Cur_someBlocks.f k code at_ sd g b) r := by
  unfold spec_l1Cur_someBlocks.f
  obtain ⟨l, ok, h2, h3⟩ := specReachedOf_ev g hg
  obtain ⟨r, hr1, hr2⟩ := some_l0 hc hl b ok l h3 l.length 0 [] at_ sd (by omega) (by simp) h0 (by omega)
  exact ⟨r, hr1, h2.bind (f := fun k bt => spec_l1Cur_someBlocks.l0 k b bt.2 [] bt.1 (bt.1.length : Int) 0 code at_ sd) hr2⟩
theorem drawJoins_ev : ∃ (g : List (List Int)) (l : List Int), Ev (fun k => spec_DrawJoinsOf.f k code) (g, l) ∧ Small g ∧ l.length ≤ 1048576 := by
  obtain ⟨⟨g, a, s⟩, ⟨h1, h2, h3, h4⟩, h5⟩ := graph_ev hc hl
  simp only at h1 h2 h3 h4
  obtain ⟨b, a2, s2, e, ha1, ha2⟩ := one_ok hc (by omega) s 12 h3 (by omega)
  have hs := h1.small (by decide) (by decide)
  obtain ⟨⟨l, a3, s3⟩, hr1, hr2⟩ := some_ev hc hl g hs (!b) a2 s2 (by omega) (by omega)
  simp only at hr1
  refine ⟨g, l, ?_, hs, by omega⟩
  unfold spec_DrawJoinsOf.f
  refine h5.bind (f := fun k g => (spec_l1Cur_one.f code g.2.1 g.2.2 12).bind fun b => (spec_l1Cur_someBlocks.f k code b.2.1 b.2.2 g.1 (!b.1)).map fun s => (g.1, s.1)) ?_
  refine Ev.congr (fun k => ?_) (hr2.bind (f := fun _ s => some (g, s.1)) (Ev.now _))
  simp only []
  rw [e, Option.bind_some]
  cases spec_l1Cur_someBlocks.f k code a2 s2 g (!b) <;> rfl
end
end Go.Proofs.Ytndkblahnihhjaa.Q

namespace Go.Proofs.Ytndkblahnihhjaa.Q
open Go.RowKit Go.Proofs.Ytndkblahnihhjaa.P Go.Proofs.Ytndkblahnihhjaa.H Go.Proofs.YtndkblahnihhjaaW.PrintWords
theorem sameInts_ev (l : List Int) (hl : l.length ≤ 1048576) : Ev (fun k => laws_sameInts.f k l l) true := by
  unfold laws_sameInts.f
  refine Ev.congr (fun k => by rw [if_pos rfl]) ?_
  refine down0 (n := l.length) (p := fun i => Ev (fun k => laws_sameInts.l0 k l l (l.length : Int) (i : Int)) true) ?h0 ?hs
  case h0 => exact Ev.step (f := fun _ => some true) (fun k => by simp only [laws_sameInts.l0]; rw [if_neg (by omega)]) (Ev.now _)
  case hs =>
    intro i hi ih
    refine Ev.step (fun k => ?_) ih
    simp only [laws_sameInts.l0]
    rw [if_pos (by omega), if_pos (by omega), if_pos (by omega), if_pos (by omega), if_pos trivial, w64 (by omega) (by omega)]
    rfl
theorem sameLists_ev (l : List (List Int)) (hl : Small l) : Ev (fun k => laws_sameLists.f k l l) true := by
  have hlen := hl.1
  unfold laws_sameLists.f
  refine Ev.congr (fun k => by rw [if_pos rfl]) ?_
  refine down0 (n := l.length) (p := fun i => Ev (fun k => laws_sameLists.l0 k l l (l.length : Int) (i : Int)) true) ?h0 ?hs
  case h0 => exact Ev.step (f := fun _ => some true) (fun k => by simp only [laws_sameLists.l0]; rw [if_neg (by omega)]) (Ev.now _)
  case hs =>
    intro i hi ih
    have hr : rd_L1 l (i : Int) = l.getD i [] := rfl
    refine Ev.step (fun k => ?_) ((sameInts_ev (l.getD i []) (hl.at hi)).bind (f := fun k t => if t = true then laws_sameLists.l0 k l l (l.length : Int) ((i + 1 : Nat) : Int) else some false) (Ev.congr (fun k => by rw [if_pos rfl]) ih))
    simp only [laws_sameLists.l0]
    rw [if_pos (by omega), if_pos (by omega), if_pos (by omega), if_pos (by omega), hr, w64 (by omega) (by omega)]
    rfl
theorem lhas_ev (l : List Int) (x : Int) (hl : l.length ≤ 1048576) : Ev (fun k => laws_has.f k l x) (decide (x ∈ l)) := by
  unfold laws_has.f
  have key := down0 (n := l.length) (p := fun i => Ev (fun k => laws_has.l0 k x l (l.length : Int) (i : Int)) (decide (x ∈ l.drop i))) ?h0 ?hs
  · exact key
  case h0 =>
    rw [List.drop_length]
    exact Ev.step (f := fun _ => some false) (fun k => by simp only [laws_has.l0]; rw [if_neg (by omega)]) (Ev.now _)
  case hs =>
    intro i hi ih
    have hd : l.drop i = l.getD i 0 :: l.drop (i + 1) := by
      rw [List.drop_eq_getElem_cons hi, List.getD_eq_getElem?_getD, List.getElem?_eq_getElem hi]
      rfl
    have hr : rd l (i : Int) = l.getD i 0 := rfl
    by_cases c : l.getD i 0 = x
    · have e : decide (x ∈ l.drop i) = true := by rw [hd, c]; simp
      rw [e]
      refine Ev.step (f := fun _ => some true) (fun k => ?_) (Ev.now _)
      simp only [laws_has.l0]
      rw [if_pos (by omega), if_pos (by omega), if_pos (by omega), hr, if_pos c]
    · have e : decide (x ∈ l.drop i) = decide (x ∈ l.drop (i + 1)) := by
        rw [hd]
        refine decide_eq_decide.2 ?_
        rw [List.mem_cons]
        exact ⟨fun h => h.elim (fun h => absurd h.symm c) id, .inr⟩
      rw [e]
      refine Ev.step (fun k => ?_) ih
      simp only [laws_has.l0]
      rw [if_pos (by omega), if_pos (by omega), if_pos (by omega), hr, if_neg c, w64 (by omega) (by omega)]
      rfl
end Go.Proofs.Ytndkblahnihhjaa.Q

namespace Go.Proofs.Ytndkblahnihhjaa.Q
open Go.RowKit Go.Proofs.Ytndkblahnihhjaa.P Go.Proofs.Ytndkblahnihhjaa.H Go.Proofs.YtndkblahnihhjaaW.PrintWords
theorem byt_of_wf {l : List Int} (h : ∀ x ∈ l, (Lit.int .u8 x).wf = true) : Byt l := fun x hx => by
  have h1 := h x hx
  simp [Lit.wf, IntKind.min, IntKind.max, IntKind.signed, IntKind.bits] at h1
  omega
theorem owners_j5 {code : List Int} (hc : Byt code) (hl : code.length ≤ 1048576) : Ev (fun k => laws_FnOwners.j5 k code) true := by
  obtain ⟨⟨g, a, s⟩, ⟨h1, h2, h3, h4⟩, h5⟩ := graph_ev hc hl
  simp only at h1 h2 h3 h4
  have hs := h1.small (by decide) (by decide)
  obtain ⟨f1, f2, e1, e2, e3⟩ := C.frontierOf_core g hs
  obtain ⟨p1, p2, e4, e5, e6⟩ := C.predsOf_core g hs
  have hd : Ev (fun k => spec_DrawFrontierOf.f k code) g := by
    unfold spec_DrawFrontierOf.f spec_DrawGoodGraph.f
    refine (show Ev (fun k => (spec_l1Cur_graph.f k code 0 0).map (fun r => r.1)) g from ?_).bind (Ev.now _)
    refine Ev.congr (fun k => ?_) (h5.bind (f := fun _ r => some r.1) (Ev.now _))
    cases spec_l1Cur_graph.f k code 0 0 <;> rfl
  have hF := sameLists_ev f1 e3
  have hP := sameLists_ev p1 e6
  refine Ev.step (fun k => by simp only [laws_FnOwners.j5]; rfl) (hd.bind ((ev_some (x := impl_FrontierOf.f g) e2).bind (e1.bind ((ev_some (x := impl_PredsOf.f g) e5).bind (e4.bind ?_)))))
  refine Ev.congr (fun k => by rw [if_pos (by simp)]) (hF.bind ?_)
  refine Ev.congr (fun k => by rw [if_pos rfl, if_pos (by simp)]) (hP.bind ?_)
  exact Ev.now _
section
variable {g : List (List Int)} (hG : goodG g = true) {sets : List Int} (hrl : rlF g sets = true)
include hG hrl
theorem own_bits {J : List Bool} (hJ : joinsF (froL g) sets = J) : ∀ d : Nat, d < 12 → ((andF J sets).getD d false = true ↔ ((d : Int) ∈ sets ∨ Jn (froL g) sets (d : Int))) := by
  have hn := goodG_rows hG
  have hrn := B.rl_rng hrl
  have hln := B.rl_len12 hn.1.2 hrl
  have hrn' : ∀ y ∈ sets, 0 ≤ y ∧ y < 12 := fun y hy => ⟨(hrn y hy).1, by have := (hrn y hy).2; omega⟩
  intro d hd
  have hjl := (joins_some (fl := froL g) (l := sets) (froL_row12 hn.1.2) hrn' hln).2.len
  rw [hJ] at hjl
  have hji := joins_iff (fl := froL g) (l := sets) (froL_row12 hn.1.2) hrn' hln hd
  rw [hJ] at hji
  rw [andF_get sets J d (by omega) (fun y hy => (hrn y hy).1), hji]
  exact ⟨fun h => h.symm, fun h => h.symm⟩
theorem owners_l1 {code : List Int} {O : List Bool} {o j : List Int} (ho : o = ownTo (domF g) O g.length g.length) (hO : ∀ d : Nat, d < 12 → (O.getD d false = true ↔ ((d : Int) ∈ sets ∨ Jn (froL g) sets (d : Int)))) {kk i : Nat} (hk : kk < g.length) (hno : O.getD kk false = false) {r : List Int} (hnext : Ev (fun k => laws_FnOwners.l0 k code sets o j (prdL g) r (r.length : Int) ((i + 1 : Nat) : Int)) true) (hi : i < 1000) :
    Ev (fun k => laws_FnOwners.l1 k code sets o j (prdL g) (kk : Int) r (r.length : Int) (i : Int) ((prdL g).getD kk []) (((prdL g).getD kk []).length : Int) 0) true := by
  have hn := goodG_rows hG
  have hpl := prdL_len12 (g := g) kk
  have hol : o.length = g.length := by rw [ho, ownTo_len]
  have hat : ∀ t : Nat, t < g.length → rd o (t : Int) = ownB (domF g) O t := by
    intro t ht
    show o.getD t 0 = _
    rw [ho]
    unfold ownTo
    rw [List.getD_eq_getElem?_getD, List.getElem?_map, List.getElem?_range ht, Option.map_some, if_pos ht]
    rfl
  generalize hpr : (prdL g).getD kk [] = row at hpl ⊢
  refine down0 (n := row.length) (p := fun m => Ev (fun k => laws_FnOwners.l1 k code sets o j (prdL g) (kk : Int) r (r.length : Int) (i : Int) row (row.length : Int) (m : Int)) true) ?h0 ?hs
  case h0 =>
    refine Ev.step (fun k => ?_) hnext
    simp only [laws_FnOwners.l1]
    rw [if_neg (by omega), w64 (by omega) (by omega)]
    rfl
  case hs =>
    intro m hm ih
    have hmem : row.getD m 0 ∈ row := by rw [List.getD_eq_getElem?_getD, List.getElem?_eq_getElem hm]; exact List.getElem_mem _
    rw [← hpr] at hmem
    have hxr := prdL_rng g hk hmem
    rw [hpr] at hmem
    obtain ⟨x, hx⟩ : ∃ x : Nat, row.getD m 0 = (x : Int) := ⟨(row.getD m 0).toNat, by rw [hpr] at hxr; omega⟩
    rw [hpr, hx] at hxr
    have hrd : rd row (m : Int) = (x : Int) := hx
    have heq := own_pred hG hO hk hno (x := x) (by rw [hpr, ← hx]; exact hmem)
    refine Ev.step (fun k => ?_) ih
    simp only [laws_FnOwners.l1]
    rw [if_pos (by omega), if_pos (by omega), if_pos (by omega), hrd, if_pos (by omega), if_pos (by omega), if_pos (by omega), if_pos (by omega), hat x (by omega), hat kk hk, if_pos heq, w64 (by omega) (by omega)]
    rfl
theorem owners_l0 {code : List Int} (hj5 : Ev (fun k => laws_FnOwners.j5 k code) true) {J : List Bool} (hJ : joinsF (froL g) sets = J) {o : List Int} (ho : o = ownTo (domF g) (andF J sets) g.length g.length) :
    Ev (fun k => laws_FnOwners.l0 k code sets o (listTo J 12) (prdL g) (listTo (reachF g 0 (-1)) 12) ((listTo (reachF g 0 (-1)) 12).length : Int) 0) true := by
  have hn := goodG_rows hG
  have hO := own_bits hG hrl hJ
  have hrn := B.rl_rng hrl
  have hln := B.rl_len12 hn.1.2 hrl
  have hol : o.length = g.length := by rw [ho, ownTo_len]
  have hat : ∀ t : Nat, t < g.length → rd o (t : Int) = ownB (domF g) (andF J sets) t := by
    intro t ht
    show o.getD t 0 = _
    rw [ho]
    unfold ownTo
    rw [List.getD_eq_getElem?_getD, List.getElem?_map, List.getElem?_range ht, Option.map_some, if_pos ht]
    rfl
  have hin : ∀ y ∈ listTo (reachF g 0 (-1)) 12, Rch g (-1) 0 y := fun y hy => (listTo_reach hG y).1 hy
  have hrl12 := listTo_len (reachF g 0 (-1)) 12
  have hjl12 := listTo_len J 12
  have hJm : ∀ d : Nat, d < 12 → ((d : Int) ∈ listTo J 12 ↔ Jn (froL g) sets (d : Int)) := by
    intro d hd
    have hji := joins_iff (fl := froL g) (l := sets) (froL_row12 hn.1.2) (fun y hy => ⟨(hrn y hy).1, by have := (hrn y hy).2; omega⟩) hln hd
    rw [hJ] at hji
    rw [← hji, listTo_mem]
    exact ⟨fun ⟨i, _, e, h⟩ => by rwa [show d = i by omega], fun h => ⟨d, hd, rfl, h⟩⟩
  generalize listTo (reachF g 0 (-1)) 12 = r at hin hrl12 ⊢
  generalize andF J sets = O at ho hO hat
  refine down0 (n := r.length) (p := fun i => Ev (fun k => laws_FnOwners.l0 k code sets o (listTo J 12) (prdL g) r (r.length : Int) (i : Int)) true) ?h0 ?hs
  case h0 =>
    refine Ev.step (fun k => ?_) hj5
    simp only [laws_FnOwners.l0]
    rw [if_neg (by omega)]
  case hs =>
    intro i hi ih
    have hmem : r.getD i 0 ∈ r := by rw [List.getD_eq_getElem?_getD, List.getElem?_eq_getElem hi]; exact List.getElem_mem _
    have hr := hin _ hmem
    have hkr := hr.rng hG (by decide) (by omega)
    obtain ⟨kk, hk⟩ : ∃ x : Nat, r.getD i 0 = (x : Int) := ⟨(r.getD i 0).toNat, by omega⟩
    rw [hk] at hr hkr
    have hrd : rd r (i : Int) = (kk : Int) := hk
    have hw : wrap64 ((i : Int) + 1) = ((i + 1 : Nat) : Int) := w64 (by omega) (by omega)
    have hin3 : ∀ b : Bool, (b = true ↔ O.getD kk false = true) → Ev (fun k => laws_FnOwners.j3 k code sets o (listTo J 12) (prdL g) (kk : Int) r (r.length : Int) (i : Int) b) true := by
      intro b hb
      cases b with
      | true =>
        have hs := own_self hG hr (hb.1 rfl)
        refine Ev.step (fun k => ?_) ih
        simp only [laws_FnOwners.j3]
        rw [if_pos trivial, if_pos (by omega), if_pos (by omega), hat kk (by omega), if_pos hs, hw]
      | false =>
        have hno : O.getD kk false = false := by
          cases h : O.getD kk false with
          | false => rfl
          | true => exact absurd (hb.2 h) (by simp)
        have hpl := prdL_length g
        refine Ev.step (fun k => ?_) (owners_l1 hG hrl ho hO (kk := kk) (i := i) (by omega) hno ih (by omega))
        simp only [laws_FnOwners.j3]
        rw [if_neg (by simp), if_pos (by omega), if_pos (by omega)]
        rfl
    have h1 := lhas_ev sets (kk : Int) (by omega)
    have h2 := lhas_ev (listTo J 12) (kk : Int) (by omega)
    have hOk := hO kk (by omega)
    have hJk := hJm kk (by omega)
    cases c1 : decide ((kk : Int) ∈ sets) with
    | true =>
      rw [c1] at h1
      refine Ev.step (fun k => ?_) (h1.bind (f := fun k t => if t = true then laws_FnOwners.j3 k code sets o (listTo J 12) (prdL g) (kk : Int) r (r.length : Int) (i : Int) true else (laws_has.f k (listTo J 12) (kk : Int)).bind fun t2 => laws_FnOwners.j3 k code sets o (listTo J 12) (prdL g) (kk : Int) r (r.length : Int) (i : Int) t2) (Ev.congr (fun k => by rw [if_pos rfl]) (hin3 true ⟨fun _ => hOk.2 (.inl (of_decide_eq_true c1)), fun _ => rfl⟩)))
      simp only [laws_FnOwners.l0]
      rw [if_pos (by omega), if_pos (by omega), if_pos (by omega), hrd]
    | false =>
      rw [c1] at h1
      refine Ev.step (fun k => ?_) (h1.bind (f := fun k t => if t = true then laws_FnOwners.j3 k code sets o (listTo J 12) (prdL g) (kk : Int) r (r.length : Int) (i : Int) true else (laws_has.f k (listTo J 12) (kk : Int)).bind fun t2 => laws_FnOwners.j3 k code sets o (listTo J 12) (prdL g) (kk : Int) r (r.length : Int) (i : Int) t2) (Ev.congr (fun k => by rw [if_neg (by simp)]) (h2.bind (f := fun k t2 => laws_FnOwners.j3 k code sets o (listTo J 12) (prdL g) (kk : Int) r (r.length : Int) (i : Int) t2) (hin3 _ ?_))))
      · simp only [laws_FnOwners.l0]
        rw [if_pos (by omega), if_pos (by omega), if_pos (by omega), hrd]
      · rw [hOk, decide_eq_true_eq, hJk]
        exact ⟨.inr, fun h => h.elim (fun h => absurd h (of_decide_eq_false c1)) id⟩
end
theorem fnOwners_pure : laws_FnOwners.Pure := by
  intro code more hc1 _ hc2 hm1 _ hm2
  apply Ev.rounds
  unfold laws_FnOwners.f
  have hx1 : code.length ≤ 9223372036854775807 := by unfold maxLen at hc1; omega
  have hx2 : more.length ≤ 9223372036854775807 := by unfold maxLen at hm1; omega
  by_cases hw : wrap64 ((code.length : Int) + (more.length : Int)) > 1048576
  · exact Ev.congr (fun k => by rw [if_pos hw]) (Ev.now _)
  refine Ev.congr (fun k => by rw [if_neg hw]) ?_
  have hws : wrap64 ((code.length : Int) + (more.length : Int)) = (code.length : Int) + (more.length : Int) := w64 (by omega) (by omega)
  rw [hws] at hw
  have hb1 := byt_of_wf hc2
  have hb2 := byt_of_wf hm2
  obtain ⟨g, sets, hd, hs, hsl⟩ := drawJoins_ev hb1 (by omega)
  have hdo : Ev (fun k => spec_DrawOwnerAt.f k code) (g, sets) := by
    unfold spec_DrawOwnerAt.f
    exact hd.bind (Ev.now _)
  obtain ⟨o1, o2, e1, e2, e3⟩ := ownerAt_core g sets hs hsl
  obtain ⟨j1, j2, e4, e5, e6, e7⟩ := joinsOf_core g sets hs hsl
  have hj5 := owners_j5 hb2 (by omega)
  refine hdo.bind ((ev_some (x := impl_OwnerAt.f g sets) e2).bind (e1.bind ((ev_some (x := impl_JoinsOf.f g sets) e5).bind (e4.bind ?_))))
  refine Ev.congr (fun k => by rw [if_neg (by simp)]) ((sameInts_ev o1 e3).bind ?_)
  refine Ev.congr (fun k => by rw [if_pos rfl, if_neg (by simp)]) ((sameInts_ev j1 e6).bind ?_)
  unfold impl_OwnerAt.f at e2
  unfold impl_JoinsOf.f at e5
  cases hsb : setsB g sets with
  | false =>
    rw [hsb, if_neg (by simp)] at e2
    simp only [Option.some.injEq, Prod.mk.injEq] at e2
    obtain ⟨rfl, rfl⟩ := e2
    refine Ev.step (fun k => ?_) hj5
    simp only [laws_FnOwners.j0]
    rw [if_neg (by simp), if_neg (by simp)]
  | true =>
    rw [hsb, if_pos rfl] at e2 e5
    simp only [Option.some.injEq, Prod.mk.injEq] at e2 e5
    obtain ⟨rfl, rfl⟩ := e2
    obtain ⟨rfl, rfl⟩ := e5
    have hs2 := hsb
    unfold setsB at hs2
    rw [Bool.and_eq_true, Bool.and_eq_true] at hs2
    have hG := hs2.1
    have hp : impl_PredsOf.f g = some (prdL g, true) := by unfold impl_PredsOf.f; rw [hG, if_pos rfl]; rfl
    have hr : impl_ReachedOf.f g = some (listTo (reachF g 0 (-1)) 12, true) := by unfold impl_ReachedOf.f; rw [hG, if_pos rfl]
    have hl0 := owners_l0 hG hs2.2.1 hj5 (J := joinsF (froL g) sets) rfl rfl
    have hj1 : Ev (fun k => laws_FnOwners.j1 k more sets (ownTo (domF g) (andF (joinsF (froL g) sets) sets) g.length g.length) (listTo (joinsF (froL g) sets) 12) (prdL g) (listTo (reachF g 0 (-1)) 12) false) true := Ev.step (fun k => by simp only [laws_FnOwners.j1]; rw [if_neg (by simp)]) hl0
    refine Ev.step (fun k => ?_) hj1
    simp only [laws_FnOwners.j0]
    rw [if_neg (by simp), if_pos trivial, hp, Option.bind_some, hr, Option.bind_some, if_pos rfl]
    rfl
end Go.Proofs.Ytndkblahnihhjaa.Q

namespace Go.Proofs.Ytndkblahnihhjaa.Pure
theorem FnOwners : P.laws_FnOwners.Pure := Q.fnOwners_pure
end Go.Proofs.Ytndkblahnihhjaa.Pure

namespace Go.Proofs.YtndkblahnihhjaaW.PrintWords
open Go.ChangeShapes Go.WideShapes
theorem sized_ints {H : Type} {enc : TypeId × Value → H} {P : Program} {W : World} {base : Nat} {spare : Nat → Bool} {held : Bool} {t e : TypeId} {k : IntKind} {a : Option Addr} {len cap : Nat} {d : DataW H} {ps : List MemPlace} {ts : List TypeId} {ds : List (DataW H)} {j : Nat}
    (hsz : (DataW.weightsEach P ts ds).all (· ≤ reachBytes) = true) (ht : ts[j]? = some t) (hd : ds[j]? = some d) (hu : P.underlying t = some (.slice e)) (he : P.underlying e = some (.int k)) (hc : P.cellsOf e = 1) {B : Nat} (hB : P.bytesOf e = B)
    (h : DataW.Trod enc P W base spare held t (.slice a len cap) d ps) : len * B ≤ 140737488351232 := by
  obtain ⟨fuel, hf⟩ := h
  rcases open_ints hu he hc hf with ⟨hcs, _⟩ | ⟨x, l, c, zs, hcs, _, hl, _, hz, hx, _, _⟩
  · simp [Value.cells] at hcs
    obtain ⟨rfl, rfl, rfl⟩ := hcs
    simp
  · simp [Value.cells] at hcs
    obtain ⟨rfl, rfl, rfl⟩ := hcs
    obtain ⟨hx, _⟩ := Prod.mk.inj hx
    subst hx
    have z := sized_slice hsz ht hd hu
    rw [hB] at z
    have hl2 : len ≤ zs.length := by
      rw [hz]
      split
      · exact hl
      · exact Nat.le_refl _
    have h1 : (lits (H := H) k (zs.take len)).length + (lits (H := H) k (zs.drop len)).length = zs.length := by
      simp [lits]
      omega
    rw [h1] at z
    exact Nat.le_trans (Nat.mul_le_mul_right _ hl2) z
end Go.Proofs.YtndkblahnihhjaaW.PrintWords

