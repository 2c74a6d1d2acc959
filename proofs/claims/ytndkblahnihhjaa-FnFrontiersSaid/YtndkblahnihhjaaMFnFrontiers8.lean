import Derived.Laws.Bits64b
import Derived.SizedLaws
import Derived.ChangeSlices
import Derived.Test.YtndkblahnihhjaaMFnFrontiers1
import Derived.Test.YtndkblahnihhjaaMFnFrontiers2
import Derived.Test.YtndkblahnihhjaaMFnFrontiers3
import Derived.Test.YtndkblahnihhjaaMFnFrontiers4
import Derived.Test.YtndkblahnihhjaaMFnFrontiers5
import Derived.Test.YtndkblahnihhjaaMFnFrontiers6
import Derived.Test.YtndkblahnihhjaaMFnFrontiers7
set_option linter.unusedVariables false
set_option linter.unusedSimpArgs false
set_option linter.unusedSectionVars false
namespace Go.Proofs.Ytndkblahnihhjaa.Q
open Go.RowKit Go.Proofs.Ytndkblahnihhjaa.P Go.Proofs.Ytndkblahnihhjaa.H Go.Proofs.YtndkblahnihhjaaW.PrintWords
theorem low_byte {n : Int} (h0 : 0 ≤ n) (h1 : n < 18446744073709551616) : 0 ≤ Go.bits .and .u64 n 255 ∧ Go.bits .and .u64 n 255 < 256 := by
  have h := bits_and_u64_nat n.toNat 255 (by omega) (by omega)
  rw [Int.toNat_of_nonneg h0] at h
  have h2 : n.toNat &&& 255 ≤ 255 := Nat.and_le_right
  have h3 : Go.bits .and .u64 n 255 = ((n.toNat &&& 255 : Nat) : Int) := h
  rw [h3]
  omega
theorem drawn_byte (n : Int) : ∃ x, wrap64 (Go.bits .and .u64 (IntKind.u64.wrap n / 1099511627776) 255) = x ∧ 0 ≤ x ∧ x < 256 := by
  have hw := IntKind.wrap_u64 n
  have h := low_byte (n := IntKind.u64.wrap n / 1099511627776) (by omega) (by omega)
  refine ⟨_, rfl, ?_⟩
  rw [w64 (by omega) (by omega)]
  exact h
def Byt (l : List Int) : Prop := ∀ x ∈ l, 0 ≤ x ∧ x < 256
theorem next_ok {code : List Int} (hc : Byt code) (hl : code.length ≤ 4611686018427387904) {at_ : Int} (sd : Int) (h0 : 0 ≤ at_) (h1 : at_ ≤ 4611686018427387904) : ∃ x sd', spec_l1Cur_next.f code at_ sd = some (x, at_ + 1, sd') ∧ 0 ≤ x ∧ x < 256 := by
  unfold spec_l1Cur_next.f
  have hw : wrap64 (at_ + 1) = at_ + 1 := w64 (by omega) (by omega)
  by_cases c : at_ < (code.length : Int)
  · rw [if_pos c, if_pos h0, hw, if_pos (by omega)]
    have hr : rd code at_ = code.getD at_.toNat 0 := rfl
    have hx := hc _ (show code.getD at_.toNat 0 ∈ code by rw [List.getD_eq_getElem?_getD, List.getElem?_eq_getElem (by omega)]; exact List.getElem_mem _)
    exact ⟨_, _, rfl, by rw [hr, w64 (by omega) (by omega)]; exact hx.1, by rw [hr, w64 (by omega) (by omega)]; exact hx.2⟩
  · rw [if_neg c, hw]
    by_cases c2 : at_ + 1 ≤ (code.length : Int)
    · rw [if_pos c2]
      exact ⟨_, _, rfl, by omega, by omega⟩
    · rw [if_neg c2]
      obtain ⟨x, hx, h2⟩ := drawn_byte (IntKind.u64.wrap (IntKind.u64.wrap (sd * 6364136223846793005) + 0) + 1442695040888963407)
      exact ⟨_, _, rfl, by rw [hx]; exact h2.1, by rw [hx]; exact h2.2⟩
theorem pick_ok {code : List Int} (hc : Byt code) (hl : code.length ≤ 4611686018427387904) {at_ : Int} (sd n : Int) (h0 : 0 ≤ at_) (h1 : at_ + 2 ≤ 4611686018427387904) : ∃ x at' sd', spec_l1Cur_pick.f code at_ sd n = some (x, at', sd') ∧ 0 ≤ x ∧ (1 ≤ n → x < n) ∧ at_ ≤ at' ∧ at' ≤ at_ + 2 := by
  unfold spec_l1Cur_pick.f
  by_cases c : n ≤ 1
  · rw [if_pos c]
    exact ⟨0, at_, sd, rfl, by omega, fun _ => by omega, by omega, by omega⟩
  · rw [if_neg c]
    obtain ⟨x, sd1, e, hx0, hx1⟩ := next_ok hc hl sd h0 (by omega)
    rw [e, Option.bind_some]
    by_cases c2 : n > 200
    · obtain ⟨y, sd2, e2, hy0, hy1⟩ := next_ok hc hl sd1 (at_ := at_ + 1) (by omega) (by omega)
      simp only []
      rw [if_pos c2, e2, Option.bind_some]
      simp only []
      rw [if_neg (by omega)]
      have hw : wrap64 (x * 256) = x * 256 := w64 (by omega) (by omega)
      have hw2 : wrap64 (wrap64 (x * 256) + y) = x * 256 + y := by rw [hw]; exact w64 (by omega) (by omega)
      have hm : Int.tmod (x * 256 + y) n = (x * 256 + y) % n := Int.tmod_eq_emod_of_nonneg (by omega)
      have hm0 := Int.emod_nonneg (x * 256 + y) (show n ≠ 0 by omega)
      have hm1 := Int.emod_lt_of_pos (x * 256 + y) (show 0 < n by omega)
      exact ⟨_, _, _, rfl, by rw [hw2, hm]; exact hm0, fun _ => by rw [hw2, hm]; exact hm1, by omega, by omega⟩
    · simp only []
      rw [if_neg c2, if_neg (by omega)]
      have hm : Int.tmod x n = x % n := Int.tmod_eq_emod_of_nonneg hx0
      have hm0 := Int.emod_nonneg x (show n ≠ 0 by omega)
      have hm1 := Int.emod_lt_of_pos x (show 0 < n by omega)
      exact ⟨_, _, _, rfl, by rw [hm]; exact hm0, fun _ => by rw [hm]; exact hm1, by omega, by omega⟩
theorem one_ok {code : List Int} (hc : Byt code) (hl : code.length ≤ 4611686018427387904) {at_ : Int} (sd n : Int) (h0 : 0 ≤ at_) (h1 : at_ + 2 ≤ 4611686018427387904) : ∃ x at' sd', spec_l1Cur_one.f code at_ sd n = some (x, at', sd') ∧ at_ ≤ at' ∧ at' ≤ at_ + 2 := by
  unfold spec_l1Cur_one.f
  obtain ⟨x, a, s, e, _, _, h3, h4⟩ := pick_ok hc hl sd n h0 h1
  rw [e, Option.bind_some]
  exact ⟨_, a, s, rfl, h3, h4⟩
structure Fair (n m : Nat) (g : List (List Int)) : Prop where
  len : g.length ≤ n
  row : ∀ r ∈ g, r.length ≤ m
theorem Fair.small {n m : Nat} {g : List (List Int)} (h : Fair n m g) (hn : n ≤ 1048576) (hm : m ≤ 1048576) : Small g := ⟨Nat.le_trans h.len hn, fun r hr => Nat.le_trans (h.row r hr) hm⟩
def Drw (r : List (List Int) × Int × Int) : Prop := Fair 13 5 r.1 ∧ 1 ≤ r.1.length ∧ 0 ≤ r.2.1 ∧ r.2.1 ≤ 200
section
variable {code : List Int} (hc : Byt code) (hl : code.length ≤ 1048576) {n : Int}
include hc hl
theorem graph_l1 {K : Int} (kk : Int) (g : List (List Int)) (hgl : g.length ≤ 13) (cont : ∀ (row : List Int) (at_ sd : Int), row.length ≤ 4 → 0 ≤ at_ → at_ ≤ K + 4 → ∃ r, Drw r ∧ Ev (fun k => spec_l1Cur_graph.l0 k n (wrap64 (kk + 1)) code at_ sd (g ++ [row])) r) (hK : K ≤ 1048576) :
    ∀ (m : Nat) (row : List Int) (at_ sd : Int), m ≤ 2 → row.length + m ≤ 4 → 0 ≤ at_ → at_ + 2 * m ≤ K + 4 → ∃ r, Drw r ∧ Ev (fun k => spec_l1Cur_graph.l1 k n kk row (m : Int) code at_ sd g) r := by
  intro m
  induction m with
  | zero =>
    intro row at_ sd _ hr h0 h1
    obtain ⟨r, hr1, hr2⟩ := cont row at_ sd (by omega) h0 (by omega)
    refine ⟨r, hr1, Ev.step (fun k => ?_) hr2⟩
    simp only [spec_l1Cur_graph.l1]
    rw [if_neg (by omega), if_pos (by omega)]
  | succ m ih =>
    intro row at_ sd hm hr h0 h1
    obtain ⟨x, a, s, e, _, _, ha1, ha2⟩ := pick_ok hc (by omega) sd n h0 (by omega)
    have hp := putL_len x row
    obtain ⟨r, hr1, hr2⟩ := ih (putL row x) a s (by omega) (by omega) (by omega) (by omega)
    refine ⟨r, hr1, Ev.step (fun k => ?_) ((put_ev row x (by omega)).bind (f := fun k t => spec_l1Cur_graph.l1 k n kk t (m : Int) code a s g) hr2)⟩
    simp only [spec_l1Cur_graph.l1]
    rw [if_pos (by omega), e, Option.bind_some, w64 (by omega) (by omega), show ((m + 1 : Nat) : Int) - 1 = (m : Int) by omega]
theorem graph_j3 {i : Nat} (hi : (i : Int) < n) (hn2 : n ≤ 13) (g : List (List Int)) (hg : g.length = i) (hf : Fair 13 4 g) {B : Int} (hB : B ≤ 1000) (cont : ∀ (row : List Int) (at_ sd : Int), row.length ≤ 4 → 0 ≤ at_ → at_ ≤ B + 6 → ∃ r, Drw r ∧ Ev (fun k => spec_l1Cur_graph.l0 k n ((i + 1 : Nat) : Int) code at_ sd (g ++ [row])) r) (row : List Int) (hr : row.length ≤ 1) (at_ sd : Int) (h0 : 0 ≤ at_) (h1 : at_ ≤ B) :
    ∃ r, Drw r ∧ Ev (fun k => spec_l1Cur_graph.j3 k n (i : Int) row code at_ sd g) r := by
  obtain ⟨x, a, s, e, hx0, hx1, ha1, ha2⟩ := pick_ok hc (by omega) sd (3 : Int) h0 (by omega)
  have hx3 := hx1 (by omega)
  obtain ⟨m, rfl⟩ : ∃ m : Nat, x = (m : Int) := ⟨x.toNat, by omega⟩
  have hw : wrap64 ((i : Int) + 1) = ((i + 1 : Nat) : Int) := w64 (by omega) (by omega)
  obtain ⟨r, hr1, hr2⟩ := graph_l1 hc hl (n := n) (K := B + 2) (i : Int) g (by omega) (fun row at_ sd h1 h2 h3 => by
    rw [hw]
    exact cont row at_ sd h1 h2 (by omega)) (by omega) m row a s (by omega) (by omega) (by omega) (by omega)
  refine ⟨r, hr1, Ev.step (fun k => ?_) hr2⟩
  simp only [spec_l1Cur_graph.j3]
  rw [e, Option.bind_some]
theorem graph_l0 (hn1 : 1 ≤ n) (hn2 : n ≤ 13) : ∀ (d i : Nat) (g : List (List Int)) (at_ sd : Int), (i : Int) + d = n → g.length = i → Fair 13 4 g → 0 ≤ at_ → at_ ≤ 10 + 10 * i → ∃ r, Drw r ∧ Ev (fun k => spec_l1Cur_graph.l0 k n (i : Int) code at_ sd g) r := by
  intro d
  induction d with
  | zero =>
    intro i g at_ sd hi hg hf h0 h1
    obtain ⟨b, a, s, e, ha1, ha2⟩ := one_ok hc (by omega) sd 30 h0 (by omega)
    cases b with
    | false =>
      refine ⟨(g, a, s), ⟨⟨hf.len, fun r hr => Nat.le_trans (hf.row r hr) (by decide)⟩, by show 1 ≤ g.length; omega, by show 0 ≤ a; omega, by show a ≤ 200; omega⟩, Ev.step (f := fun _ => some (g, a, s)) (fun k => ?_) (Ev.now _)⟩
      simp only [spec_l1Cur_graph.l0]
      rw [if_neg (by omega), e, Option.bind_some, if_neg (by simp)]
    | true =>
      obtain ⟨x, a2, s2, e2, hx0, hx1, hb1, hb2⟩ := pick_ok hc (by omega) s (3 : Int) (at_ := a) (by omega) (by omega)
      have hx3 := hx1 (by omega)
      have hrow : rd_L1 g 0 = g.getD 0 [] := rfl
      have hmem : g.getD 0 [] ∈ g := by rw [List.getD_eq_getElem?_getD, List.getElem?_eq_getElem (by omega)]; exact List.getElem_mem _
      have hr4 := hf.row _ hmem
      have hal : spec_l1Cur_among.f code a s [-1, 0, n] = some (rd [-1, 0, n] x, a2, s2) := by
        unfold spec_l1Cur_among.f
        show (spec_l1Cur_pick.f code a s 3).bind _ = _
        rw [e2, Option.bind_some]
        simp only []
        rw [if_pos hx0]
        exact if_pos hx3
      refine ⟨(g.set (0 : Int).toNat (g.getD 0 [] ++ [rd [-1, 0, n] x]), a2, s2), ⟨⟨by rw [List.length_set]; exact hf.len, fun r hr => ?_⟩, by rw [List.length_set]; omega, by show 0 ≤ a2; omega, by show a2 ≤ 200; omega⟩, Ev.step (f := fun _ => some (g.set (0 : Int).toNat (g.getD 0 [] ++ [rd [-1, 0, n] x]), a2, s2)) (fun k => ?_) (Ev.now _)⟩
      · rcases List.mem_or_eq_of_mem_set hr with hr | rfl
        · exact Nat.le_trans (hf.row r hr) (by decide)
        · rw [List.length_append, List.length_singleton]; omega
      · simp only [spec_l1Cur_graph.l0]
        rw [if_neg (by omega), e, Option.bind_some, if_pos rfl, if_pos (by omega), hal, Option.bind_some, hrow, if_pos (by omega)]
  | succ d ih =>
    intro i g at_ sd hi hg hf h0 h1
    have hw : wrap64 ((i : Int) + 1) = ((i + 1 : Nat) : Int) := w64 (by omega) (by omega)
    have hcont : ∀ (row : List Int) (at_ sd : Int), row.length ≤ 4 → 0 ≤ at_ → at_ ≤ 14 + 10 * (i : Int) + 6 → ∃ r, Drw r ∧ Ev (fun k => spec_l1Cur_graph.l0 k n ((i + 1 : Nat) : Int) code at_ sd (g ++ [row])) r := by
      intro row at_ sd hr h0 h1
      refine ih (i + 1) (g ++ [row]) at_ sd (by omega) (by rw [List.length_append, List.length_singleton]; omega) ⟨by rw [List.length_append, List.length_singleton]; omega, fun r hr' => ?_⟩ h0 (by omega)
      rcases List.mem_append.1 hr' with h | h
      · exact hf.row r h
      · rw [List.mem_singleton.1 h]; exact hr
    have hj3 := fun row hr at_ sd h0 h1 => graph_j3 hc hl (n := n) (i := i) (by omega) hn2 g hg hf (B := 14 + 10 * (i : Int)) (by omega) hcont row hr at_ sd h0 h1
    have hj2 : ∀ (b : Bool) (at_ sd : Int), 0 ≤ at_ → at_ ≤ 14 + 10 * (i : Int) → ∃ r, Drw r ∧ Ev (fun k => spec_l1Cur_graph.j2 k n (i : Int) [] b code at_ sd g) r := by
      intro b at_ sd h0 h1
      cases b with
      | false =>
        obtain ⟨r, hr1, hr2⟩ := hj3 [] (by simp) at_ sd h0 h1
        exact ⟨r, hr1, Ev.step (fun k => by simp only [spec_l1Cur_graph.j2]; rw [if_neg (by simp)]) hr2⟩
      | true =>
        have hp := putL_len ((i + 1 : Nat) : Int) []
        obtain ⟨r, hr1, hr2⟩ := hj3 (putL [] ((i + 1 : Nat) : Int)) (by simpa using hp) at_ sd h0 h1
        refine ⟨r, hr1, Ev.step (fun k => ?_) ((put_ev [] ((i + 1 : Nat) : Int) (by simp)).bind (f := fun k t => spec_l1Cur_graph.j3 k n (i : Int) t code at_ sd g) hr2)⟩
        simp only [spec_l1Cur_graph.j2]
        rw [if_pos trivial, hw]
    by_cases c : ((i + 1 : Nat) : Int) < n
    · obtain ⟨b, a, s, e, ha1, ha2⟩ := one_ok hc (by omega) sd 4 h0 (by omega)
      obtain ⟨r, hr1, hr2⟩ := hj2 (!b) a s (by omega) (by omega)
      refine ⟨r, hr1, Ev.step (fun k => ?_) hr2⟩
      simp only [spec_l1Cur_graph.l0]
      rw [if_pos (by omega), hw, if_pos c, e, Option.bind_some]
    · obtain ⟨r, hr1, hr2⟩ := hj2 false at_ sd h0 (by omega)
      refine ⟨r, hr1, Ev.step (fun k => ?_) hr2⟩
      simp only [spec_l1Cur_graph.l0]
      rw [if_pos (by omega), hw, if_neg c]
theorem graph_ev : ∃ r, Drw r ∧ Ev (fun k => spec_l1Cur_graph.f k code 0 0) r := by
  unfold spec_l1Cur_graph.f
  obtain ⟨x, a, s, e, hx0, hx1, ha1, ha2⟩ := pick_ok hc (by omega) 0 (7 : Int) (at_ := 0) (by omega) (by omega)
  have hx7 := hx1 (by omega)
  obtain ⟨b, a2, s2, e2, hb1, hb2⟩ := one_ok hc (by omega) s 20 (at_ := a) (by omega) (by omega)
  have hj : ∀ (n : Int), 1 ≤ n → n ≤ 13 → ∀ at_ sd, 0 ≤ at_ → at_ ≤ 10 → ∃ r, Drw r ∧ Ev (fun k => spec_l1Cur_graph.j0 k n code at_ sd) r := by
    intro n hn1 hn2 at_ sd h0 h1
    obtain ⟨r, hr1, hr2⟩ := graph_l0 hc hl hn1 hn2 n.toNat 0 [] at_ sd (by omega) rfl ⟨by simp, fun r hr => by simp at hr⟩ h0 (by omega)
    exact ⟨r, hr1, Ev.step (fun k => by simp only [spec_l1Cur_graph.j0]; rfl) hr2⟩
  cases b with
  | true =>
    obtain ⟨y, a3, s3, e3, hy0, hy1, hc1, hc2⟩ := pick_ok hc (by omega) s2 (2 : Int) (at_ := a2) (by omega) (by omega)
    have hy2 := hy1 (by omega)
    obtain ⟨r, hr1, hr2⟩ := hj (12 + y) (by omega) (by omega) a3 s3 (by omega) (by omega)
    refine ⟨r, hr1, Ev.congr (fun k => ?_) hr2⟩
    rw [e, Option.bind_some]
    simp only []
    rw [e2, Option.bind_some, if_pos rfl]
    simp only []
    rw [e3, Option.bind_some, w64 (by omega) (by omega)]
  | false =>
    obtain ⟨r, hr1, hr2⟩ := hj (1 + x) (by omega) (by omega) a2 s2 (by omega) (by omega)
    refine ⟨r, hr1, Ev.congr (fun k => ?_) hr2⟩
    rw [e, Option.bind_some]
    simp only []
    rw [e2, Option.bind_some, if_neg (by simp), w64 (by omega) (by omega)]
end
end Go.Proofs.Ytndkblahnihhjaa.Q

namespace Go.Proofs.Ytndkblahnihhjaa.Q
open Go.RowKit Go.Proofs.Ytndkblahnihhjaa.P Go.Proofs.Ytndkblahnihhjaa.H Go.Proofs.YtndkblahnihhjaaW.PrintWords
theorem specReachedOf_ev (g : List (List Int)) (hg : Small g) : ∃ (l : List Int) (ok : Bool), Ev (fun k => spec_ReachedOf.f k g) (l, ok) ∧ l.length ≤ 12 := by
  unfold spec_ReachedOf.f
  cases hG : goodG g with
  | false =>
    refine ⟨[], false, (specGoodGraph_ev g hg).bind ?_, by simp⟩
    rw [hG]
    exact ev_is fun k => by rw [if_neg (by simp)]
  | true =>
    refine ⟨listTo (reachF g 0 (-1)) 12, true, (specGoodGraph_ev g hg).bind ?_, listTo_len _ _⟩
    rw [hG]
    exact Ev.congr (fun k => by rw [if_pos rfl]) ((specReach_ev hG (-1)).bind (Ev.now _))
section
variable {code : List Int} (hc : Byt code) (hl : code.length ≤ 1048576)
include hc hl
theorem some_l0 {B : Int} (hB : B ≤ 100000) (hB0 : 0 ≤ B) (b ok : Bool) (l : List Int) (hll : l.length ≤ 12) : ∀ (d i : Nat) (out : List Int) (at_ sd : Int), i + d = l.length → out.length ≤ i → 0 ≤ at_ → at_ ≤ B + 2 * i → ∃ r : List Int × Int × Int, (r.1.length ≤ 13 ∧ 0 ≤ r.2.1 ∧ r.2.1 ≤ B + 1000) ∧ Ev (fun k => spec_l1Cur_someBlocks.l0 k b ok out l (l.length : Int) (i : Int) code at_ sd) r := by
  intro d
  induction d with
  | zero =>
    intro i out at_ sd hi ho h0 h1
    have hend : ∀ (a s : Int), 0 ≤ a → a ≤ B + 100 → ∃ r : List Int × Int × Int, (r.1.length ≤ 13 ∧ 0 ≤ r.2.1 ∧ r.2.1 ≤ B + 1000) ∧ ((spec_l1Cur_pick.f code a s 14).bind fun bt355 => (if out.length < 17592186044416 then (some ((out ++ [bt355.1]), bt355.2.1, bt355.2.2)) else (none))) = some r := by
      intro a s ha0 ha1
      obtain ⟨x, a2, s2, e2, _, _, hb1, hb2⟩ := pick_ok hc (by omega) s (14 : Int) (at_ := a) (by omega) (by omega)
      refine ⟨(out ++ [x], a2, s2), ⟨by rw [List.length_append, List.length_singleton]; omega, by show 0 ≤ a2; omega, by show a2 ≤ B + 1000; omega⟩, ?_⟩
      rw [e2, Option.bind_some, if_pos (by omega)]
    cases ok with
    | true =>
      obtain ⟨b1, a, s, e, ha1, ha2⟩ := one_ok hc (by omega) sd 30 h0 (by omega)
      cases b1 with
      | false =>
        refine ⟨(out, a, s), ⟨by show out.length ≤ 13; omega, by show 0 ≤ a; omega, by show a ≤ B + 1000; omega⟩, Ev.step (f := fun _ => some (out, a, s)) (fun k => ?_) (Ev.now _)⟩
        simp only [spec_l1Cur_someBlocks.l0]
        rw [if_neg (by omega), if_pos trivial, e, Option.bind_some, if_neg (by simp)]
      | true =>
        obtain ⟨r, hr1, hr2⟩ := hend a s (by omega) (by omega)
        refine ⟨r, hr1, Ev.step (f := fun _ => some r) (fun k => ?_) (Ev.now _)⟩
        simp only [spec_l1Cur_someBlocks.l0]
        rw [if_neg (by omega), if_pos trivial, e, Option.bind_some, if_pos rfl]
        exact hr2
    | false =>
      obtain ⟨r, hr1, hr2⟩ := hend at_ sd h0 (by omega)
      refine ⟨r, hr1, Ev.step (f := fun _ => some r) (fun k => ?_) (Ev.now _)⟩
      simp only [spec_l1Cur_someBlocks.l0]
      rw [if_neg (by omega), if_neg (by simp)]
      exact hr2
  | succ d ih =>
    intro i out at_ sd hi ho h0 h1
    obtain ⟨b1, a, s, e, ha1, ha2⟩ := one_ok hc (by omega) sd 3 h0 (by omega)
    have hw : wrap64 ((i : Int) + 1) = ((i + 1 : Nat) : Int) := w64 (by omega) (by omega)
    obtain ⟨r, hr1, hr2⟩ := ih (i + 1) (out ++ [rd l (i : Int)]) a s (by omega) (by rw [List.length_append, List.length_singleton]; omega) (by omega) (by omega)
    obtain ⟨q, hq1, hq2⟩ := ih (i + 1) out a s (by omega) (by omega) (by omega) (by omega)
    cases b1 with
    | true =>
      refine ⟨r, hr1, Ev.step (fun k => ?_) hr2⟩
      simp only [spec_l1Cur_someBlocks.l0]
      rw [if_pos (by omega), if_pos (by omega), if_pos (by omega), e, Option.bind_some, if_pos rfl, if_pos (by omega), hw]
    | false =>
      cases b with
      | true =>
        by_cases c : rd l (i : Int) = 0
        · refine ⟨r, hr1, Ev.step (fun k => ?_) hr2⟩
          simp only [spec_l1Cur_someBlocks.l0]
          rw [if_pos (by omega), if_pos (by omega), if_pos (by omega), e, Option.bind_some, if_neg (by simp), if_pos trivial, if_pos c, if_pos (by omega), hw]
        · refine ⟨q, hq1, Ev.step (fun k => ?_) hq2⟩
          simp only [spec_l1Cur_someBlocks.l0]
          rw [if_pos (by omega), if_pos (by omega), if_pos (by omega), e, Option.bind_some, if_neg (by simp), if_pos trivial, if_neg c, hw]
      | false =>
        refine ⟨q, hq1, Ev.step (fun k => ?_) hq2⟩
        simp only [spec_l1Cur_someBlocks.l0]
        rw [if_pos (by omega), if_pos (by omega), if_pos (by omega), e, Option.bind_some, if_neg (by simp), if_neg (by simp), hw]
theorem some_ev {B : Int} (hB : B ≤ 100000) (hB0 : 0 ≤ B) (g : List (List Int)) (hg : Small g) (b : Bool) (at_ sd : Int) (h0 : 0 ≤ at_) (h1 : at_ ≤ B) : ∃ r : List Int × Int × Int, (r.1.length ≤ 13 ∧ 0 ≤ r.2.1 ∧ r.2.1 ≤ B + 1000) ∧ Ev (fun k => spec_l1Cur_someBlocks.f k code at_ sd g b) r := by
  unfold spec_l1Cur_someBlocks.f
  obtain ⟨l, ok, h2, h3⟩ := specReachedOf_ev g hg
  obtain ⟨r, hr1, hr2⟩ := some_l0 hc hl hB hB0 b ok l h3 l.length 0 [] at_ sd (by omega) (by simp) h0 (by omega)
  exact ⟨r, hr1, h2.bind (f := fun k bt => spec_l1Cur_someBlocks.l0 k b bt.2 [] bt.1 (bt.1.length : Int) 0 code at_ sd) hr2⟩
theorem drawJoins_ev : ∃ (g : List (List Int)) (l : List Int), Ev (fun k => spec_DrawJoinsOf.f k code) (g, l) ∧ Small g ∧ l.length ≤ 1048576 := by
  obtain ⟨⟨g, a, s⟩, ⟨h1, h2, h3, h4⟩, h5⟩ := graph_ev hc hl
  simp only at h1 h2 h3 h4
  obtain ⟨b, a2, s2, e, ha1, ha2⟩ := one_ok hc (by omega) s 12 h3 (by omega)
  have hs := h1.small (by decide) (by decide)
  obtain ⟨⟨l, a3, s3⟩, hr1, hr2⟩ := some_ev hc hl (B := 1000) (by decide) (by decide) g hs (!b) a2 s2 (by omega) (by omega)
  simp only at hr1
  refine ⟨g, l, ?_, hs, by omega⟩
  unfold spec_DrawJoinsOf.f
  refine h5.bind (f := fun k g => (spec_l1Cur_one.f code g.2.1 g.2.2 12).bind fun b => (spec_l1Cur_someBlocks.f k code b.2.1 b.2.2 g.1 (!b.1)).map fun s => (g.1, s.1)) ?_
  refine Ev.congr (fun k => ?_) (hr2.bind (f := fun _ s => some (g, s.1)) (Ev.now _))
  simp only []
  rw [e, Option.bind_some]
  cases spec_l1Cur_someBlocks.f k code a2 s2 g (!b) <;> rfl
end
end Go.Proofs.Ytndkblahnihhjaa.Q

namespace Go.Proofs.Ytndkblahnihhjaa.Q
open Go.RowKit Go.Proofs.Ytndkblahnihhjaa.P Go.Proofs.Ytndkblahnihhjaa.H Go.Proofs.YtndkblahnihhjaaW.PrintWords
section
variable {code : List Int} (hc : Byt code) (hl : code.length ≤ 1048576)
include hc hl
theorem drawMeeting_ev : ∃ (g : List (List Int)) (a b : Int), Ev (fun k => spec_DrawMeetingOf.f k code) (g, a, b) ∧ Small g := by
  obtain ⟨⟨g, a, s⟩, ⟨h1, h2, h3, h4⟩, h5⟩ := graph_ev hc hl
  simp only at h1 h2 h3 h4
  obtain ⟨x, a2, s2, e, _, _, ha1, ha2⟩ := pick_ok hc (by omega) s (wrap64 ((g.length : Int) + 1)) h3 (by omega)
  obtain ⟨y, a3, s3, e2, _, _, hb1, hb2⟩ := pick_ok hc (by omega) s2 (g.length : Int) (at_ := a2) (by omega) (by omega)
  have hs := h1.small (by decide) (by decide)
  refine ⟨g, x, y, ?_, hs⟩
  unfold spec_DrawMeetingOf.f
  refine h5.bind (f := fun k g => (spec_l1Cur_pick.f code g.2.1 g.2.2 (wrap64 ((g.1.length : Int) + 1))).bind fun b => (spec_l1Cur_pick.f code b.2.1 b.2.2 (g.1.length : Int)).map fun s => (g.1, b.1, s.1)) ?_
  refine ev_is fun k => ?_
  simp only []
  rw [e, Option.bind_some]
  simp only []
  rw [e2]
  rfl
theorem drawStrict_ev : ∃ (g : List (List Int)) (l l2 : List Int), Ev (fun k => spec_DrawIsStrict.f k code) (g, l, l2) ∧ Small g ∧ l.length ≤ 1048576 ∧ l2.length ≤ 1048576 := by
  obtain ⟨⟨g, a, s⟩, ⟨h1, h2, h3, h4⟩, h5⟩ := graph_ev hc hl
  simp only at h1 h2 h3 h4
  obtain ⟨b, a2, s2, e, ha1, ha2⟩ := one_ok hc (by omega) s 2 h3 (by omega)
  have hs := h1.small (by decide) (by decide)
  obtain ⟨⟨l, a3, s3⟩, hr1, hr2⟩ := some_ev hc hl (B := 1000) (by decide) (by decide) g hs b a2 s2 (by omega) (by omega)
  simp only at hr1
  obtain ⟨⟨l2, a4, s4⟩, hq1, hq2⟩ := some_ev hc hl (B := 2000) (by decide) (by decide) g hs false a3 s3 (by omega) (by omega)
  simp only at hq1
  refine ⟨g, l, l2, ?_, hs, by omega, by omega⟩
  unfold spec_DrawIsStrict.f
  refine h5.bind (f := fun k g => (spec_l1Cur_one.f code g.2.1 g.2.2 2).bind fun b => (spec_l1Cur_someBlocks.f k code b.2.1 b.2.2 g.1 b.1).bind fun s => (spec_l1Cur_someBlocks.f k code s.2.1 s.2.2 g.1 false).map fun u => (g.1, s.1, u.1)) ?_
  refine Ev.congr (fun k => ?_) (hr2.bind (f := fun k s => (spec_l1Cur_someBlocks.f k code s.2.1 s.2.2 g false).map fun u => (g, s.1, u.1)) (Ev.congr (fun k => ?_) (hq2.bind (f := fun _ u => some (g, l, u.1)) (Ev.now _))))
  · simp only []
    rw [e, Option.bind_some]
  · simp only []
    cases spec_l1Cur_someBlocks.f k code a3 s3 g false <;> rfl
end
end Go.Proofs.Ytndkblahnihhjaa.Q

namespace Go.Proofs.Ytndkblahnihhjaa.P
open Go.RowKit Go.Proofs.YtndkblahnihhjaaW.PrintWords Go.Proofs.YtndkblahnihhjaaW.PrintLast Go.Proofs.YtndkblahnihhjaaW.PrintMore
attribute [local go_sem] max2_int min2_int max_two min_two max_three min_three max_four min_four
def laws_sameLists.l0 : Nat → List (List Int) → List (List Int) → Int → Int → Option (Bool)
  | 0, _, _, _, _ => none
  | k + 1, x0, x1, x12, x13 => if x13 < x12 then (if 0 ≤ x13 then (if x13 < (x0.length : Int) then (if x13 < (x1.length : Int) then ((laws_sameInts.f k (rd_L1 x0 x13) (rd_L1 x1 x13)).bind fun t476 => (if t476 = true then (laws_sameLists.l0 k x0 x1 x12 (wrap64 (x13 + 1))) else (some false))) else (none)) else (none)) else (none)) else (some true)
def laws_sameLists.f (k : Nat) (l0 : List (List Int)) (l1 : List (List Int)) : Option (Bool) := if (l0.length : Int) = (l1.length : Int) then (laws_sameLists.l0 k l0 l1 (l0.length : Int) 0) else (some false)
end Go.Proofs.Ytndkblahnihhjaa.P

namespace Go.Proofs.Ytndkblahnihhjaa.Q
open Go.RowKit Go.Proofs.Ytndkblahnihhjaa.P Go.Proofs.Ytndkblahnihhjaa.H Go.Proofs.YtndkblahnihhjaaW.PrintWords
theorem sameInts_ev (l : List Int) (hl : l.length ≤ 1048576) : Ev (fun k => laws_sameInts.f k l l) true := by
  unfold laws_sameInts.f
  refine Ev.congr (fun k => by rw [if_pos rfl]) ?_
  refine down0 (n := l.length) (p := fun i => Ev (fun k => laws_sameInts.l0 k l l (l.length : Int) (i : Int)) true) ?h0 ?hs
  case h0 => exact Ev.step (f := fun _ => some true) (fun k => by simp only [laws_sameInts.l0]; rw [if_neg (by omega)]) (Ev.now _)
  case hs =>
    intro i hi ih
    refine Ev.step (fun k => ?_) ih
    simp only [laws_sameInts.l0]
    rw [if_pos (by omega), if_pos (by omega), if_pos (by omega), if_pos (by omega), if_pos trivial, w64 (by omega) (by omega)]
    rfl
theorem lhas_ev (l : List Int) (x : Int) (hl : l.length ≤ 1048576) : Ev (fun k => laws_has.f k l x) (decide (x ∈ l)) := by
  unfold laws_has.f
  have key := down0 (n := l.length) (p := fun i => Ev (fun k => laws_has.l0 k x l (l.length : Int) (i : Int)) (decide (x ∈ l.drop i))) ?h0 ?hs
  · exact key
  case h0 =>
    rw [List.drop_length]
    exact Ev.step (f := fun _ => some false) (fun k => by simp only [laws_has.l0]; rw [if_neg (by omega)]) (Ev.now _)
  case hs =>
    intro i hi ih
    have hd : l.drop i = l.getD i 0 :: l.drop (i + 1) := by
      rw [List.drop_eq_getElem_cons hi, List.getD_eq_getElem?_getD, List.getElem?_eq_getElem hi]
      rfl
    have hr : rd l (i : Int) = l.getD i 0 := rfl
    by_cases c : l.getD i 0 = x
    · have e : decide (x ∈ l.drop i) = true := by rw [hd, c]; simp
      rw [e]
      refine Ev.step (f := fun _ => some true) (fun k => ?_) (Ev.now _)
      simp only [laws_has.l0]
      rw [if_pos (by omega), if_pos (by omega), if_pos (by omega), hr, if_pos c]
    · have e : decide (x ∈ l.drop i) = decide (x ∈ l.drop (i + 1)) := by
        rw [hd]
        refine decide_eq_decide.2 ?_
        rw [List.mem_cons]
        exact ⟨fun h => h.elim (fun h => absurd h.symm c) id, .inr⟩
      rw [e]
      refine Ev.step (fun k => ?_) ih
      simp only [laws_has.l0]
      rw [if_pos (by omega), if_pos (by omega), if_pos (by omega), hr, if_neg c, w64 (by omega) (by omega)]
      rfl
end Go.Proofs.Ytndkblahnihhjaa.Q

namespace Go.Proofs.Ytndkblahnihhjaa.Q
open Go.RowKit Go.Proofs.Ytndkblahnihhjaa.P Go.Proofs.Ytndkblahnihhjaa.H Go.Proofs.YtndkblahnihhjaaW.PrintWords
theorem byt_of_wf {l : List Int} (h : ∀ x ∈ l, (Lit.int .u8 x).wf = true) : Byt l := fun x hx => by
  have h1 := h x hx
  simp [Lit.wf, IntKind.min, IntKind.max, IntKind.signed, IntKind.bits] at h1
  omega
theorem meetB_comm (X Y : List Bool) : meetB X Y = meetB Y X := by
  unfold meetB
  congr 1
  funext k
  exact Bool.and_comm _ _
theorem mF_comm (g : List (List Int)) (a1 a2 : Int) : mF g a1 a2 = mF g a2 a1 := by
  unfold mF
  rw [meetB_comm, show decide (a1 = a2) = decide (a2 = a1) from decide_eq_decide.2 ⟨Eq.symm, Eq.symm⟩, Bool.and_comm (rlF g [a1])]
theorem fro_j7 {code : List Int} (hc : Byt code) (hl : code.length ≤ 1048576) : Ev (fun k => laws_FnFrontiers.j7 k code) true := by
  obtain ⟨h, a, b, hd, hs⟩ := drawMeeting_ev hc hl
  obtain ⟨u, s, t, hd2, hs2, hl1, hl2⟩ := drawStrict_ev hc hl
  refine Ev.step (fun k => by simp only [laws_FnFrontiers.j7]; rfl) (hd.bind ((ev_some (x := impl_MeetingOf.f h a b) (show impl_MeetingOf.f h a b = some (mF h a b) from rfl)).bind ((meetingOf_ev h a b hs).bind (hd2.bind ((ev_some (x := impl_IsStrict.f u s t) rfl).bind ((isStrict_ev u s t hs2 hl1 hl2).bind ?_))))))
  refine ev_is fun k => ?_
  rw [if_neg (by simp), if_neg (by simp), if_neg (by simp), if_neg (by simp)]
  rw [show impl_MeetingOf.f h b a = some (mF h b a) from rfl, mF_comm h b a, Option.bind_some]
  rw [if_pos (by simp)]
  simp
theorem froL_len12 {g : List (List Int)} (x : Nat) : ((froL g).getD x []).length ≤ 12 := by rw [froL_at]; exact listTo_len _ 12
theorem froL_length (g : List (List Int)) : (froL g).length = g.length := by unfold froL froF; rw [List.length_map, matF_len]
theorem getD_memX {l : List Int} {m : Nat} (h : m < l.length) : l.getD m 0 ∈ l := by
  rw [List.getD_eq_getElem?_getD, List.getElem?_eq_getElem h]
  exact List.getElem_mem h
def froN (g fl dl : List (List Int)) (more j sets row : List Int) (x i m : Int) (k : Nat) : Option Bool := laws_FnFrontiers.l1 k more j fl dl x sets (sets.length : Int) i row (row.length : Int) m g
def froC (g fl dl : List (List Int)) (more j sets row : List Int) (x i m : Int) (k : Nat) (t : Bool) : Option Bool := if t = true then froN g fl dl more j sets row x i m k else some false
def froB (g fl dl : List (List Int)) (more j sets row : List Int) (x i m : Int) (k : Nat) (t : Bool) : Option Bool := if t = true then some false else froN g fl dl more j sets row x i m k
def froA (g fl dl : List (List Int)) (more j sets row : List Int) (x i m : Int) (dr : List Int) (k : Nat) (t : Bool) : Option Bool := if t = true then (laws_has.f k dr x).bind (froB g fl dl more j sets row x i m k) else some false
theorem froN_same {g fl dl : List (List Int)} {more j sets row : List Int} {x i y : Int} {m : Nat} (hm : m < row.length) (hr : rd row (m : Int) = y) (c : x = y) (hw : wrap64 ((m : Int) + 1) = ((m + 1 : Nat) : Int)) (k : Nat) : froN g fl dl more j sets row x i (m : Int) (k + 1) = (laws_has.f k j y).bind (froC g fl dl more j sets row x i ((m + 1 : Nat) : Int) k) := by
  unfold froN
  simp only [laws_FnFrontiers.l1]
  rw [if_pos (by omega), if_pos (by omega), if_pos (by omega), hr, if_pos c, hw]
  rfl
theorem froN_other {g fl dl : List (List Int)} {more j sets row dr : List Int} {x i y : Int} {m : Nat} (hm : m < row.length) (hr : rd row (m : Int) = y) (c : ¬ x = y) (hw : wrap64 ((m : Int) + 1) = ((m + 1 : Nat) : Int)) (h0 : 0 ≤ y) (h1 : y < (dl.length : Int)) (hd : rd_L1 dl y = dr) (k : Nat) : froN g fl dl more j sets row x i (m : Int) (k + 1) = (laws_has.f k j y).bind (froA g fl dl more j sets row x i ((m + 1 : Nat) : Int) dr k) := by
  unfold froN
  simp only [laws_FnFrontiers.l1]
  rw [if_pos (by omega), if_pos (by omega), if_pos (by omega), hr, if_neg c, if_pos h0, if_pos h1, hd, hw]
  rfl
section
variable {g : List (List Int)} (hG : goodG g = true) {j : List Int} (hj12 : j.length ≤ 12) {more : List Int}
include hG hj12
theorem fro_l4 (hj7 : Ev (fun k => laws_FnFrontiers.j7 k more) true) {few : List Int} (hf12 : few.length ≤ 12) (hf : ∀ y ∈ few, y ∈ j) : Ev (fun k => laws_FnFrontiers.l4 k more j few (few.length : Int) 0) true := by
  refine down0 (n := few.length) (p := fun i => Ev (fun k => laws_FnFrontiers.l4 k more j few (few.length : Int) (i : Int)) true) ?h0 ?hs
  case h0 =>
    refine Ev.step (fun k => ?_) hj7
    simp only [laws_FnFrontiers.l4]
    rw [if_neg (by omega)]
  case hs =>
    intro i hi ih
    have hm := hf _ (getD_memX hi)
    have hr : rd few (i : Int) = few.getD i 0 := rfl
    have h1 := lhas_ev j (few.getD i 0) (by omega)
    rw [decide_eq_true hm] at h1
    refine Ev.step (fun k => ?_) (h1.bind (f := fun k t => if t = true then laws_FnFrontiers.l4 k more j few (few.length : Int) ((i + 1 : Nat) : Int) else some false) (Ev.congr (fun k => by rw [if_pos rfl]) ih))
    simp only [laws_FnFrontiers.l4]
    rw [if_pos (by omega), if_pos (by omega), if_pos (by omega), hr, w64 (by omega) (by omega)]
    rfl
theorem fro_l3 {x i : Nat} (hx : x < g.length) (hi : i < 1000) (hin : ∀ y ∈ (froL g).getD x [], y ∈ j) (hnext : Ev (fun k => laws_FnFrontiers.l2 k more j (froL g) j (j.length : Int) ((i + 1 : Nat) : Int) g) true) :
    Ev (fun k => laws_FnFrontiers.l3 k more j (froL g) j (j.length : Int) (i : Int) ((froL g).getD x []) (((froL g).getD x []).length : Int) 0 g) true := by
  have hrl := froL_len12 (g := g) x
  generalize (froL g).getD x [] = row at hrl hin ⊢
  refine down0 (n := row.length) (p := fun m => Ev (fun k => laws_FnFrontiers.l3 k more j (froL g) j (j.length : Int) (i : Int) row (row.length : Int) (m : Int) g) true) ?h0 ?hs
  case h0 =>
    refine Ev.step (fun k => ?_) hnext
    simp only [laws_FnFrontiers.l3]
    rw [if_neg (by omega), w64 (by omega) (by omega)]
    rfl
  case hs =>
    intro m hm ih
    have hmem := hin _ (getD_memX hm)
    have hr : rd row (m : Int) = row.getD m 0 := rfl
    have h1 := lhas_ev j (row.getD m 0) (by omega)
    rw [decide_eq_true hmem] at h1
    refine Ev.step (fun k => ?_) (h1.bind (f := fun k t => if t = true then laws_FnFrontiers.l3 k more j (froL g) j (j.length : Int) (i : Int) row (row.length : Int) ((m + 1 : Nat) : Int) g else some false) (Ev.congr (fun k => by rw [if_pos rfl]) ih))
    simp only [laws_FnFrontiers.l3]
    rw [if_pos (by omega), if_pos (by omega), if_pos (by omega), hr, w64 (by omega) (by omega)]
    rfl
theorem fro_l2 (hjr : ∀ y ∈ j, 0 ≤ y ∧ y < (g.length : Int)) (hcl : ∀ x : Nat, (x : Int) ∈ j → ∀ y ∈ (froL g).getD x [], y ∈ j) (hend : Ev (fun k => (impl_JoinsOf.f g ([0] : List Int)).bind fun bt343 => (if bt343.2 = true then (laws_FnFrontiers.l4 k more j bt343.1 (bt343.1.length : Int) 0) else (some false))) true) :
    Ev (fun k => laws_FnFrontiers.l2 k more j (froL g) j (j.length : Int) 0 g) true := by
  have hfl := froL_length g
  refine down0 (n := j.length) (p := fun i => Ev (fun k => laws_FnFrontiers.l2 k more j (froL g) j (j.length : Int) (i : Int) g) true) ?h0 ?hs
  case h0 =>
    refine Ev.step (fun k => ?_) hend
    simp only [laws_FnFrontiers.l2]
    rw [if_neg (by omega)]
  case hs =>
    intro i hi ih
    have hm := getD_memX hi
    have hr := hjr _ hm
    obtain ⟨x, hx⟩ : ∃ x : Nat, j.getD i 0 = (x : Int) := ⟨(j.getD i 0).toNat, by omega⟩
    rw [hx] at hm hr
    have hrd : rd j (i : Int) = (x : Int) := hx
    refine Ev.step (fun k => ?_) (fro_l3 hG hj12 (x := x) (i := i) (by omega) (by omega) (hcl x hm) ih)
    simp only [laws_FnFrontiers.l2]
    rw [if_pos (by omega), if_pos (by omega), if_pos (by omega), hrd, if_pos (by omega), if_pos (by omega)]
    rfl
variable {sets : List Int} (hs12 : sets.length ≤ 12)
include hs12
theorem fro_l1 {x i : Nat} (hx : x < g.length) (hi : i < 1000) (hin : ∀ y ∈ (froL g).getD x [], y ∈ j) (hnext : Ev (fun k => laws_FnFrontiers.l0 k more j (froL g) (domL g) sets (sets.length : Int) ((i + 1 : Nat) : Int) g) true) :
    Ev (froN g (froL g) (domL g) more j sets ((froL g).getD x []) (x : Int) (i : Int) 0) true := by
  have hn := goodG_rows hG
  have hrl := froL_len12 (g := g) x
  have hdl := domL_length g
  have hfm : ∀ y ∈ (froL g).getD x [], froM g x y := fun y hy => ((froL_rel hn.1.2).mem x hx y).1 hy
  generalize (froL g).getD x [] = row at hrl hin hfm ⊢
  refine down0 (n := row.length) (p := fun m => Ev (froN g (froL g) (domL g) more j sets row (x : Int) (i : Int) (m : Int)) true) ?h0 ?hs
  case h0 =>
    refine Ev.step (fun k => ?_) hnext
    unfold froN
    simp only [laws_FnFrontiers.l1]
    rw [if_neg (by omega), w64 (by omega) (by omega)]
    rfl
  case hs =>
    intro m hm ih
    have hmem := hin _ (getD_memX hm)
    obtain ⟨h0, p, _, _, h3⟩ := hfm _ (getD_memX hm)
    obtain ⟨y, hy⟩ : ∃ y : Nat, row.getD m 0 = (y : Int) := ⟨(row.getD m 0).toNat, by omega⟩
    rw [hy] at hmem h0 h3
    have hr : rd row (m : Int) = (y : Int) := hy
    have h1 := lhas_ev j (y : Int) (by omega)
    rw [decide_eq_true hmem] at h1
    have hw : wrap64 ((m : Int) + 1) = ((m + 1 : Nat) : Int) := w64 (by omega) (by omega)
    by_cases c : (x : Int) = (y : Int)
    · refine Ev.step (fun k => froN_same hm hr c hw k) (h1.bind (Ev.congr (fun k => ?_) ih))
      unfold froC
      rw [if_pos rfl]
    · have hno : ¬ (x : Int) ∈ (domL g).getD y [] := by
        rcases h3 with h3 | h3
        · exact absurd h3 c
        · rwa [Int.toNat_natCast] at h3
      have hdl12 := domL_len12 (g := g) y
      have h2 := lhas_ev ((domL g).getD y []) (x : Int) (by omega)
      rw [decide_eq_false hno] at h2
      have hrr : rd_L1 (domL g) (y : Int) = (domL g).getD y [] := rfl
      refine Ev.step (fun k => froN_other hm hr c hw (by omega) (by omega) hrr k) (h1.bind (Ev.congr (fun k => ?_) (h2.bind (f := fun k t => froB g (froL g) (domL g) more j sets row (x : Int) (i : Int) ((m + 1 : Nat) : Int) k t) (Ev.congr (fun k => ?_) ih))))
      · unfold froA
        rw [if_pos rfl]
      · unfold froB
        rw [if_neg (by simp)]
theorem fro_l0 (hsr : ∀ y ∈ sets, 0 ≤ y ∧ y < (g.length : Int)) (hcl : ∀ x : Nat, (x : Int) ∈ sets → ∀ y ∈ (froL g).getD x [], y ∈ j) (hend : Ev (fun k => laws_FnFrontiers.l2 k more j (froL g) j (j.length : Int) 0 g) true) :
    Ev (fun k => laws_FnFrontiers.l0 k more j (froL g) (domL g) sets (sets.length : Int) 0 g) true := by
  have hfl := froL_length g
  refine down0 (n := sets.length) (p := fun i => Ev (fun k => laws_FnFrontiers.l0 k more j (froL g) (domL g) sets (sets.length : Int) (i : Int) g) true) ?h0 ?hs
  case h0 =>
    refine Ev.step (fun k => ?_) hend
    simp only [laws_FnFrontiers.l0]
    rw [if_neg (by omega)]
  case hs =>
    intro i hi ih
    have hm := getD_memX hi
    have hr := hsr _ hm
    obtain ⟨x, hx⟩ : ∃ x : Nat, sets.getD i 0 = (x : Int) := ⟨(sets.getD i 0).toNat, by omega⟩
    rw [hx] at hm hr
    have hrd : rd sets (i : Int) = (x : Int) := hx
    refine Ev.step (fun k => ?_) (fro_l1 hG hj12 hs12 (x := x) (i := i) (by omega) (by omega) (hcl x hm) ih)
    simp only [laws_FnFrontiers.l0]
    rw [if_pos (by omega), if_pos (by omega), if_pos (by omega), hrd, if_pos (by omega), if_pos (by omega)]
    rfl
end
theorem rl_zero {g : List (List Int)} (hG : goodG g = true) : rlF g [0] = true := by
  have hm : (0 : Int) ∈ listTo (reachF g 0 (-1)) 12 := (listTo_reach hG _).2 (.here (by decide))
  rw [B.rlF_blk hG]
  unfold B.blkAll
  rw [decide_eq_true_eq]
  intro j hj _
  simp only [List.length_singleton] at hj
  obtain rfl : j = 0 := by omega
  unfold B.blk
  simp [hm]
theorem fnFrontiers_pure : laws_FnFrontiers.Pure := by
  intro code more hc1 _ hc2 hm1 _ hm2
  apply Ev.rounds
  unfold laws_FnFrontiers.f
  have hx1 : code.length ≤ 9223372036854775807 := by unfold maxLen at hc1; omega
  have hx2 : more.length ≤ 9223372036854775807 := by unfold maxLen at hm1; omega
  by_cases hw : wrap64 ((code.length : Int) + (more.length : Int)) > 1048576
  · exact Ev.congr (fun k => by rw [if_pos hw]) (Ev.now _)
  refine Ev.congr (fun k => by rw [if_neg hw]) ?_
  have hws : wrap64 ((code.length : Int) + (more.length : Int)) = (code.length : Int) + (more.length : Int) := w64 (by omega) (by omega)
  rw [hws] at hw
  have hb1 := byt_of_wf hc2
  have hb2 := byt_of_wf hm2
  obtain ⟨g, sets, hd, hs, hsl⟩ := drawJoins_ev hb1 (by omega)
  obtain ⟨j1, j2, e4, e5, e6, e7⟩ := joinsOf_core g sets hs hsl
  have hj7 := fro_j7 hb2 (by omega)
  have hfr : impl_FrontierOf.f g = some (if goodG g then (froL g, true) else ([], false)) := by
    unfold impl_FrontierOf.f
    split <;> rfl
  have hdo : impl_DominatorsOf.f g = some (if goodG g then (domL g, true) else ([], false)) := by
    unfold impl_DominatorsOf.f
    split <;> rfl
  refine hd.bind ((ev_some (x := impl_JoinsOf.f g sets) e5).bind (e4.bind ((ev_some (x := impl_FrontierOf.f g) hfr).bind ((ev_some (x := impl_DominatorsOf.f g) hdo).bind ?_))))
  refine Ev.congr (fun k => by rw [if_neg (by simp)]) ((sameInts_ev j1 e6).bind ?_)
  rw [Bool.not_true]
  unfold impl_JoinsOf.f at e5
  cases hsb : setsB g sets with
  | false =>
    rw [hsb, if_neg (by simp)] at e5
    simp only [Option.some.injEq, Prod.mk.injEq] at e5
    obtain ⟨rfl, rfl⟩ := e5
    refine Ev.step (fun k => ?_) hj7
    simp only [laws_FnFrontiers.j0]
    rw [if_neg (by simp), if_neg (by simp)]
  | true =>
    rw [hsb, if_pos rfl] at e5
    simp only [Option.some.injEq, Prod.mk.injEq] at e5
    obtain ⟨rfl, rfl⟩ := e5
    have hs2 := hsb
    unfold setsB at hs2
    rw [Bool.and_eq_true, Bool.and_eq_true, Bool.and_eq_true, decide_eq_true_eq, decide_eq_true_eq] at hs2
    obtain ⟨hG, hrl, hp0, hz⟩ := hs2
    have h0s : (0 : Int) ∈ sets := by have := getD_memX hp0; rwa [hz] at this
    have hn := goodG_rows hG
    have hrn := B.rl_rng hrl
    have hln := B.rl_len12 hn.1.2 hrl
    have hrn' : ∀ y ∈ sets, 0 ≤ y ∧ y < 12 := fun y hy => ⟨(hrn y hy).1, by have := (hrn y hy).2; omega⟩
    have hJm : ∀ (l : List Int), (∀ y ∈ l, 0 ≤ y ∧ y < 12) → l.length ≤ 12 → ∀ y, (y ∈ listTo (joinsF (froL g) l) 12 ↔ Jn (froL g) l y) := by
      intro l h1 h2 y
      rw [listTo_mem]
      constructor
      · rintro ⟨i, hi, rfl, h⟩
        exact (joins_iff (froL_row12 hn.1.2) h1 h2 hi).1 h
      · intro h
        have hy : 0 ≤ y ∧ y < 12 := by
          cases h with
          | one _ h => exact froL_row12 hn.1.2 _ _ h
          | on _ h => exact froL_row12 hn.1.2 _ _ h
        refine ⟨y.toNat, by omega, by omega, (joins_iff (froL_row12 hn.1.2) h1 h2 (by omega)).2 ?_⟩
        rwa [Int.toNat_of_nonneg hy.1]
    have hJ := hJm sets hrn' hln
    have hJ0 := hJm [0] (fun y hy => by rw [List.mem_singleton.1 hy]; decide) (by decide)
    have hjl := listTo_len (joinsF (froL g) sets) 12
    have hjl0 := listTo_len (joinsF (froL g) [0]) 12
    have hs0 : setsB g [0] = true := by
      unfold setsB
      rw [hG, rl_zero hG]
      rfl
    have hi0 : impl_JoinsOf.f g ([0] : List Int) = some (listTo (joinsF (froL g) [0]) 12, true) := by
      unfold impl_JoinsOf.f
      rw [hs0, if_pos rfl]
    have hfew : ∀ y ∈ listTo (joinsF (froL g) [0]) 12, y ∈ listTo (joinsF (froL g) sets) 12 := by
      intro y hy
      refine (hJ y).2 ?_
      have h := (hJ0 y).1 hy
      induction h with
      | one h1 h2 => rw [List.mem_singleton.1 h1] at h2; exact .one h0s h2
      | on h1 h2 ih => exact .on (ih ((hJ0 _).2 h1)) h2
    generalize listTo (joinsF (froL g) [0]) 12 = few at hi0 hfew hjl0
    generalize listTo (joinsF (froL g) sets) 12 = j at hJ hfew hjl ⊢
    have hjr : ∀ y ∈ j, 0 ≤ y ∧ y < (g.length : Int) := by
      intro y hy
      cases (hJ y).1 hy with
      | one _ h => exact froL_row hn.1.2 _ _ h
      | on _ h => exact froL_row hn.1.2 _ _ h
    have hl4 := fro_l4 hG hjl hj7 hjl0 hfew
    have hl2 := fro_l2 hG hjl (more := more) hjr (fun x hx y hy => (hJ y).2 (.on ((hJ _).1 hx) (by rw [Int.toNat_natCast]; exact hy))) (Ev.congr (fun k => by rw [hi0, Option.bind_some, if_pos rfl]) hl4)
    have hl0 := fro_l0 hG hjl hln (more := more) hrn (fun x hx y hy => (hJ y).2 (.one hx (by rw [Int.toNat_natCast]; exact hy))) hl2
    have hj1 : Ev (fun k => laws_FnFrontiers.j1 k more sets j (froL g) (domL g) false g) true := Ev.step (fun k => by simp only [laws_FnFrontiers.j1]; rw [if_neg (by simp)]) hl0
    refine Ev.step (fun k => ?_) hj1
    simp only [laws_FnFrontiers.j0]
    rw [if_neg (by simp), if_pos trivial, hG, if_pos rfl, if_pos rfl, if_pos rfl]
    rfl
end Go.Proofs.Ytndkblahnihhjaa.Q

namespace Go.Proofs.Ytndkblahnihhjaa.Pure
theorem FnFrontiers : P.laws_FnFrontiers.Pure := Q.fnFrontiers_pure
end Go.Proofs.Ytndkblahnihhjaa.Pure

namespace Go.Proofs.YtndkblahnihhjaaW.PrintWords
open Go.ChangeShapes Go.WideShapes
theorem sized_ints {H : Type} {enc : TypeId × Value → H} {P : Program} {W : World} {base : Nat} {spare : Nat → Bool} {held : Bool} {t e : TypeId} {k : IntKind} {a : Option Addr} {len cap : Nat} {d : DataW H} {ps : List MemPlace} {ts : List TypeId} {ds : List (DataW H)} {j : Nat}
    (hsz : (DataW.weightsEach P ts ds).all (· ≤ reachBytes) = true) (ht : ts[j]? = some t) (hd : ds[j]? = some d) (hu : P.underlying t = some (.slice e)) (he : P.underlying e = some (.int k)) (hc : P.cellsOf e = 1) {B : Nat} (hB : P.bytesOf e = B)
    (h : DataW.Trod enc P W base spare held t (.slice a len cap) d ps) : len * B ≤ 140737488351232 := by
  obtain ⟨fuel, hf⟩ := h
  rcases open_ints hu he hc hf with ⟨hcs, _⟩ | ⟨x, l, c, zs, hcs, _, hl, _, hz, hx, _, _⟩
  · simp [Value.cells] at hcs
    obtain ⟨rfl, rfl, rfl⟩ := hcs
    simp
  · simp [Value.cells] at hcs
    obtain ⟨rfl, rfl, rfl⟩ := hcs
    obtain ⟨hx, _⟩ := Prod.mk.inj hx
    subst hx
    have z := sized_slice hsz ht hd hu
    rw [hB] at z
    have hl2 : len ≤ zs.length := by
      rw [hz]
      split
      · exact hl
      · exact Nat.le_refl _
    have h1 : (lits (H := H) k (zs.take len)).length + (lits (H := H) k (zs.drop len)).length = zs.length := by
      simp [lits]
      omega
    rw [h1] at z
    exact Nat.le_trans (Nat.mul_le_mul_right _ hl2) z
end Go.Proofs.YtndkblahnihhjaaW.PrintWords

