/- From what reads as data to what the walks read: a value of a kind, opened. -/
import Derived.Test.YtplcipjlkogadaaWWords
import Derived.Deep.Slices
import Derived.ChangeArms
import Derived.DataReads
namespace Go.Proofs.Ytplcipjlkogadaa.H
open Go.RowKit Go.Proofs.YtplcipjlkogadaaW.PrintWords Go.Deep
set_option linter.unusedVariables false

/-- What reads as data of type T is of kind d (and G). -/
def Opens (P : Program) (T : TypeId) {α : Type} (d : Kd α) (G : α → Prop) : Prop :=
  ∀ {H : Type} {enc : TypeId × Value → H} {w : World} {fuel : Nat} {cs : List Value} {x : DataW H × List MemPlace}, DataW.trod enc P w 0 (fun _ => true) true fuel T cs = some x → ∃ y, d.K w y cs ∧ G y

def I64 (n : Int) : Prop := -9223372036854775808 ≤ n ∧ n ≤ 9223372036854775807

theorem i64_of_wf {n : Int} (h : (Lit.int .i64 n).wf = true) : I64 n := by
  unfold I64
  simp [Lit.wf, IntKind.min, IntKind.max, IntKind.signed, IntKind.bits] at h
  omega

theorem Opens.int {P : Program} {T : TypeId} (ht : P.underlying T = some (.int .i64)) : Opens P T (Kd.int .i64) I64 := by
  intro H enc w fuel cs x h
  obtain ⟨n, rfl, _, hw⟩ := DataW.trod_int ht h
  exact ⟨n, rfl, i64_of_wf hw⟩

theorem Opens.bool {P : Program} {T : TypeId} (ht : P.underlying T = some .bool) : Opens P T Kd.bool (fun _ => True) := by
  intro H enc w fuel cs x h
  obtain ⟨b, rfl, _⟩ := DataW.trod_bool ht h
  exact ⟨b, rfl, trivial⟩

theorem list_of_lt {α : Type} {p : Nat → α → Prop} : ∀ {n : Nat}, (∀ i, i < n → ∃ x, p i x) → ∃ xs : List α, xs.length = n ∧ ∀ i x, xs[i]? = some x → p i x
  | 0, _ => ⟨[], rfl, fun i x h => by simp at h⟩
  | n + 1, h => by
    obtain ⟨xs, hl, hx⟩ := list_of_lt (n := n) (fun i hi => h i (by omega))
    obtain ⟨x, hp⟩ := h n (by omega)
    refine ⟨xs ++ [x], by simp [hl], fun i y hy => ?_⟩
    by_cases hi : i < n
    · rw [List.getElem?_append_left (by omega)] at hy
      exact hx i y hy
    · rw [List.getElem?_append_right (by omega)] at hy
      have : i - xs.length = 0 := by
        have := (List.getElem?_eq_some_iff.1 hy).1
        simp at this
        omega
      rw [this] at hy
      simp at hy
      subst hy
      have : i = n := by omega
      subst this
      exact hp

theorem Opens.slice_row {P : Program} {T e : TypeId} {α : Type} {d : Kd α} {G : α → Prop} (ht : P.underlying T = some (.slice e)) (hc : P.cellsOf e = d.sz) (he : Opens P e d G)
    {H : Type} {enc : TypeId × Value → H} {w : World} {fuel : Nat} {cs : List Value} {x : DataW H × List MemPlace} (h : DataW.trod enc P w 0 (fun _ => true) true fuel T cs = some x) :
    ∃ (A : Option Addr) (c : Nat) (xs : List α), cs = [.slice A xs.length c] ∧ xs.length ≤ c ∧ d.C w A xs.length xs ∧ ∀ y ∈ xs, G y := by
  rcases open_slice ht h with ⟨rfl, _⟩ | ⟨a, len, cap, m, n, D, Pl, rfl, _, hl, hm, hmm, _, hx⟩
  · exact ⟨none, 0, [], rfl, Nat.le_refl _, ⟨rfl, by simp, fun h => absurd h (by simp)⟩, by simp⟩
  · have hle : len ≤ m := by rw [hmm]; simpa using hl
    obtain ⟨xs, hlen, hp⟩ := list_of_lt (n := len) (p := fun i y => (∃ c, c.length = d.sz ∧ d.K w y c ∧ ∀ j u, c[j]? = some u → w.cell? (a.add (i * d.sz + j)) = some u) ∧ G y) (fun i hi => by
      obtain ⟨cs', h1, h2⟩ := hx i (by omega)
      obtain ⟨y, hk, hg⟩ := he h2
      rw [hc] at h1
      obtain ⟨_, hcl, hcell⟩ := World.cells?_some h1
      refine ⟨y, ⟨cs', hcl, hk, fun j u hu => ?_⟩, hg⟩
      have hj : j < d.sz := by rw [← hcl]; exact (List.getElem?_eq_some_iff.1 hu).1
      rw [← Deep.add_add, hcell j hj]
      exact hu)
    subst hlen
    refine ⟨some a, cap, xs, rfl, hl, ⟨rfl, by unfold maxLen at hm; omega, fun _ => ⟨a, rfl, fun j p hj => (hp j p hj).1⟩⟩, fun y hy => ?_⟩
    obtain ⟨i, hi⟩ := List.getElem?_of_mem hy
    exact (hp i y hi).2

theorem Opens.slice {P : Program} {T e : TypeId} {α : Type} {d : Kd α} {G : α → Prop} (ht : P.underlying T = some (.slice e)) (hc : P.cellsOf e = d.sz) (he : Opens P e d G) : Opens P T (Kd.slice e d) (fun xs => ∀ y ∈ xs, G y) := by
  intro H enc w fuel cs x h
  obtain ⟨A, c, xs, rfl, hl, hC, hG⟩ := Opens.slice_row ht hc he h
  exact ⟨xs, ⟨A, c, rfl, hl, hC⟩, hG⟩

theorem Opens.iso {P : Program} {T : TypeId} {α β : Type} {d : Kd α} {G : α → Prop} (h : Opens P T d G) (f : β → α) (g : α → β) (hfg : ∀ a, f (g a) = a) : Opens P T (Kd.iso d f) (fun x => G (f x)) := by
  intro H enc w fuel cs x hx
  obtain ⟨y, hk, hg⟩ := h hx
  exact ⟨g y, by show d.K w (f (g y)) cs; rw [hfg]; exact hk, by show G (f (g y)); rw [hfg]; exact hg⟩

theorem take_drop_parts {cs : List Value} {a b : Nat} (h : cs.length = a + b) : cs = (cs.drop 0).take a ++ (cs.drop a).take b := by
  rw [List.drop_zero, List.take_of_length_le (l := cs.drop a) (by simp; omega), List.take_append_drop]

theorem seg (cs : List Value) (o a b : Nat) : (cs.drop o).take (a + b) = (cs.drop o).take a ++ (cs.drop (o + a)).take b := by
  rw [List.take_add, List.drop_drop]

theorem Opens.struct1 {P : Program} {T : TypeId} {α : Type} {d0 : Kd α} {G0 : α → Prop} {f0 : Field} (ht : P.underlying T = some (.struct #[f0])) (o0 : f0.offset = 0) (c0 : P.cellsOf f0.type = d0.sz) (cT : P.cellsOf T = d0.sz)
    (h0 : Opens P f0.type d0 G0) : Opens P T d0 G0 := by
  intro H enc w fuel cs x h
  obtain ⟨xs, n, _, _, hl, hlen, hf⟩ := DataW.trod_struct ht h
  match xs, hlen with
  | [y0], _ =>
    have e0 := hf 0 f0 rfl
    rw [o0, c0] at e0
    obtain ⟨a, ha, hga⟩ := h0 e0
    rw [List.drop_zero, List.take_of_length_le (by omega)] at ha
    exact ⟨a, ha, hga⟩

theorem Opens.struct2 {P : Program} {T : TypeId} {α β : Type} {d0 : Kd α} {d1 : Kd β} {G0 : α → Prop} {G1 : β → Prop} {f0 f1 : Field} (ht : P.underlying T = some (.struct #[f0, f1])) (o0 : f0.offset = 0) (o1 : f1.offset = d0.sz)
    (c0 : P.cellsOf f0.type = d0.sz) (c1 : P.cellsOf f1.type = d1.sz) (cT : P.cellsOf T = d0.sz + d1.sz)
    (h0 : Opens P f0.type d0 G0) (h1 : Opens P f1.type d1 G1) : Opens P T (Kd.pair d0 d1) (fun x => G0 x.1 ∧ G1 x.2) := by
  intro H enc w fuel cs x h
  obtain ⟨xs, n, _, _, hl, hlen, hf⟩ := DataW.trod_struct ht h
  match xs, hlen with
  | [y0, y1], _ =>
    have e0 := hf 0 f0 rfl
    have e1 := hf 1 f1 rfl
    rw [o0, c0] at e0
    rw [o1, c1] at e1
    obtain ⟨a, ha, hga⟩ := h0 e0
    obtain ⟨b, hb, hgb⟩ := h1 e1
    exact ⟨(a, b), ⟨_, _, take_drop_parts (by omega), ha, hb⟩, hga, hgb⟩

theorem Opens.struct5 {P : Program} {T : TypeId} {α0 α1 α2 α3 α4 : Type} {d0 : Kd α0} {d1 : Kd α1} {d2 : Kd α2} {d3 : Kd α3} {d4 : Kd α4} {G0 : α0 → Prop} {G1 : α1 → Prop} {G2 : α2 → Prop} {G3 : α3 → Prop} {G4 : α4 → Prop} {f0 f1 f2 f3 f4 : Field}
    (ht : P.underlying T = some (.struct #[f0, f1, f2, f3, f4])) (o0 : f0.offset = 0) (o1 : f1.offset = d0.sz) (o2 : f2.offset = d0.sz + d1.sz) (o3 : f3.offset = d0.sz + d1.sz + d2.sz) (o4 : f4.offset = d0.sz + d1.sz + d2.sz + d3.sz)
    (c0 : P.cellsOf f0.type = d0.sz) (c1 : P.cellsOf f1.type = d1.sz) (c2 : P.cellsOf f2.type = d2.sz) (c3 : P.cellsOf f3.type = d3.sz) (c4 : P.cellsOf f4.type = d4.sz) (cT : P.cellsOf T = d0.sz + (d1.sz + (d2.sz + (d3.sz + d4.sz))))
    (h0 : Opens P f0.type d0 G0) (h1 : Opens P f1.type d1 G1) (h2 : Opens P f2.type d2 G2) (h3 : Opens P f3.type d3 G3) (h4 : Opens P f4.type d4 G4) :
    Opens P T (Kd.pair d0 (Kd.pair d1 (Kd.pair d2 (Kd.pair d3 d4)))) (fun x => G0 x.1 ∧ G1 x.2.1 ∧ G2 x.2.2.1 ∧ G3 x.2.2.2.1 ∧ G4 x.2.2.2.2) := by
  intro H enc w fuel cs x h
  obtain ⟨xs, n, _, _, hl, hlen, hf⟩ := DataW.trod_struct ht h
  match xs, hlen with
  | [y0, y1, y2, y3, y4], _ =>
    have e0 := hf 0 f0 rfl
    have e1 := hf 1 f1 rfl
    have e2 := hf 2 f2 rfl
    have e3 := hf 3 f3 rfl
    have e4 := hf 4 f4 rfl
    rw [o0, c0] at e0
    rw [o1, c1] at e1
    rw [o2, c2] at e2
    rw [o3, c3] at e3
    rw [o4, c4] at e4
    obtain ⟨a0, k0, g0⟩ := h0 e0
    obtain ⟨a1, k1, g1⟩ := h1 e1
    obtain ⟨a2, k2, g2⟩ := h2 e2
    obtain ⟨a3, k3, g3⟩ := h3 e3
    obtain ⟨a4, k4, g4⟩ := h4 e4
    have hL : cs.length = d0.sz + (d1.sz + (d2.sz + (d3.sz + d4.sz))) := by omega
    refine ⟨(a0, a1, a2, a3, a4), ⟨_, (cs.drop d0.sz).take (d1.sz + (d2.sz + (d3.sz + d4.sz))), take_drop_parts hL, k0, ?_⟩, g0, g1, g2, g3, g4⟩
    refine ⟨_, (cs.drop (d0.sz + d1.sz)).take (d2.sz + (d3.sz + d4.sz)), seg _ _ _ _, k1, ?_⟩
    refine ⟨_, (cs.drop (d0.sz + d1.sz + d2.sz)).take (d3.sz + d4.sz), seg _ _ _ _, k2, ?_⟩
    exact ⟨_, _, seg _ _ _ _, k3, k4⟩
end Go.Proofs.Ytplcipjlkogadaa.H
