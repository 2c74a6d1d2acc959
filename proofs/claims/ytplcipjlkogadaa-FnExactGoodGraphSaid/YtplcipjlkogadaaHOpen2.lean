/- More kinds, opened: rows of numbers, structs of one or two fields handed by value. -/
import Derived.Test.YtplcipjlkogadaaHOpen
import Derived.WideShapes
namespace Go.Proofs.Ytplcipjlkogadaa.H
open Go.RowKit Go.Proofs.YtplcipjlkogadaaW.PrintWords Go.Deep Go.WideShapes
set_option linter.unusedVariables false

/-- A list that is not too long, of what G tells. -/
def Len {α : Type} (G : α → Prop) (xs : List α) : Prop := xs.length ≤ 9223372036854775807 ∧ ∀ y ∈ xs, G y

theorem Opens.sliceL {P : Program} {T e : TypeId} {α : Type} {d : Kd α} {G : α → Prop} (ht : P.underlying T = some (.slice e)) (hc : P.cellsOf e = d.sz) (he : Opens P e d G) : Opens P T (Kd.slice e d) (Len G) := by
  intro H enc w fuel cs x h
  obtain ⟨A, c, xs, rfl, hl, hC, hG⟩ := Opens.slice_row ht hc he h
  exact ⟨xs, ⟨A, c, rfl, hl, hC⟩, by have := hC.2.1; omega, hG⟩

theorem Opens.mono {P : Program} {T : TypeId} {α : Type} {d : Kd α} {G G' : α → Prop} (h : Opens P T d G) (hg : ∀ x, G x → G' x) : Opens P T d G' := by
  intro H enc w fuel cs x hx
  obtain ⟨y, hk, g⟩ := h hx
  exact ⟨y, hk, hg y g⟩

theorem agg_of_okWide1 {P : Program} {t : TypeId} {w : World} {r : Reach} {base : Nat} {v : Value} {fs : Array Field} (ht : P.underlying t = some (.struct fs)) (hc : P.cellsOf t = 1) (h : Value.okWide P w r base t v) : ∃ c0, v = .agg #[c0] := by
  obtain ⟨cs, rfl, hz⟩ := okWide_struct ht h
  obtain ⟨l⟩ := cs
  match l, hz.trans hc with
  | [a], _ => exact ⟨a, rfl⟩

theorem agg_of_okWide2 {P : Program} {t : TypeId} {w : World} {r : Reach} {base : Nat} {v : Value} {fs : Array Field} (ht : P.underlying t = some (.struct fs)) (hc : P.cellsOf t = 2) (h : Value.okWide P w r base t v) : ∃ c0 c1, v = .agg #[c0, c1] := by
  obtain ⟨cs, rfl, hz⟩ := okWide_struct ht h
  obtain ⟨l⟩ := cs
  match l, hz.trans hc with
  | [a, b], _ => exact ⟨a, b, rfl⟩
end Go.Proofs.Ytplcipjlkogadaa.H
