/- Whole blocks: what a store into one leaves; arrays of bools and numbers. -/
import Derived.Test.YtplcipjlkogadaaWWords
import Derived.Test.YtplcipjlkogadaaWMore
import Derived.Test.YtplcipjlkogadaaWLast
import Derived.Test.YtplcipjlkogadaaHPure
namespace Go.Proofs.Ytplcipjlkogadaa.H
open Go.RowKit Go.Proofs.YtplcipjlkogadaaW.PrintWords Go.Proofs.YtplcipjlkogadaaW.PrintMore
set_option linter.unusedVariables false

section
variable {P : Program} {ops : Array Oper} {rest : List Oper} {o : Oper} {a : Act} {Q : Exit → Act → World → Prop}

theorem setCells_grown (g : Nat) (seg : List Value) (off : Nat) (W : World) : W.grownBy (W.setCells g off seg) (some g) := by
  obtain ⟨s1, s2, s3, s4⟩ := setCells_same g seg off W
  exact ⟨s1, s2, s3, by rw [s4]; exact Nat.le_refl _, fun k _ hk => setCells_far seg off k (fun he => hk (by rw [he]))⟩

/-- A store into a block: its cells then; nothing else has changed. -/
theorem store_blk {W : World} (hgd : o.guard = none) (hN : o.dst = none) {t : TypeId} {p v : Operand} (ho : o.op = .store t p v) {g off : Nat} (hp : a.eval p = .pointer (some ⟨g, off, none⟩))
    {cs : Array Value} {T : TypeId} (hb : W.heap[g]? = some (.cells cs T (0, 0))) {u : Value} {seg : List Value} (hu : a.eval v = u) (hs : u.cells.toList = seg) (ht : (P.info? t).map (·.size) = some seg.length)
    (h1 : ∀ q ∈ seg, q.oneCell' = true) (hfit : off + seg.length ≤ cs.size) {cs' : Array Value} (hc : cs.toList.take off ++ seg ++ cs.toList.drop (off + seg.length) = cs'.toList)
    (h : ∀ w1, w1.heap[g]? = some (.cells cs' T (0, 0)) → W.grownBy w1 (some g) → w1.heap.size = W.heap.size → wpList P ops Q rest a w1) : wpList P ops Q (o :: rest) a W := by
  have hrun := run_store_run (P := P) t u seg hb hs ht hfit h1
  obtain ⟨cur', c1, _, c3⟩ := setCells_row seg off W cs hb hfit
  have he : cur' = cs' := Array.toList_inj.1 (c3.trans hc)
  subst he
  refine wpList_plain hgd fun K hK => ?_
  unfold Oper.wp execOp
  simp only [ho, hp, hu, Sem.run_bind, Sem.run_pure, Result.andThen_ok, hrun]
  show K (a.put o.dst undef) _
  rw [hN]
  exact hK _ _ (h _ c1 (setCells_grown g seg off W) (setCells_same g seg off W).2.2.2)

/-- A slice that is made: its block. -/
theorem make_event {W : World} (hgd : o.guard = none) {N : Tmp} (_hd : o.dst = some N) {cs : Array Value} {t : TypeId} {n : Nat}
    (hrun : (execOp a.eval o).run P W = .ok (.value (.slice (some ⟨W.heap.size, 0, none⟩) n n)) (W.alloc (.cells cs t (0, 0))))
    (h : ∀ g, g = W.heap.size → ∀ w1, w1.heap[g]? = some (.cells cs t (0, 0)) → Below W.heap.size W w1 → wpList P ops Q rest (a.put o.dst (.slice (some ⟨g, 0, none⟩) n n)) w1) : wpList P ops Q (o :: rest) a W :=
  Kd.event_run hgd hrun (h _ rfl _ (blk_new W _) (below_alloc (Below.refl _ _) _))

/-- Below, behind a store into a block of the call's own. -/
theorem below_own {B g : Nat} {w W w1 : World} (hb : Below B w W) (hg : W.grownBy w1 (some g)) (hB : B ≤ W.heap.size) (hle : B ≤ g) : Below B w w1 :=
  hb.grown hg hB (fun k hk => by injection hk with hk; omega)

theorem blk_other {W w1 : World} {g g' : Nat} {ob : Obj} (h : W.heap[g']? = some ob) (hg : W.grownBy w1 (some g)) (hne : g' ≠ g) : w1.heap[g']? = some ob :=
  blk_grown h hg (fun e => hne (by injection e))
end

/-- The cells of an array of bools. -/
def bcells (bs : List Bool) : Array Value := (bs.map Value.bool).toArray
/-- The cells of an array of numbers. -/
def icells (xs : List Int) : Array Value := (xs.map (Value.int .i64)).toArray

theorem bcells_size (bs : List Bool) : (bcells bs).size = bs.length := by simp [bcells]
theorem icells_size (xs : List Int) : (icells xs).size = xs.length := by simp [icells]

theorem map_put {α : Type} (f : α → Value) (xs : List α) (i : Nat) (x : α) (hi : i < xs.length) : (xs.map f).take i ++ [f x] ++ (xs.map f).drop (i + 1) = (xs.set i x).map f := by
  rw [List.map_set, List.set_eq_take_append_cons_drop, if_pos (by simpa using hi)]
  simp

theorem bcells_put (bs : List Bool) (i : Nat) (b : Bool) (hi : i < bs.length) : (bcells bs).toList.take i ++ [Value.bool b] ++ (bcells bs).toList.drop (i + 1) = (bcells (bs.set i b)).toList := map_put _ _ _ _ hi
theorem icells_put (xs : List Int) (i : Nat) (x : Int) (hi : i < xs.length) : (icells xs).toList.take i ++ [Value.int .i64 x] ++ (icells xs).toList.drop (i + 1) = (icells (xs.set i x)).toList := map_put _ _ _ _ hi

theorem bcells_get {W : World} {g : Nat} {bs : List Bool} {T : TypeId} (h : W.heap[g]? = some (.cells (bcells bs) T (0, 0))) (i : Nat) (hi : i < bs.length) : W.cell? ⟨g, i, none⟩ = some (.bool (bs.getD i false)) := by
  rw [blk_cell h i]
  unfold bcells
  simp only [List.getElem?_toArray, List.getElem?_map]
  rw [getD_some false hi]
  rfl
theorem icells_get {W : World} {g : Nat} {xs : List Int} {T : TypeId} (h : W.heap[g]? = some (.cells (icells xs) T (0, 0))) (i : Nat) (hi : i < xs.length) : W.cell? ⟨g, i, none⟩ = some (.int .i64 (xs.getD i 0)) := by
  rw [blk_cell h i]
  unfold icells
  simp only [List.getElem?_toArray, List.getElem?_map]
  rw [getD_some 0 hi]
  rfl

/-- Is a number within two. -/
def inB (a b c : Int) : Bool := decide (b ≤ a) && decide (a ≤ c)
end Go.Proofs.Ytplcipjlkogadaa.H
