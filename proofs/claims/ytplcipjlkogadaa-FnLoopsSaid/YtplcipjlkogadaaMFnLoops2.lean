import Derived.Laws.Rows
import Derived.Deep.MidRow
import Derived.Laws.StructEq
import Derived.Test.YtplcipjlkogadaaProg
import Derived.Below
import Derived.Deep.Draws
import Derived.Deep.AppendLies
import Derived.Maps.AppendAt
import Derived.OwnWalk
import Derived.Laws.BytesArg
import Derived.Laws.MakeOwn
import Derived.Laws.OwnMore
import Derived.Deep.OwnRows
import Derived.Tactics
import Derived.Lib.ConvBytes
import Derived.Laws.Slices
import Derived.WalkKit
import Derived.KernelRfl
import Derived.RowKit3
import Derived.Deep.LoopGhost
import Derived.Deep.QuietTactic
import Derived.BigQuiet
import Derived.WideLaws
import Derived.Deep.DeepCutAuto
import Derived.Deep.CutBlock
import Derived.Deep.RegionHeld3
import Derived.Lib.AppendStr
import Derived.ArgAppend
import Derived.Laws.IdiomCopy
import Derived.OrdersHeld
import Derived.Laws.BitsLemmas
import Derived.RowKit
import Derived.StillTailTactics
import Derived.IntWalk
import Derived.Deep.DeepMust
import Derived.RegionTactic
import Derived.Outline
import Derived.Deep.RegionWith
import Derived.Deep.Slices
import Derived.ChangeArms
import Derived.DataReads
import Derived.WideShapes
import Derived.Test.YtplcipjlkogadaaMFnLoops1
set_option linter.unusedVariables false
set_option linter.unusedSimpArgs false
set_option linter.unusedSectionVars false
namespace Go.Proofs.Ytplcipjlkogadaa.H
open Go.RowKit Go.Proofs.YtplcipjlkogadaaW.PrintWords Go.Proofs.YtplcipjlkogadaaW.PrintMore
structure Own (w W : World) (L : List (Nat × Array Value × TypeId)) : Prop where
  below : Below w.heap.size w W
  base : ∀ x ∈ L, w.heap.size ≤ x.1
  blk : ∀ x ∈ L, W.heap[x.1]? = some (.cells x.2.1 x.2.2 (0, 0))
  ne : (L.map Prod.fst).Nodup
namespace Own
variable {w W w1 : World} {L : List (Nat × Array Value × TypeId)} {g : Nat} {cs cs' : Array Value} {T : TypeId}
theorem nil (w : World) : Own w w [] := ⟨Below.refl _ _, by simp, by simp, by simp⟩
theorem of_below (h : Below w.heap.size w W) : Own w W [] := ⟨h, by simp, by simp, by simp⟩
theorem lt (h : Own w W L) : ∀ x ∈ L, x.1 < W.heap.size := fun x hx => blk_lt (h.blk x hx)
theorem step (h : Own w W L) (hb : Below W.heap.size W w1) : Own w w1 L := ⟨h.below.trans (hb.mono h.below.size), h.base, fun x hx => blk_below (h.blk x hx) hb, h.ne⟩
theorem drew (h : Own w W L) : Own w W.drew L := h.step (below_drew (Below.refl _ _))
theorem drewN (h : Own w W L) (n : Nat) : Own w (W.drewN n) L := h.step (pw_below_drewN (Below.refl _ _) n)
theorem drawn (h : Own w W L) (hd : Drawn0 W w1) : Own w w1 L := h.step hd.below
theorem size (h : Own w W L) : w.heap.size ≤ W.heap.size := h.below.size
theorem mem {i : Nat} (hi : L[i]? = some (g, cs, T)) : (g, cs, T) ∈ L := List.mem_of_getElem? hi
theorem get (h : Own w W L) (i : Nat) (hi : L[i]? = some (g, cs, T)) : W.heap[g]? = some (.cells cs T (0, 0)) := h.blk _ (mem hi)
theorem ge (h : Own w W L) (i : Nat) (hi : L[i]? = some (g, cs, T)) : w.heap.size ≤ g := h.base _ (mem hi)
theorem cell (h : Own w W L) (i : Nat) (hi : L[i]? = some (g, cs, T)) (j : Nat) : W.cell? ⟨g, j, none⟩ = cs[j]? := blk_cell (h.get i hi) j
theorem old (h : Own w W L) {p : Addr} {v : Value} (hc : w.cell? p = some v) : W.cell? p = some v := (h.below.cell (World.block_lt_of_cell? w _ hc)).trans hc
theorem push (h : Own w W L) (hg : g = W.heap.size) (hc : w1.heap[g]? = some (.cells cs T (0, 0))) (hb : Below W.heap.size W w1) : Own w w1 (L ++ [(g, cs, T)]) := by
  have hs := h.step hb
  refine ⟨hs.below, fun x hx => ?_, fun x hx => ?_, ?_⟩
  · rcases List.mem_append.1 hx with hx | hx
    · exact hs.base x hx
    · rw [List.mem_singleton] at hx
      subst hx
      rw [hg]
      exact h.size
  · rcases List.mem_append.1 hx with hx | hx
    · exact hs.blk x hx
    · rw [List.mem_singleton] at hx
      subst hx
      exact hc
  · rw [List.map_append, List.nodup_append]
    refine ⟨hs.ne, by simp, fun a ha b hb' => ?_⟩
    simp only [List.map_cons, List.map_nil, List.mem_singleton] at hb'
    subst hb'
    obtain ⟨x, hx, rfl⟩ := List.mem_map.1 ha
    have := h.lt x hx
    omega
theorem put (h : Own w W L) (i : Nat) (hi : L[i]? = some (g, cs, T)) (hc : w1.heap[g]? = some (.cells cs' T (0, 0))) (hg : W.grownBy w1 (some g)) : Own w w1 (L.set i (g, cs', T)) := by
  have hil : i < L.length := (List.getElem?_eq_some_iff.1 hi).1
  have hmap : (L.set i (g, cs', T)).map Prod.fst = L.map Prod.fst := by
    rw [List.map_set]
    refine List.ext_getElem (by simp) (fun j h1 h2 => ?_)
    rw [List.getElem_set]
    split
    · next e =>
      subst e
      rw [List.getElem_map, (List.getElem?_eq_some_iff.1 hi).2]
    · rfl
  refine ⟨h.below.grown hg h.size (fun k hk => by injection hk with hk; have := h.ge i hi; omega), fun x hx => ?_, fun x hx => ?_, by rw [hmap]; exact h.ne⟩
  · rcases List.mem_or_eq_of_mem_set hx with hx | rfl
    · exact h.base x hx
    · exact h.ge i hi
  · obtain ⟨j, hj, e⟩ := List.getElem_of_mem hx
    rw [List.length_set] at hj
    by_cases hij : i = j
    · subst hij
      rw [List.getElem_set_self] at e
      subst e
      exact hc
    · rw [List.getElem_set_ne hij] at e
      have hx' : x ∈ L := e ▸ List.getElem_mem hj
      refine blk_grown (h.blk x hx') hg (fun hk => ?_)
      injection hk with hk
      have hnd := List.pairwise_iff_getElem.1 h.ne
      have e1 : (L.map Prod.fst)[j]'(by simpa using hj) = g := by rw [List.getElem_map, e, hk]
      have e2 : (L.map Prod.fst)[i]'(by simpa using hil) = g := by
        rw [List.getElem_map]
        have := (List.getElem?_eq_some_iff.1 hi).2
        rw [this]
      rcases Nat.lt_or_gt_of_ne hij with hlt | hlt
      · exact hnd i j (by simpa using hil) (by simpa using hj) hlt (e2.trans e1.symm)
      · exact hnd j i (by simpa using hj) (by simpa using hil) hlt (e1.trans e2.symm)
theorem grown (h : Own w W L) {row : Option Nat} (hg : W.grownBy w1 row) (hr : ∀ k, row = some k → w.heap.size ≤ k ∧ ∀ x ∈ L, x.1 ≠ k) : Own w w1 L :=
  ⟨h.below.grown hg h.size (fun k hk => (hr k hk).1), h.base, fun x hx => blk_grown (h.blk x hx) hg (fun e => (hr _ e.symm).2 x hx rfl), h.ne⟩
theorem row {α : Type} {d : Kd α} {e base : Nat} {ok : Nat → Prop} {v : Value} {xs : List α} (h : Own w W L) (hv : d.R e W base ok v xs) (hle : w.heap.size ≤ base) (hg : W.grownBy w1 v.ownBlock) (ht : ∀ x ∈ L, x.2.2 ≠ e) : Own w w1 L :=
  h.grown hg (fun k hk => ⟨Nat.le_trans hle (Kd.R_base hv k hk), fun x hx ek => by
    have := Kd.R_ne hv (h.blk x hx) (fun e => ht x hx e.symm)
    exact this (by rw [hk, ek])⟩)
theorem rowQ {α : Type} {d : Kd α} {e base : Nat} {ok : Nat → Prop} {v : Value} {xs : List α} (h : Own w W L) (hv : d.Q e W base ok v xs) (hle : w.heap.size ≤ base) (hg : W.grownBy w1 v.ownBlock) (ht : ∀ x ∈ L, x.2.2 ≠ e) : Own w w1 L :=
  h.grown hg (fun k hk => ⟨Nat.le_trans hle (Kd.Q_base hv k hk), fun x hx ek => by
    have := Kd.Q_ne hv (h.blk x hx) (fun e => ht x hx e.symm)
    exact this (by rw [hk, ek])⟩)
theorem keepQ {α : Type} {d : Kd α} {e base : Nat} {ok : Nat → Prop} {v : Value} {xs : List α} (h : Own w W L) (i : Nat) (hi : L[i]? = some (g, cs, T)) (hv : d.Q e W base ok v xs) (hg : W.grownBy w1 (some g)) (ht : ∀ q, q ∈ e :: d.E → q ≠ T) : d.Q e w1 base ok v xs :=
  Kd.Q_mono (Kd.Q_grown (Kd.Q_types hv (h.get i hi) ht) hg (fun k hk he => hk.2 (by injection he))) (fun _ hk => hk.1)
theorem keep {α : Type} {d : Kd α} {e base : Nat} {ok : Nat → Prop} {v : Value} {xs : List α} (h : Own w W L) (i : Nat) (hi : L[i]? = some (g, cs, T)) (hv : d.R e W base ok v xs) (hg : W.grownBy w1 (some g)) (ht : ∀ q, q ∈ e :: d.E → q ≠ T) : d.R e w1 base ok v xs :=
  Kd.R_drop (Kd.R_grown (Kd.R_types hv (h.get i hi) ht) hg (fun k hk he => hk.2 (by injection he)))
theorem keepS {α : Type} {d : Kd α} {e base : Nat} {ok : Nat → Prop} {v : Value} {xs : List α} (h : Own w W L) (i : Nat) (hi : L[i]? = some (g, cs, T)) (hv : Kd.S d e W base ok v xs) (hg : W.grownBy w1 (some g)) (ht : ∀ q, q ∈ e :: d.E → q ≠ T) : Kd.S d e w1 base ok v xs :=
  Kd.S_mono (Kd.S_grown (Kd.S_types hv (h.get i hi) ht) hg (fun k hk he => hk.2 (by injection he))) (fun k hk => hk.1)
end Own
section
variable {P : Program} {ops : Array Oper} {rest : List Oper} {o : Oper} {a : Act} {Q : Exit → Act → World → Prop}
variable {w W : World} {L : List (Nat × Array Value × TypeId)}
theorem own_box (hO : Own w W L) (hgd : o.guard = none) {N : Tmp} (_hd : o.dst = some N) {cs : Array Value} {t : TypeId}
    (hrun : (execOp a.eval o).run P W = .ok (.value (.pointer (some ⟨W.heap.size, 0, none⟩))) (W.alloc (.cells cs t (0, 0))))
    (h : ∀ g w1, Own w w1 (L ++ [(g, cs, t)]) → Below W.heap.size W w1 → wpList P ops Q rest (a.put o.dst (.pointer (some ⟨g, 0, none⟩))) w1) : wpList P ops Q (o :: rest) a W :=
  Kd.event_run hgd hrun (h _ _ (hO.push rfl (blk_new W _) (below_alloc (Below.refl _ _) _)) (below_alloc (Below.refl _ _) _))
theorem own_make (hO : Own w W L) (hgd : o.guard = none) {N : Tmp} (_hd : o.dst = some N) {cs : Array Value} {t : TypeId} {n : Nat}
    (hrun : (execOp a.eval o).run P W = .ok (.value (.slice (some ⟨W.heap.size, 0, none⟩) n n)) (W.alloc (.cells cs t (0, 0))))
    (h : ∀ g w1, Own w w1 (L ++ [(g, cs, t)]) → Below W.heap.size W w1 → wpList P ops Q rest (a.put o.dst (.slice (some ⟨g, 0, none⟩) n n)) w1) : wpList P ops Q (o :: rest) a W :=
  Kd.event_run hgd hrun (h _ _ (hO.push rfl (blk_new W _) (below_alloc (Below.refl _ _) _)) (below_alloc (Below.refl _ _) _))
theorem own_store (hO : Own w W L) (i : Nat) {g : Nat} {cs : Array Value} {T : TypeId} (hi : L[i]? = some (g, cs, T)) (hgd : o.guard = none) (hN : o.dst = none) {t : TypeId} {p v : Operand} (ho : o.op = .store t p v) {off : Nat} (hp : a.eval p = .pointer (some ⟨g, off, none⟩))
    {u : Value} {seg : List Value} (hu : a.eval v = u) (hs : u.cells.toList = seg) (ht : (P.info? t).map (·.size) = some seg.length)
    (h1 : ∀ q ∈ seg, q.oneCell' = true) (hfit : off + seg.length ≤ cs.size) {cs' : Array Value} (hc : cs.toList.take off ++ seg ++ cs.toList.drop (off + seg.length) = cs'.toList)
    (h : ∀ w1, Own w w1 (L.set i (g, cs', T)) → W.grownBy w1 (some g) → wpList P ops Q rest a w1) : wpList P ops Q (o :: rest) a W :=
  store_blk hgd hN ho hp (hO.get i hi) hu hs ht h1 hfit hc (fun w1 hb hg _ => h w1 (hO.put i hi hb hg) hg)
end
theorem bcells_one (bs : List Bool) : ∀ q ∈ (bcells bs).toList, q.oneCell' = true := by
  intro q hq
  unfold bcells at hq
  rw [List.toList_toArray] at hq
  obtain ⟨b, _, rfl⟩ := List.mem_map.1 hq
  rfl
def Mat (n : Nat) (M : List (List Bool)) : Prop := ∀ r ∈ M, r.length = n
theorem Mat.row {n : Nat} {M : List (List Bool)} (h : Mat n M) {k : Nat} (hk : k < M.length) : (M.getD k []).length = n := by
  rw [List.getD_eq_getElem?_getD, List.getElem?_eq_getElem hk]
  exact h _ (List.getElem_mem hk)
theorem Mat.set {n : Nat} {M : List (List Bool)} (h : Mat n M) (k : Nat) {r : List Bool} (hr : r.length = n) : Mat n (M.set k r) := by
  intro x hx
  rcases List.mem_or_eq_of_mem_set hx with hx | rfl
  · exact h x hx
  · exact hr
theorem Mat.len {n : Nat} : ∀ {M : List (List Bool)}, Mat n M → M.flatten.length = M.length * n
  | [], _ => by simp
  | r :: M, h => by
    rw [List.flatten_cons, List.length_append, h r (by simp), Mat.len (fun x hx => h x (by simp [hx])), List.length_cons, Nat.succ_mul]
    omega
theorem mat_get {n j : Nat} (hj : j < n) : ∀ (M : List (List Bool)) (k : Nat), Mat n M → k < M.length → M.flatten[k * n + j]? = (M.getD k [])[j]?
  | [], k, _, hk => by simp at hk
  | r :: M, 0, h, _ => by
    have hr := h r (by simp)
    rw [List.flatten_cons, Nat.zero_mul, Nat.zero_add, List.getElem?_append_left (by omega)]
    rfl
  | r :: M, k + 1, h, hk => by
    have hr := h r (by simp)
    have e : (k + 1) * n + j = n + (k * n + j) := by rw [Nat.succ_mul]; omega
    rw [List.flatten_cons, e, List.getElem?_append_right (by omega), hr, Nat.add_sub_cancel_left, mat_get hj M k (fun x hx => h x (by simp [hx])) (by simpa using hk)]
    rfl
theorem mat_set {n j : Nat} (b : Bool) (hj : j < n) : ∀ (M : List (List Bool)) (k : Nat), Mat n M → k < M.length → M.flatten.set (k * n + j) b = (M.set k ((M.getD k []).set j b)).flatten
  | [], k, _, hk => by simp at hk
  | r :: M, 0, h, _ => by
    have hr := h r (by simp)
    rw [List.flatten_cons, Nat.zero_mul, Nat.zero_add, List.set_append_left _ _ (by omega), List.set_cons_zero, List.flatten_cons]
    rfl
  | r :: M, k + 1, h, hk => by
    have hr := h r (by simp)
    have e : (k + 1) * n + j = n + (k * n + j) := by rw [Nat.succ_mul]; omega
    rw [List.flatten_cons, e, List.set_append_right _ _ (by omega), hr, Nat.add_sub_cancel_left, mat_set b hj M k (fun x hx => h x (by simp [hx])) (by simpa using hk), List.set_cons_succ, List.flatten_cons]
    rfl
section
variable {P : Program} {ops : Array Oper} {rest : List Oper} {o : Oper} {a : Act} {Q : Exit → Act → World → Prop}
variable {w W : World} {L : List (Nat × Array Value × TypeId)} {g : Nat} {T : TypeId}
theorem own_bput (hO : Own w W L) (i : Nat) {bs : List Bool} (hi : L[i]? = some (g, bcells bs, T)) (hgd : o.guard = none) (hN : o.dst = none) {t : TypeId} {p v : Operand} (ho : o.op = .store t p v) {j : Nat} (hp : a.eval p = .pointer (some ⟨g, j, none⟩))
    {b : Bool} (hu : a.eval v = .bool b) (ht : (P.info? t).map (·.size) = some 1) (hj : j < bs.length)
    (h : ∀ w1, Own w w1 (L.set i (g, bcells (bs.set j b), T)) → W.grownBy w1 (some g) → wpList P ops Q rest a w1) : wpList P ops Q (o :: rest) a W :=
  own_store hO i hi hgd hN ho hp (u := .bool b) (seg := [.bool b]) hu rfl ht (by simp [Value.oneCell']) (by rw [bcells_size]; exact hj) (bcells_put _ _ _ hj) h
theorem own_ball (hO : Own w W L) (i : Nat) {bs bs' : List Bool} (hi : L[i]? = some (g, bcells bs, T)) (hgd : o.guard = none) (hN : o.dst = none) {t : TypeId} {p v : Operand} (ho : o.op = .store t p v) (hp : a.eval p = .pointer (some ⟨g, 0, none⟩))
    (hu : a.eval v = .agg (bcells bs')) (ht : (P.info? t).map (·.size) = some bs.length) (hl : bs'.length = bs.length)
    (h : ∀ w1, Own w w1 (L.set i (g, bcells bs', T)) → W.grownBy w1 (some g) → wpList P ops Q rest a w1) : wpList P ops Q (o :: rest) a W :=
  own_store hO i hi hgd hN ho hp (u := .agg (bcells bs')) (seg := (bcells bs').toList) hu rfl (ht.trans (congrArg some (((bcells_size bs').trans hl).symm.trans Array.length_toList.symm))) (bcells_one bs') (by rw [Array.length_toList, bcells_size, bcells_size]; omega)
    (by rw [List.take_zero, List.nil_append, Array.length_toList, bcells_size, List.drop_of_length_le (by rw [Array.length_toList, bcells_size]; omega), List.append_nil]) h
end
theorem blk_mrange {W : World} {g : Nat} {T : TypeId} {n : Nat} {M : List (List Bool)} (h : W.heap[g]? = some (.cells (bcells M.flatten) T (0, 0))) (hM : Mat n M) {k : Nat} (hk : k < M.length) : W.rangeAt g (k * n) ((M.getD k []).map Value.bool) := by
  intro j v hv
  have hl := hM.row hk
  have hj : j < n := by
    have := (List.getElem?_eq_some_iff.1 hv).1
    rw [List.length_map] at this
    omega
  rw [blk_cell h]
  unfold bcells
  rw [List.getElem?_toArray, List.getElem?_map, mat_get hj M k hM hk, ← List.getElem?_map]
  exact hv
theorem blk_mat {W : World} {g : Nat} {T : TypeId} {n : Nat} {M : List (List Bool)} (h : W.heap[g]? = some (.cells (bcells M.flatten) T (0, 0))) (hM : Mat n M) {k j : Nat} (hk : k < M.length) (hj : j < n) : W.cell? ⟨g, k * n + j, none⟩ = some (.bool ((M.getD k []).getD j false)) :=
  blk_mrange h hM hk j _ (by rw [List.getElem?_map, getD_some false (by rw [hM.row hk]; exact hj)]; rfl)
namespace Own
variable {w W : World} {L : List (Nat × Array Value × TypeId)} {g : Nat} {T : TypeId}
theorem bat (h : Own w W L) (i : Nat) {bs : List Bool} (hi : L[i]? = some (g, bcells bs, T)) {j : Nat} (hj : j < bs.length) : W.cell? ⟨g, j, none⟩ = some (.bool (bs.getD j false)) := bcells_get (h.get i hi) j hj
theorem mat (h : Own w W L) (i : Nat) {n : Nat} {M : List (List Bool)} (hi : L[i]? = some (g, bcells M.flatten, T)) (hM : Mat n M) {k j : Nat} (hk : k < M.length) (hj : j < n) : W.cell? ⟨g, k * n + j, none⟩ = some (.bool ((M.getD k []).getD j false)) := blk_mat (h.get i hi) hM hk hj
theorem mrange (h : Own w W L) (i : Nat) {n : Nat} {M : List (List Bool)} (hi : L[i]? = some (g, bcells M.flatten, T)) (hM : Mat n M) {k : Nat} (hk : k < M.length) : W.rangeAt g (k * n) ((M.getD k []).map Value.bool) := blk_mrange (h.get i hi) hM hk
theorem brange (h : Own w W L) (i : Nat) {bs : List Bool} (hi : L[i]? = some (g, bcells bs, T)) : W.rangeAt g 0 (bs.map Value.bool) := by
  intro j v hv
  rw [h.cell i hi]
  unfold bcells
  rw [List.getElem?_toArray, Nat.zero_add]
  exact hv
end Own
section
variable {P : Program} {ops : Array Oper} {o : Oper} {a : Act} {Q : Exit → Act → World → Prop} {Kc : Act → World → Prop}
variable {w W : World} {L : List (Nat × Array Value × TypeId)} {g : Nat} {T : TypeId}
theorem own_store_step (hO : Own w W L) (hw : Region.wanted o (yielded ops a.tmps) = true) (i : Nat) {cs : Array Value} (hi : L[i]? = some (g, cs, T)) (hN : o.dst = none) {t : TypeId} {p v : Operand} (ho : o.op = .store t p v) {off : Nat} (hp : a.eval p = .pointer (some ⟨g, off, none⟩))
    {u : Value} {seg : List Value} (hu : a.eval v = u) (hs : u.cells.toList = seg) (ht : (P.info? t).map (·.size) = some seg.length)
    (h1 : ∀ q ∈ seg, q.oneCell' = true) (hfit : off + seg.length ≤ cs.size) {cs' : Array Value} (hc : cs.toList.take off ++ seg ++ cs.toList.drop (off + seg.length) = cs'.toList)
    (h : ∀ w1, Own w w1 (L.set i (g, cs', T)) → W.grownBy w1 (some g) → Kc a w1) : if Region.wanted o (yielded ops a.tmps) = true then Oper.wp P o a W Kc Q else Kc (a.put none undef) W := by
  have hb := hO.get i hi
  have hrun := run_store_run (P := P) t u seg hb hs ht hfit h1
  obtain ⟨cur', c1, _, c3⟩ := setCells_row seg off W cs hb hfit
  have he : cur' = cs' := Array.toList_inj.1 (c3.trans hc)
  subst he
  rw [if_pos hw]
  unfold Oper.wp execOp
  simp only [ho, hp, hu, Sem.run_bind, Sem.run_pure, Result.andThen_ok, hrun]
  show Kc (a.put o.dst undef) _
  rw [hN]
  exact h _ (hO.put i hi c1 (setCells_grown g seg off W)) (setCells_grown g seg off W)
theorem own_bput_step (hO : Own w W L) (hw : Region.wanted o (yielded ops a.tmps) = true) (i : Nat) {bs : List Bool} (hi : L[i]? = some (g, bcells bs, T)) (hN : o.dst = none) {t : TypeId} {p v : Operand} (ho : o.op = .store t p v) {j : Nat} (hp : a.eval p = .pointer (some ⟨g, j, none⟩))
    {b : Bool} (hu : a.eval v = .bool b) (ht : (P.info? t).map (·.size) = some 1) (hj : j < bs.length)
    (h : ∀ w1, Own w w1 (L.set i (g, bcells (bs.set j b), T)) → W.grownBy w1 (some g) → Kc a w1) : if Region.wanted o (yielded ops a.tmps) = true then Oper.wp P o a W Kc Q else Kc (a.put none undef) W :=
  own_store_step hO hw i hi hN ho hp (u := .bool b) (seg := [.bool b]) hu rfl ht (by simp [Value.oneCell']) (by rw [bcells_size]; exact hj) (bcells_put _ _ _ hj) h
theorem own_mput_step (hO : Own w W L) (hw : Region.wanted o (yielded ops a.tmps) = true) (i : Nat) {n : Nat} {M : List (List Bool)} (hi : L[i]? = some (g, bcells M.flatten, T)) (hM : Mat n M) (hN : o.dst = none) {t : TypeId} {p v : Operand} (ho : o.op = .store t p v) {k j : Nat} (hp : a.eval p = .pointer (some ⟨g, k * n + j, none⟩))
    {b : Bool} (hu : a.eval v = .bool b) (ht : (P.info? t).map (·.size) = some 1) (hk : k < M.length) (hj : j < n)
    (h : ∀ w1, Own w w1 (L.set i (g, bcells (M.set k ((M.getD k []).set j b)).flatten, T)) → W.grownBy w1 (some g) → Kc a w1) : if Region.wanted o (yielded ops a.tmps) = true then Oper.wp P o a W Kc Q else Kc (a.put none undef) W := by
  have hlt : k * n + j < M.flatten.length := by
    rw [hM.len]
    calc k * n + j < k * n + n := by omega
      _ = (k + 1) * n := by rw [Nat.succ_mul]
      _ ≤ M.length * n := Nat.mul_le_mul_right _ hk
  refine own_bput_step hO hw i hi hN ho hp hu ht hlt ?_
  rw [mat_set b hj M k hM hk]
  exact h
end
namespace Own
theorem join {w W W' : World} {L L' : List (Nat × Array Value × TypeId)} (h : Own w W L) (h' : Own W W' L') : Own w W' (L ++ L') := by
  have hs := h.step h'.below
  refine ⟨hs.below, fun x hx => ?_, fun x hx => ?_, ?_⟩
  · rcases List.mem_append.1 hx with hx | hx
    · exact hs.base x hx
    · exact Nat.le_trans h.size (h'.base x hx)
  · rcases List.mem_append.1 hx with hx | hx
    · exact hs.blk x hx
    · exact h'.blk x hx
  · rw [List.map_append, List.nodup_append]
    refine ⟨hs.ne, h'.ne, fun a ha b hb e => ?_⟩
    obtain ⟨x, hx, rfl⟩ := List.mem_map.1 ha
    obtain ⟨y, hy, rfl⟩ := List.mem_map.1 hb
    have h1 := h.lt x hx
    have h2 := h'.base y hy
    omega
theorem take {w W : World} {L L' : List (Nat × Array Value × TypeId)} (h : Own w W L') (hs : L.Sublist L') : Own w W L :=
  ⟨h.below, fun x hx => h.base x (hs.subset hx), fun x hx => h.blk x (hs.subset hx), h.ne.sublist (hs.map _)⟩
end Own
end Go.Proofs.Ytplcipjlkogadaa.H

namespace Go.Proofs.Ytplcipjlkogadaa.H
open Go.RowKit Go.Proofs.YtplcipjlkogadaaW.PrintWords Go.Proofs.YtplcipjlkogadaaW.PrintMore
def fillP {α β : Type} (f : α → β) (d : β) (l : List α) (i : Nat) : List β := (l.take i).map f ++ List.replicate (l.length - i) d
section
variable {α β : Type} {f : α → β} {d : β} {l : List α} {i : Nat}
theorem fillP_zero : fillP f d l 0 = List.replicate l.length d := by unfold fillP; simp
theorem fillP_end : fillP f d l l.length = l.map f := by unfold fillP; simp
theorem fillP_step (z : α) (hi : i < l.length) : (fillP f d l i).set i (f (l.getD i z)) = fillP f d l (i + 1) := by
  unfold fillP
  rw [List.set_append_right _ _ (by simp; omega), List.length_map, List.length_take, Nat.min_eq_left (by omega), Nat.sub_self]
  obtain ⟨k, hk⟩ : ∃ k, l.length - i = k + 1 := ⟨l.length - i - 1, by omega⟩
  rw [hk, List.replicate_succ, List.set_cons_zero, List.take_add_one, List.getElem?_eq_getElem hi, List.map_append, List.append_assoc, List.getD_eq_getElem?_getD, List.getElem?_eq_getElem hi]
  have : l.length - (i + 1) = k := by omega
  rw [this]
  rfl
end
section
variable {P : Program} {ops : Array Oper} {rest : List Oper} {o : Oper} {a : Act} {Q : Exit → Act → World → Prop}
variable {w W : World} {L : List (Nat × Array Value × TypeId)}
theorem own_rowput {ti es : Nat} (hO : Own w W L) {g n cap : Nat} {v : Value} {xs : List (List Int)} {ys : List Int} {base2 : Nat} {ok2 : Nat → Prop}
    (hS : Kd.S (Kd.slice ti (Kd.int .i64)) es W w.heap.size (fun k => some k ≠ v.ownBlock) (.slice (some ⟨g, 0, none⟩) n cap) xs) (hv : (Kd.int .i64).R ti W base2 ok2 v ys) (hb2 : w.heap.size ≤ base2)
    (hgd : o.guard = none) (hN : o.dst = none) {t : TypeId} {p x : Operand} (ho : o.op = .store t p x) {i : Nat} (haddr : a.eval p = .pointer (some ⟨g, i, none⟩)) (hx : a.eval x = v) (ht : (P.info? t).map (·.size) = some 1) (hi : i < n) (hne : ∀ y ∈ L, y.2.2 ≠ es)
    (h : ∀ w1, Own w w1 L → Kd.S (Kd.slice ti (Kd.int .i64)) es w1 w.heap.size (fun _ => True) (.slice (some ⟨g, 0, none⟩) n cap) (xs.set i ys) → W.grownBy w1 (some g) → wpList P ops Q rest a w1) : wpList P ops Q (o :: rest) a W := by
  have hok := (Kd.S_R hS).1 g (by simp [Value.ownBlock])
  have hS' : Kd.S (Kd.slice ti (Kd.int .i64)) es W w.heap.size (fun k => True ∧ ¬ (some k = v.ownBlock)) (.slice (some ⟨g, 0, none⟩) n cap) xs := Kd.S_mono hS (fun k hk => ⟨trivial, hk⟩)
  obtain ⟨oki, c, hcl, hM, hcc, hfr, hoki, hH⟩ := Kd.S_elem hS' [] (i : Int) (by omega) (by omega)
  have hH2 := Kd.H_more hH (fun k _ => trivial)
  have hc1 : c.length = 1 := hcl
  have hcs : c.take 0 ++ [v] ++ c.drop (0 + [v].length) = [v] := by
    rw [List.take_zero, List.nil_append, List.drop_of_length_le (by simp; omega), List.append_nil]
  obtain ⟨A_, c_, e_⟩ := Kd.R_slice hv
  have hvo : v.cells.toList = [v] := by rw [e_]; rfl
  have hone : ∀ q ∈ [v], q.oneCell' = true := by rw [e_]; simp [Value.oneCell']
  refine Kd.H_store (Kd.slice ti (Kd.int .i64)) (w0 := w) w.heap.size hN hgd t p x ho es (i : Int) 0 xs ys v [v] c (fun _ => True) _ (fun k => some k = v.ownBlock) haddr (by rw [Int.toNat_natCast]; show i = i * 1 + 0; omega) hx hvo (by rw [ht]; rfl) hone hH2 (by omega) (by omega) (by show 0 + 1 ≤ 1; omega) (by rw [hcs]; exact Kd.M_row (Kd.R_tight rfl (Kd.R_lower hv hb2))) (fun k hk => .inr hk) hO.below ?_
  intro w1 hs hb hg
  rw [Int.toNat_natCast] at hs
  refine h w1 (hO.grown hg (fun k hk => ?_)) hs hg
  injection hk with hk
  subst hk
  refine ⟨Kd.S_base hS _ (by simp [Value.ownBlock]), fun y hy e => ?_⟩
  obtain ⟨cells, hc⟩ := Kd.S_typed hS g (by simp [Value.ownBlock])
  have := hO.blk y hy
  rw [e, hc] at this
  injection this with this
  injection this with _ this
  exact hne y hy this.symm
end
section
variable {P : Program} {ops : Array Oper} {rest : List Oper} {o : Oper} {a : Act} {Q : Exit → Act → World → Prop}
variable {w W : World} {L : List (Nat × Array Value × TypeId)}
end
end Go.Proofs.Ytplcipjlkogadaa.H

namespace Go.Proofs.Ytplcipjlkogadaa.H
open Go.RowKit Go.Proofs.YtplcipjlkogadaaW.PrintWords Go.Proofs.YtplcipjlkogadaaW.PrintMore
structure Tame (ti : TypeId) (lo hi : Nat) (W W' : World) : Prop where
  os : W'.os = W.os
  tape : W'.tape = W.tape
  output : W'.output = W.output
  size : W.heap.size ≤ W'.heap.size
  same : ∀ g : Nat, g < W.heap.size → (g < lo ∨ hi ≤ g) → W'.heap[g]? = W.heap[g]?
  kept : ∀ (g : Nat) (cs : Array Value) (t : TypeId), W.heap[g]? = some (.cells cs t (0, 0)) → t ≠ ti → W'.heap[g]? = W.heap[g]?
  room : ∀ (g : Nat) (cs : Array Value), W.heap[g]? = some (.cells cs ti (0, 0)) → ∃ cs' : Array Value, W'.heap[g]? = some (.cells cs' ti (0, 0)) ∧ cs'.size = cs.size
namespace Tame
variable {ti : TypeId} {lo hi : Nat} {W W' W'' : World}
theorem refl (ti : TypeId) (lo hi : Nat) (W : World) : Tame ti lo hi W W := ⟨rfl, rfl, rfl, Nat.le_refl _, fun _ _ _ => rfl, fun _ _ _ _ _ => rfl, fun g cs h => ⟨cs, h, rfl⟩⟩
theorem trans (h : Tame ti lo hi W W') (k : Tame ti lo hi W' W'') : Tame ti lo hi W W'' := by
  refine ⟨k.os.trans h.os, k.tape.trans h.tape, k.output.trans h.output, Nat.le_trans h.size k.size, fun g hg ho => (k.same g (Nat.lt_of_lt_of_le hg h.size) ho).trans (h.same g hg ho), fun g cs t hc ht => ?_, fun g cs hc => ?_⟩
  · have e := h.kept g cs t hc ht
    exact (k.kept g cs t (e.trans hc) ht).trans e
  · obtain ⟨cs1, h1, e1⟩ := h.room g cs hc
    obtain ⟨cs2, h2, e2⟩ := k.room g cs1 h1
    exact ⟨cs2, h2, e2.trans e1⟩
theorem of_below (hb : Below W.heap.size W W') : Tame ti lo hi W W' :=
  ⟨hb.os, hb.tape, hb.output, hb.size, fun g hg _ => hb.block g hg, fun g cs t hc _ => hb.block g (blk_lt hc), fun g cs hc => ⟨cs, (hb.block g (blk_lt hc)).trans hc, rfl⟩⟩
theorem below {w : World} (h : Tame ti lo hi W W') (hb : Below w.heap.size w W) (hlo : w.heap.size ≤ lo) : Below w.heap.size w W' :=
  ⟨h.os.trans hb.os, h.tape.trans hb.tape, h.output.trans hb.output, Nat.le_trans hb.size h.size, fun g hg => (h.same g (Nat.lt_of_lt_of_le hg hb.size) (.inl (Nat.lt_of_lt_of_le hg hlo))).trans (hb.block g hg)⟩
end Tame
section
variable {P : Program} {ops : Array Oper} {rest : List Oper} {o : Oper} {a : Act} {Q : Exit → Act → World → Prop}
end
theorem S_upto {α : Type} {d : Kd α} {e base : Nat} {W : World} {ok : Nat → Prop} {v : Value} {xs : List α} (h : Kd.S d e W base ok v xs) : Kd.S d e W base (fun k => base ≤ k ∧ k < W.heap.size) v xs := Kd.S_mono (Kd.S_bound h) (fun k hk => ⟨hk.2.1, hk.2.2.1⟩)
theorem R_upto {α : Type} {d : Kd α} {e base : Nat} {W : World} {ok : Nat → Prop} {v : Value} {xs : List α} (h : d.R e W base ok v xs) : d.R e W base (fun k => base ≤ k ∧ k < W.heap.size) v xs := Kd.R_mono (Kd.R_bound h) (fun k hk => ⟨hk.2.1, hk.2.2.1⟩)
theorem Own.kept {P : Nat → Prop} {w W W' : World} {L : List (Nat × Array Value × TypeId)} (h : Own w W L) (hk : Kept W W' P) (hb : Below w.heap.size w W') (hn : ∀ x ∈ L, ¬ P x.1) : Own w W' L :=
  ⟨hb, h.base, fun x hx => (hk.2 _ (h.lt x hx) (hn x hx)).trans (h.blk x hx), h.ne⟩
theorem Own.range {w W : World} {L : List (Nat × Array Value × TypeId)} (h : Own w W L) (i : Nat) {g : Nat} {cs : List Value} {T : TypeId} (hi : L[i]? = some (g, cs.toArray, T)) : W.rangeAt g 0 cs := by
  intro j v hv
  rw [h.cell i hi, Nat.zero_add, List.getElem?_toArray]
  exact hv
end Go.Proofs.Ytplcipjlkogadaa.H

namespace Go.Proofs.Ytplcipjlkogadaa.H
open Go.RowKit Go.Proofs.YtplcipjlkogadaaW.PrintWords Go.Proofs.YtplcipjlkogadaaW.PrintMore
inductive Rch (g : List (List Int)) (wo s : Int) : Int → Prop
  | here : s ≠ wo → Rch g wo s s
  | on {x y : Int} : Rch g wo s x → y ∈ g.getD x.toNat [] → y ≠ wo → Rch g wo s y
theorem Rch.ne {g : List (List Int)} {wo s y : Int} (h : Rch g wo s y) : y ≠ wo := by
  cases h with
  | here h => exact h
  | on _ _ h => exact h
def visit (wo : Int) (s : List Bool × List Int) (y : Int) : List Bool × List Int := if s.1.getD y.toNat false = false ∧ y ≠ wo then (s.1.set y.toNat true, s.2 ++ [y]) else s
def visits (wo : Int) (row : List Int) (s : List Bool × List Int) : List Bool × List Int := row.foldl (visit wo) s
def bfs (g : List (List Int)) (wo : Int) : Nat → List Int → List Bool → Option (List Bool)
  | 0, _, _ => none
  | _ + 1, [], out => some out
  | k + 1, x :: todo, out => bfs g wo k ((visits wo (g.getD x.toNat []) (out, x :: todo)).2.drop 1) (visits wo (g.getD x.toNat []) (out, x :: todo)).1
def none12 : List Bool := List.replicate 12 false
def reachF (g : List (List Int)) (s wo : Int) : List Bool := if s = wo then none12 else (bfs g wo 14 [s] (none12.set s.toNat true)).getD none12
def off (bs : List Bool) : Nat := bs.count false
theorem off_le (bs : List Bool) : off bs ≤ bs.length := List.count_le_length
theorem off_set {bs : List Bool} {j : Nat} (hj : j < bs.length) (h : bs.getD j false = false) : off (bs.set j true) + 1 = off bs := by
  unfold off
  have e : bs[j] = false := by rw [List.getD_eq_getElem?_getD, List.getElem?_eq_getElem hj] at h; exact h
  have hp : 0 < bs.count false := List.count_pos_iff.2 (e ▸ List.getElem_mem hj)
  rw [List.count_set hj, e]
  simp
  omega
theorem getD_set (bs : List Bool) (i j : Nat) (b : Bool) (hj : j < bs.length) : (bs.set i b).getD j false = if i = j then b else bs.getD j false := by
  rw [List.getD_eq_getElem?_getD, List.getElem?_set, List.getD_eq_getElem?_getD]
  split
  · next h => subst h; rw [if_pos hj]; rfl
  · rfl
theorem visits_facts (wo : Int) : ∀ (row : List Int) (out : List Bool) (todo : List Int), out.length = 12 → (∀ y ∈ row, 0 ≤ y ∧ y < 12) →
    ∃ out' new, visits wo row (out, todo) = (out', todo ++ new) ∧ out'.length = 12 ∧ new.length + off out' = off out ∧ (∀ j, j < 12 → out.getD j false = true → out'.getD j false = true) ∧
      (∀ y ∈ row, y ≠ wo → out'.getD y.toNat false = true) ∧ (∀ y ∈ new, y ∈ row ∧ y ≠ wo ∧ out'.getD y.toNat false = true) ∧ (∀ j, j < 12 → out'.getD j false = true → out.getD j false = true ∨ (j : Int) ∈ new)
  | [], out, todo, hl, _ => ⟨out, [], by simp [visits], hl, by simp, fun _ _ h => h, by simp, by simp, fun _ _ h => .inl h⟩
  | y :: row, out, todo, hl, hr => by
    have hy := hr y (by simp)
    have hr' : ∀ z ∈ row, 0 ≤ z ∧ z < 12 := fun z hz => hr z (by simp [hz])
    by_cases c : out.getD y.toNat false = false ∧ y ≠ wo
    · have hyl : y.toNat < out.length := by omega
      obtain ⟨out', new, h1, h2, h3, h4, h5, h6, h7⟩ := visits_facts wo row (out.set y.toNat true) (todo ++ [y]) (by rw [List.length_set]; exact hl) hr'
      have hv : visits wo (y :: row) (out, todo) = visits wo row (out.set y.toNat true, todo ++ [y]) := by
        show visits wo row (visit wo (out, todo) y) = _
        unfold visit
        rw [if_pos c]
      have hoff := off_set hyl c.1
      have hself : out'.getD y.toNat false = true := h4 y.toNat (by omega) (by rw [getD_set out y.toNat y.toNat true hyl, if_pos rfl])
      refine ⟨out', y :: new, by rw [hv, h1, List.append_assoc]; rfl, h2, by rw [List.length_cons]; omega, fun j hj h => h4 j hj ?_, fun z hz hw => ?_, fun z hz => ?_, fun j hj h => ?_⟩
      · rw [getD_set out y.toNat j true (by omega)]
        split
        · rfl
        · exact h
      · rcases List.mem_cons.1 hz with e | e
        · rw [e]; exact hself
        · exact h5 z e hw
      · rcases List.mem_cons.1 hz with e | e
        · subst e
          exact ⟨by simp, c.2, hself⟩
        · exact ⟨by simp [(h6 z e).1], (h6 z e).2⟩
      · rcases h7 j hj h with e | e
        · rw [getD_set out y.toNat j true (by omega)] at e
          by_cases ej : y.toNat = j
          · exact .inr (by rw [← ej, Int.toNat_of_nonneg hy.1]; simp)
          · rw [if_neg ej] at e
            exact .inl e
        · exact .inr (by simp [e])
    · obtain ⟨out', new, h1, h2, h3, h4, h5, h6, h7⟩ := visits_facts wo row out todo hl hr'
      have hv : visits wo (y :: row) (out, todo) = visits wo row (out, todo) := by
        show visits wo row (visit wo (out, todo) y) = _
        unfold visit
        rw [if_neg c]
      refine ⟨out', new, by rw [hv, h1], h2, h3, h4, fun z hz hw => ?_, fun z hz => ⟨by simp [(h6 z hz).1], (h6 z hz).2⟩, h7⟩
      rcases List.mem_cons.1 hz with e | e
      · subst e
        refine h4 z.toNat (by omega) ?_
        cases hb : out.getD z.toNat false with
        | true => rfl
        | false => exact absurd ⟨hb, hw⟩ c
      · exact h5 z e hw
structure Srch (g : List (List Int)) (wo s : Int) (todo : List Int) (out : List Bool) : Prop where
  len : out.length = 12
  rng : ∀ y ∈ todo, 0 ≤ y ∧ y < 12 ∧ out.getD y.toNat false = true
  sound : ∀ j, j < 12 → out.getD j false = true → Rch g wo s (j : Int)
  closed : ∀ j, j < 12 → out.getD j false = true → (j : Int) ∈ todo ∨ ∀ y ∈ g.getD j [], y ≠ wo → out.getD y.toNat false = true
  first : out.getD s.toNat false = true
theorem bfs_ends {g : List (List Int)} {wo s : Int} (hg : ∀ l ∈ g, ∀ y ∈ l, 0 ≤ y ∧ y < 12) : ∀ (k : Nat) (todo : List Int) (out : List Bool), Srch g wo s todo out → todo.length + off out < k → ∃ R, bfs g wo k todo out = some R ∧ Srch g wo s [] R := by
  have hrow : ∀ x : Nat, ∀ y ∈ g.getD x [], 0 ≤ y ∧ y < 12 := by
    intro x y hy
    rw [List.getD_eq_getElem?_getD] at hy
    cases hx : g[x]? with
    | none => rw [hx] at hy; simp at hy
    | some l => rw [hx] at hy; exact hg l (List.mem_of_getElem? hx) y hy
  intro k
  induction k with
  | zero => intro todo out _ h; omega
  | succ k ih =>
    intro todo out h hm
    cases todo with
    | nil => exact ⟨out, rfl, h⟩
    | cons x todo =>
      have hx := h.rng x (by simp)
      obtain ⟨out', new, h1, h2, h3, h4, h5, h6, h7⟩ := visits_facts wo (g.getD x.toNat []) out (x :: todo) h.len (hrow x.toNat)
      have hxr : Rch g wo s x := by have := h.sound x.toNat (by omega) hx.2.2; rwa [Int.toNat_of_nonneg hx.1] at this
      have hst : Srch g wo s (todo ++ new) out' := by
        refine ⟨h2, fun y hy => ?_, fun j hj hb => ?_, fun j hj hb => ?_, h4 s.toNat ?_ h.first⟩
        · rcases List.mem_append.1 hy with e | e
          · have := h.rng y (by simp [e])
            exact ⟨this.1, this.2.1, h4 y.toNat (by omega) this.2.2⟩
          · have := hrow x.toNat y (h6 y e).1
            exact ⟨this.1, this.2, (h6 y e).2.2⟩
        · rcases h7 j hj hb with e | e
          · exact h.sound j hj e
          · exact .on hxr (h6 _ e).1 (h6 _ e).2.1
        · rcases h7 j hj hb with e | e
          · rcases h.closed j hj e with q | q
            · rcases List.mem_cons.1 q with q | q
              · refine .inr (fun y hy hw => h5 y ?_ hw)
                rw [← q, Int.toNat_natCast]
                exact hy
              · exact .inl (List.mem_append_left _ q)
            · exact .inr (fun y hy hw => h4 y.toNat (by have := hrow j y hy; omega) (q y hy hw))
          · exact .inl (List.mem_append_right _ e)
        · by_cases hs : s.toNat < 12
          · exact hs
          · have := h.first
            rw [List.getD_eq_getElem?_getD, List.getElem?_eq_none (by rw [h.len]; omega)] at this
            cases this
      have hb : bfs g wo (k + 1) (x :: todo) out = bfs g wo k (todo ++ new) out' := by
        rw [bfs, h1]
        rfl
      rw [hb]
      refine ih _ _ hst ?_
      rw [List.length_cons] at hm
      rw [List.length_append]
      omega
theorem goodG_rows {g : List (List Int)} (h : goodG g = true) : (1 ≤ g.length ∧ g.length ≤ 12) ∧ ∀ l ∈ g, ∀ y ∈ l, 0 ≤ y ∧ y < (g.length : Int) := by
  unfold goodG at h
  simp only [Bool.and_eq_true, decide_eq_true_eq, List.all_eq_true] at h
  refine ⟨h.1, fun l hl y hy => ?_⟩
  obtain ⟨j, hj, e⟩ := List.getElem_of_mem hy
  have h1 := of_decide_eq_true (h.2 l hl) j hj (Nat.zero_le _)
  unfold upAt at h1
  simp only [Bool.and_eq_true, decide_eq_true_eq] at h1
  rw [List.getD_eq_getElem?_getD, List.getElem?_eq_getElem hj, e] at h1
  have := h1.1
  exact ⟨this.1, by have := this.2; simp only [Option.getD_some] at this; omega⟩
theorem goodG_row {g : List (List Int)} (h : goodG g = true) (x : Nat) : ∀ y ∈ g.getD x [], 0 ≤ y ∧ y < (g.length : Int) := by
  intro y hy
  rw [List.getD_eq_getElem?_getD] at hy
  cases hx : g[x]? with
  | none => rw [hx] at hy; simp at hy
  | some l => rw [hx] at hy; exact (goodG_rows h).2 l (List.mem_of_getElem? hx) y hy
theorem srch_start (g : List (List Int)) {wo s : Int} (h0 : 0 ≤ s) (h1 : s < 12) (hw : s ≠ wo) : Srch g wo s [s] (none12.set s.toNat true) := by
  have hl : (none12.set s.toNat true).length = 12 := by simp [none12]
  have hn : ∀ j, none12.getD j false = false := by
    intro j
    unfold none12
    rw [List.getD_eq_getElem?_getD, List.getElem?_replicate]
    split <;> rfl
  have hs : (none12.set s.toNat true).getD s.toNat false = true := by rw [getD_set _ _ _ _ (by simp [none12]; omega), if_pos rfl]
  have hall : ∀ j, j < 12 → (none12.set s.toNat true).getD j false = true → (j : Int) = s := by
    intro j hj h
    rw [getD_set _ _ _ _ (by simp [none12]; omega), hn] at h
    by_cases e : s.toNat = j
    · omega
    · rw [if_neg e] at h; cases h
  refine ⟨hl, fun y hy => ?_, fun j hj h => ?_, fun j hj h => .inl (by rw [hall j hj h]; simp), hs⟩
  · rw [List.mem_singleton.1 hy]
    exact ⟨h0, h1, hs⟩
  · rw [hall j hj h]
    exact .here hw
theorem reach_some {g : List (List Int)} (hG : goodG g = true) {s wo : Int} (h0 : 0 ≤ s) (h1 : s < (g.length : Int)) (hw : s ≠ wo) : bfs g wo 14 [s] (none12.set s.toNat true) = some (reachF g s wo) ∧ Srch g wo s [] (reachF g s wo) := by
  have hr := goodG_rows hG
  have hst := srch_start g h0 (by omega) hw
  obtain ⟨R, h2, h3⟩ := bfs_ends (fun l hl y hy => ⟨(hr.2 l hl y hy).1, by have := (hr.2 l hl y hy).2; omega⟩) 14 [s] _ hst (by
    have := off_le (none12.set s.toNat true)
    rw [hst.len] at this
    simp only [List.length_cons, List.length_nil]
    omega)
  unfold reachF
  rw [if_neg hw, h2]
  exact ⟨rfl, h3⟩
theorem none12_get (j : Nat) : none12.getD j false = false := by
  unfold none12
  rw [List.getD_eq_getElem?_getD, List.getElem?_replicate]
  split <;> rfl
theorem reach_len {g : List (List Int)} (hG : goodG g = true) {s wo : Int} (h0 : 0 ≤ s) (h1 : s < (g.length : Int)) : (reachF g s wo).length = 12 := by
  by_cases hw : s = wo
  · unfold reachF
    rw [if_pos hw]
    simp [none12]
  · exact (reach_some hG h0 h1 hw).2.len
theorem reach_iff {g : List (List Int)} (hG : goodG g = true) {s wo : Int} (h0 : 0 ≤ s) (h1 : s < (g.length : Int)) {j : Nat} (hj : j < 12) : (reachF g s wo).getD j false = true ↔ Rch g wo s (j : Int) := by
  by_cases hw : s = wo
  · unfold reachF
    rw [if_pos hw, none12_get]
    constructor
    · intro h; cases h
    · intro h
      exfalso
      have : ∀ y, Rch g wo s y → False := by
        intro y hy
        induction hy with
        | here h => exact h hw
        | on _ _ _ ih => exact ih
      exact this _ h
  · have h := (reach_some hG h0 h1 hw).2
    constructor
    · exact h.sound j hj
    · intro hr
      have key : ∀ y, Rch g wo s y → 0 ≤ y ∧ y < 12 ∧ (reachF g s wo).getD y.toNat false = true := by
        intro y hy
        have hl := goodG_rows hG
        induction hy with
        | here _ => exact ⟨h0, by omega, h.first⟩
        | on hx hyx hyw ih =>
          have hy := goodG_row hG _ _ hyx
          refine ⟨hy.1, by omega, ?_⟩
          rcases h.closed _ (by omega) ih.2.2 with q | q
          · simp at q
          · exact q _ hyx hyw
      have := key _ hr
      rw [Int.toNat_natCast] at this
      exact this.2.2
theorem Rch.rng {g : List (List Int)} (hG : goodG g = true) {wo s y : Int} (h0 : 0 ≤ s) (h1 : s < (g.length : Int)) (h : Rch g wo s y) : 0 ≤ y ∧ y < (g.length : Int) := by
  cases h with
  | here _ => exact ⟨h0, h1⟩
  | on _ hy _ => exact goodG_row hG _ _ hy
end Go.Proofs.Ytplcipjlkogadaa.H

namespace Go.Proofs.Ytplcipjlkogadaa.H
open Go.RowKit Go.Proofs.YtplcipjlkogadaaW.PrintWords Go.Proofs.YtplcipjlkogadaaW.PrintMore
def rowF (f : Nat → Bool) : List Bool := (List.range 12).map f
def matF (f : Nat → Nat → Bool) (n : Nat) : List (List Bool) := (List.range n).map (fun b => rowF (f b))
theorem rowF_len (f : Nat → Bool) : (rowF f).length = 12 := by simp [rowF]
theorem matF_len (f : Nat → Nat → Bool) (n : Nat) : (matF f n).length = n := by simp [matF]
theorem matF_mat (f : Nat → Nat → Bool) (n : Nat) : Mat 12 (matF f n) := fun r hr => by obtain ⟨b, _, rfl⟩ := List.mem_map.1 hr; exact rowF_len _
theorem matF_row {f : Nat → Nat → Bool} {n b : Nat} (hb : b < n) : (matF f n).getD b [] = rowF (f b) := by
  unfold matF
  rw [List.getD_eq_getElem?_getD, List.getElem?_map, List.getElem?_range hb]
  rfl
theorem rowF_get {f : Nat → Bool} {j : Nat} (hj : j < 12) : (rowF f).getD j false = f j := by
  unfold rowF
  rw [List.getD_eq_getElem?_getD, List.getElem?_map, List.getElem?_range hj]
  rfl
theorem rowF_congr {f f' : Nat → Bool} (h : ∀ j, j < 12 → f j = f' j) : rowF f = rowF f' := List.map_congr_left (fun j hj => h j (List.mem_range.1 hj))
theorem matF_congr {f f' : Nat → Nat → Bool} {n : Nat} (h : ∀ b, b < n → ∀ j, j < 12 → f b j = f' b j) : matF f n = matF f' n := List.map_congr_left (fun b hb => rowF_congr (h b (List.mem_range.1 hb)))
theorem rowF_zero : rowF (fun _ => false) = none12 := rfl
theorem matF_zero (n : Nat) : matF (fun _ _ => false) n = List.replicate n none12 := by
  unfold matF
  show List.map (fun _ => none12) (List.range n) = _
  rw [List.map_const', List.length_range]
theorem rowF_set {f : Nat → Bool} {j : Nat} (v : Bool) : (rowF f).set j v = rowF (fun i => if i = j then v else f i) := by
  unfold rowF
  refine List.ext_getElem (by simp) (fun i h1 h2 => ?_)
  rw [List.getElem_set]
  rw [List.getElem_map, List.getElem_range, List.getElem_map, List.getElem_range]
  by_cases e : j = i
  · rw [if_pos e, if_pos e.symm]
  · rw [if_neg e, if_neg (fun h => e h.symm)]
theorem matF_set {f : Nat → Nat → Bool} {n b : Nat} {g : Nat → Bool} : (matF f n).set b (rowF g) = matF (fun b' => if b' = b then g else f b') n := by
  unfold matF
  refine List.ext_getElem (by simp) (fun i h1 h2 => ?_)
  rw [List.getElem_set]
  rw [List.getElem_map, List.getElem_range, List.getElem_map, List.getElem_range]
  show _ = rowF (if i = b then g else f i)
  by_cases e : b = i
  · rw [if_pos e, if_pos e.symm]
  · rw [if_neg e, if_neg (fun h => e h.symm)]
theorem matF_put {f : Nat → Nat → Bool} {n b j : Nat} (v : Bool) (hb : b < n) : (matF f n).set b (((matF f n).getD b []).set j v) = matF (fun b' j' => if b' = b ∧ j' = j then v else f b' j') n := by
  rw [matF_row hb, rowF_set, matF_set]
  refine matF_congr (fun b' _ j' _ => ?_)
  by_cases e : b' = b
  · subst e
    rw [if_pos rfl]
    by_cases ej : j' = j
    · rw [if_pos ej, if_pos ⟨rfl, ej⟩]
    · rw [if_neg ej, if_neg (fun h => ej h.2)]
  · rw [if_neg e, if_neg (fun h => e h.1)]
def domV (g : List (List Int)) (b j : Nat) : Bool := (reachF g 0 (-1)).getD j false && ((reachF g 0 (-1)).getD b false && !(reachF g 0 (j : Int)).getD b false)
def domF (g : List (List Int)) : List (List Bool) := matF (fun b j => decide (j < g.length) && domV g b j) g.length
def domTo (g : List (List Int)) (k b0 : Nat) : List (List Bool) := matF (fun b j => (decide (j < k) || (decide (j = k) && decide (b < b0))) && domV g b j) g.length
theorem domTo_skip (g : List (List Int)) {k : Nat} (h : (reachF g 0 (-1)).getD k false = false) : domTo g (k + 1) 0 = domTo g k 0 := by
  refine matF_congr (fun b _ j _ => ?_)
  by_cases e : j = k
  · subst e
    unfold domV
    rw [h]
    simp
  · have h1 : decide (j < k + 1) = decide (j < k) := decide_eq_decide.2 (by omega)
    simp [h1]
theorem domTo_end (g : List (List Int)) (k : Nat) : domTo g k g.length = domTo g (k + 1) 0 := by
  refine matF_congr (fun b hb j _ => ?_)
  have h1 : (decide (j < k) || (decide (j = k) && decide (b < g.length))) = (decide (j < k + 1) || (decide (j = k + 1) && decide (b < 0))) := by
    rw [Bool.eq_iff_iff]
    simp only [Bool.or_eq_true, Bool.and_eq_true, decide_eq_true_eq]
    omega
  rw [h1]
theorem domTo_put (g : List (List Int)) {k b : Nat} (hb : b < g.length) {v : Bool} (hv : domV g b k = v) : (domTo g k b).set b (((domTo g k b).getD b []).set k v) = domTo g k (b + 1) := by
  unfold domTo
  rw [matF_put v hb]
  refine matF_congr (fun b' _ j _ => ?_)
  by_cases e : b' = b ∧ j = k
  · obtain ⟨rfl, rfl⟩ := e
    rw [if_pos ⟨rfl, rfl⟩, hv]
    simp
  · rw [if_neg e]
    have h1 : (decide (j < k) || (decide (j = k) && decide (b' < b))) = (decide (j < k) || (decide (j = k) && decide (b' < b + 1))) := by
      rw [Bool.eq_iff_iff]
      simp only [Bool.or_eq_true, Bool.and_eq_true, decide_eq_true_eq]
      omega
    rw [h1]
theorem domTo_zero (g : List (List Int)) : domTo g 0 0 = List.replicate g.length none12 := by
  rw [← matF_zero]
  exact matF_congr (fun b _ j _ => by simp)
theorem domTo_last (g : List (List Int)) : domTo g g.length 0 = domF g := matF_congr (fun b _ j _ => by simp)
end Go.Proofs.Ytplcipjlkogadaa.H

namespace Go.Proofs.YtplcipjlkogadaaW.PrintLast
open Go.Proofs.YtplcipjlkogadaaW.PrintWords (Aside0)
def needsOf (md : Region.Mode) (o : Oper) : List Nat := (o.after.toList.filter (fun e => Region.binds md e)).map (fun e => e.on)
def clashOf (md : Region.Mode) (ops : Array Oper) (i : Nat) (oi : Oper) : List Nat := (List.range ops.size).filter fun j => !(j == i) && match ops[j]? with
  | some oj => !(oj.after.any (fun e => Region.binds md e && e.on == i) || oi.apart ops oj)
  | none => false
def rtab (md : Region.Mode) (ops : Array Oper) : Bool × List (List Nat × List Nat) := (Region.noSelect ops, (List.range ops.size).map fun i => match ops[i]? with
  | some o => (needsOf md o, clashOf md ops i o)
  | none => ([], []))
def readyAt (T : List (List Nat × List Nat)) (l : List Bool) (i : Nat) : Bool := !l.getD i true && match T[i]? with
  | some r => r.1.all (fun j => l.getD j false)
  | none => false
def readyT (T : List (List Nat × List Nat)) (l : List Bool) : List Nat := (List.range T.length).filter (readyAt T l)
def freeT (T : List (List Nat × List Nat)) (l : List Bool) (i : Nat) : Bool := match T[i]? with
  | some r => r.2.all (fun j => l.getD j true)
  | none => false
def closedT (T : List (List Nat × List Nat)) (l : List Bool) : Bool := (List.range T.length).all fun j => !l.getD j false || match T[j]? with
  | some r => r.1.all (fun k => l.getD k false)
  | none => true
def reachT (T : List (List Nat × List Nat)) (i : Nat) : Nat → Nat → Bool
  | 0, _ => false
  | fuel + 1, d => match T[d]? with
    | some r => r.1.any fun j => j == i || reachT T i fuel j
    | none => false
def lastT (T : List (List Nat × List Nat)) (l : List Bool) (ds : List Nat) (i : Nat) : Bool := ds.all fun d => l.getD d true || reachT T i T.length d
section
variable {md : Region.Mode} {ops : Array Oper} {T : Bool × List (List Nat × List Nat)} {l l' li lj lk : Array Bool} {ds : List Nat} {i j k : Nat}
theorem gd (l : Array Bool) (j : Nat) (b : Bool) : l.getD j b = l.toList.getD j b := by simp [Array.getD_eq_getD_getElem?, List.getD_eq_getElem?_getD]
theorem needs_all (o : Oper) (p : Nat → Bool) : o.after.all (fun e => !Region.binds md e || p e.on) = (needsOf md o).all p := by
  unfold needsOf
  rw [← Array.all_toList]
  induction o.after.toList with
  | nil => rfl
  | cons e r ih =>
    rw [List.all_cons, ih, List.filter_cons]
    cases h : Region.binds md e <;> simp
theorem needs_any (o : Oper) (p : Nat → Bool) : o.after.any (fun e => Region.binds md e && p e.on) = (needsOf md o).any p := by
  unfold needsOf
  rw [← Array.any_toList]
  induction o.after.toList with
  | nil => rfl
  | cons e r ih =>
    rw [List.any_cons, ih, List.filter_cons]
    cases h : Region.binds md e <;> simp
theorem rtab_length : (rtab md ops).2.length = ops.size := by simp [rtab]
theorem rtab_some {o : Oper} (h : ops[i]? = some o) : (rtab md ops).2[i]? = some (needsOf md o, clashOf md ops i o) := by
  have hi := (Array.getElem?_eq_some_iff.1 h).1
  unfold rtab
  rw [List.getElem?_map, List.getElem?_range hi, Option.map_some, h]
theorem rtab_none (h : ops[i]? = none) : (rtab md ops).2[i]? = none := by
  have hi : ops.size ≤ i := Array.getElem?_eq_none_iff.1 h
  exact List.getElem?_eq_none (by rw [rtab_length]; exact hi)
theorem readyAt_eq : readyAt (rtab md ops).2 l.toList i = (!l.getD i true && ((ops[i]?).map (·.after.all fun e => !Region.binds md e || l.getD e.on false)).getD false) := by
  unfold readyAt
  rw [gd]
  cases h : ops[i]? with
  | none => rw [rtab_none h]; rfl
  | some o =>
    rw [rtab_some h]
    simp only [Option.map_some, Option.getD_some]
    rw [← needs_all]
    simp only [gd]
theorem ready_eq : Region.ready md ops l = readyT (rtab md ops).2 l.toList := by
  unfold Region.ready readyT
  rw [rtab_length]
  refine List.filter_congr (fun i _ => ?_)
  rw [readyAt_eq]
theorem free_eq : Region.free md ops l i = freeT (rtab md ops).2 l.toList i := by
  unfold Region.free freeT
  cases h : ops[i]? with
  | none => rw [rtab_none h]
  | some oi =>
    rw [rtab_some h]
    simp only [clashOf]
    rw [List.all_filter]
    congr 1
    funext j
    rw [gd]
    cases hj : ops[j]? with
    | none => cases (j == i) <;> cases (l.toList.getD j true) <;> simp
    | some oj =>
      cases (j == i) <;> cases (l.toList.getD j true) <;> cases (oj.after.any (fun e => Region.binds md e && e.on == i) || oi.apart ops oj) <;> simp_all
theorem closed_eq : Region.closedB md ops l = closedT (rtab md ops).2 l.toList := by
  unfold Region.closedB closedT
  rw [rtab_length]
  congr 1
  funext j
  rw [gd]
  cases h : ops[j]? with
  | none => rw [rtab_none h]
  | some o =>
    rw [rtab_some h]
    simp only
    rw [← needs_all]
    simp only [gd]
theorem reach_eq : ∀ (fuel d : Nat), Region.reachB md ops i fuel d = reachT (rtab md ops).2 i fuel d
  | 0, _ => rfl
  | fuel + 1, d => by
    unfold Region.reachB reachT
    cases h : ops[d]? with
    | none => rw [rtab_none h]
    | some o =>
      rw [rtab_some h]
      simp only
      rw [← needs_any]
      congr 1
      funext e
      rw [reach_eq fuel]
theorem last_eq : Region.lastB md ops l ds i = lastT (rtab md ops).2 l.toList ds i := by
  unfold Region.lastB lastT
  rw [rtab_length]
  congr 1
  funext d
  rw [gd, reach_eq]
theorem readyAt_mem (h : readyAt T.2 l.toList i = true) (hT : rtab md ops = T) : (Region.ready md ops l).contains i = true := by
  subst hT
  rw [ready_eq]
  unfold readyT
  rw [List.contains_iff_mem, List.mem_filter, List.mem_range]
  refine ⟨?_, h⟩
  unfold readyAt at h
  rw [Bool.and_eq_true] at h
  cases hq : (rtab md ops).2[i]? with
  | none => rw [hq] at h; simp at h
  | some r => exact (List.getElem?_eq_some_iff.1 hq).1
theorem set_of (h : (l.toList.set i true == l'.toList) = true) : (l.setIfInBounds i true == l') = true := by
  rw [beq_iff_eq] at h ⊢
  apply Array.ext'
  rw [Array.toList_setIfInBounds]
  exact h
def anyT (T : Bool × List (List Nat × List Nat)) (l l' : List Bool) (i : Nat) : Bool := T.1 && freeT T.2 l i && readyAt T.2 l i && (l.set i true == l')
theorem any_of (hT : rtab md ops = T) (h : anyT T l.toList l'.toList i = true) : anyB md ops l l' i = true := by
  simp only [anyT, Bool.and_eq_true] at h
  obtain ⟨⟨⟨h1, h2⟩, h3⟩, h4⟩ := h
  have h5 := readyAt_mem h3 hT
  have h6 := set_of h4
  subst hT
  simp only [anyB, Bool.and_eq_true]
  exact ⟨⟨⟨h1, by rw [free_eq]; exact h2⟩, h5⟩, h6⟩
def takeT (T : Bool × List (List Nat × List Nat)) (ds : List Nat) (l l' : List Bool) (i : Nat) : Bool := T.1 && freeT T.2 l i && readyAt T.2 l i && closedT T.2 l && lastT T.2 l ds i && (l.set i true == l')
theorem take_of (hT : rtab md ops = T) (h : takeT T ds l.toList l'.toList i = true) : takeB md ops ds l l' i = true := by
  simp only [takeT, Bool.and_eq_true] at h
  obtain ⟨⟨⟨⟨⟨h1, h2⟩, h3⟩, h4⟩, h5⟩, h6⟩ := h
  have h7 := readyAt_mem h3 hT
  have h8 := set_of h6
  subst hT
  simp only [takeB, Bool.and_eq_true]
  exact ⟨⟨⟨⟨⟨h1, by rw [free_eq]; exact h2⟩, h7⟩, by rw [closed_eq]; exact h4⟩, by rw [last_eq]; exact h5⟩, h8⟩
theorem one_of (hT : rtab md ops = T) (h : (readyT T.2 l.toList == [i] && l.toList.set i true == l'.toList) = true) : readyB md ops l l' i = true := by
  simp only [Bool.and_eq_true] at h
  obtain ⟨h1, h2⟩ := h
  subst hT
  simp only [readyB, Bool.and_eq_true]
  exact ⟨by rw [ready_eq]; exact h1, set_of h2⟩
theorem done_of (hT : rtab md ops = T) (h : (readyT T.2 l.toList == []) = true) : (Region.ready md ops l == []) = true := by
  subst hT
  rw [ready_eq]
  exact h
def upM (B : List Nat) (d : Nat) : List Nat → Nat
  | [] => 0
  | n :: r => (2 ^ n ||| (if n < d then B.getD n 0 else 0)) ||| upM B d r
def waitsOk (T : List (List Nat × List Nat)) (B : List Nat) : Bool := (List.range T.length).all fun d => match T[d]? with
  | some r => (B.getD d 0 ||| upM B d r.1) == upM B d r.1
  | none => false
theorem upM_bit {B : List Nat} {d i : Nat} : ∀ {ns : List Nat}, (upM B d ns).testBit i = true → ∃ n ∈ ns, n = i ∨ (n < d ∧ (B.getD n 0).testBit i = true)
  | [], h => by simp [upM] at h
  | n :: r, h => by
    unfold upM at h
    rw [Nat.testBit_or, Nat.testBit_or, Bool.or_eq_true, Bool.or_eq_true] at h
    rcases h with (h | h) | h
    · rw [Nat.testBit_two_pow] at h
      exact ⟨n, List.mem_cons_self, .inl (by simpa using h)⟩
    · by_cases hn : n < d
      · rw [if_pos hn] at h
        exact ⟨n, List.mem_cons_self, .inr ⟨hn, h⟩⟩
      · rw [if_neg hn] at h
        simp at h
    · obtain ⟨m, hm, h2⟩ := upM_bit h
      exact ⟨m, List.mem_cons_of_mem _ hm, h2⟩
theorem reach_bit {T : List (List Nat × List Nat)} {B : List Nat} (hB : waitsOk T B = true) : ∀ (fuel d : Nat), d < fuel → d < T.length → (B.getD d 0).testBit i = true → reachT T i fuel d = true
  | 0, d, h, _, _ => by omega
  | fuel + 1, d, h, hd, hb => by
    have h1 := List.all_eq_true.1 hB d (List.mem_range.2 hd)
    cases hr : T[d]? with
    | none => rw [hr] at h1; simp at h1
    | some r =>
      rw [hr] at h1
      simp only [beq_iff_eq] at h1
      have h2 : (upM B d r.1).testBit i = true := by rw [← h1, Nat.testBit_or, hb, Bool.true_or]
      obtain ⟨n, hn, h3⟩ := upM_bit h2
      unfold reachT
      rw [hr]
      simp only
      rw [List.any_eq_true]
      refine ⟨n, hn, ?_⟩
      rcases h3 with rfl | ⟨h4, h5⟩
      · simp
      · rw [reach_bit hB fuel n (by omega) (by omega) h5, Bool.or_true]
def lastW (T : List (List Nat × List Nat)) (B : List Nat) (l : List Bool) (ds : List Nat) (i : Nat) : Bool := ds.all fun d => l.getD d true || (decide (d < T.length) && (B.getD d 0).testBit i)
def takeW (T : Bool × List (List Nat × List Nat)) (B : List Nat) (ds : List Nat) (l l' : List Bool) (i : Nat) : Bool := T.1 && freeT T.2 l i && readyAt T.2 l i && closedT T.2 l && lastW T.2 B l ds i && (l.set i true == l')
theorem take_ofW {B : List Nat} (hT : rtab md ops = T) (hB : waitsOk T.2 B = true) (h : takeW T B ds l.toList l'.toList i = true) : takeB md ops ds l l' i = true := by
  refine take_of hT ?_
  simp only [takeW, takeT, Bool.and_eq_true] at h ⊢
  obtain ⟨⟨⟨⟨⟨h1, h2⟩, h3⟩, h4⟩, h5⟩, h6⟩ := h
  refine ⟨⟨⟨⟨⟨h1, h2⟩, h3⟩, h4⟩, ?_⟩, h6⟩
  unfold lastW at h5
  unfold lastT
  rw [List.all_eq_true] at h5 ⊢
  intro d hd
  have h7 := h5 d hd
  rw [Bool.or_eq_true, Bool.and_eq_true, decide_eq_true_eq] at h7
  rcases h7 with h7 | ⟨h8, h9⟩
  · rw [h7, Bool.true_or]
  · rw [reach_bit hB _ d h8 h8 h9, Bool.or_true]
theorem with_tabW {P : Program} {Q : Exit → Act → World → Prop} {S : World → Prop} {n : Nat} {a : Act} {w : World} {B : List Nat} (hT : rtab md ops = T) (hB : waitsOk T.2 B = true) (h : Aside0 (rtab md ops = T) → Aside0 (waitsOk T.2 B = true) → wpAnyLast P md ops Q S ds n l a w) : wpAnyLast P md ops Q S ds n l a w := h ⟨hT⟩ ⟨hB⟩
end
def opsIn : Code → Nat → Option (Array Oper)
  | .region id ops _, k => if id == k then some ops else none
  | .seq a b, k => match opsIn a k with
    | some o => some o
    | none => opsIn b k
  | .cond _ a b, k => match opsIn a k with
    | some o => some o
    | none => opsIn b k
  | .block _ c, k => opsIn c k
  | .loop c, k => opsIn c k
  | .scope c, k => opsIn c k
  | .rangeFunc _ _ a b, k => match opsIn a k with
    | some o => some o
    | none => opsIn b k
  | _, _ => none
def opsOf (f : Func) (k : Nat) : Array Oper := ((f.body.bind fun c => opsIn c k)).getD #[]
end Go.Proofs.YtplcipjlkogadaaW.PrintLast

namespace Go.Proofs.YtplcipjlkogadaaW.PrintLast
section
variable {P : Program} {ops : Array Oper} {Q : Exit → Act → World → Prop} {md : Region.Mode} {S : World → Prop} {ds : List Nat} {T : Bool × List (List Nat × List Nat)}
end
end Go.Proofs.YtplcipjlkogadaaW.PrintLast

namespace Go.Proofs.YtplcipjlkogadaaW.PrintWords
open Go.RowKit
namespace Kd
section
variable {α : Type} {d : Kd α} {W : World} {g n : Nat} {S ok : Nat → Prop} {A : Option Addr} {ad : Addr} {xs : List α}
end
end Kd
end Go.Proofs.YtplcipjlkogadaaW.PrintWords

namespace Go.Proofs.YtplcipjlkogadaaW.PrintWords
open Go.RowKit
section
variable {w w' u : World} {m B g : Nat} {o : Obj} {row : Option Nat} {S : Nat → Prop} {a : Addr} {v : Value}
end
namespace Kd
section
variable {α : Type} {d : Kd α} {e base n m : Nat} {ok : Nat → Prop} {w w' : World} {v : Value} {A : Option Addr} {xs : List α}
end
end Kd
end Go.Proofs.YtplcipjlkogadaaW.PrintWords

namespace Go.Proofs.YtplcipjlkogadaaW.PrintWords
open Go.RowKit
section
variable {P : Program} {d : Nat} {xs ys : Array Value} {f : Field} {fs : List Field} {a b : Value} {r s : Bool} {w : World}
end
end Go.Proofs.YtplcipjlkogadaaW.PrintWords

namespace Go.Proofs.YtplcipjlkogadaaW.PrintWords
theorem Reps.one {α : Type} {R : α → List Value → Prop} {ps : List α} {cs : List Value} {p : α} {v : Value} (hp : R p [v]) (h : Reps R 1 ps cs) : Reps R 1 (p :: ps) (v :: cs) := by
  refine ⟨by simp [h.1], fun j q hq => ?_⟩
  cases j with
  | zero =>
    simp only [List.getElem?_cons_zero, Option.some.injEq] at hq
    subst hq
    simpa using hp
  | succ j =>
    simp only [List.getElem?_cons_succ] at hq
    have h1 := h.2 j q hq
    simpa [Nat.mul_one] using h1
end Go.Proofs.YtplcipjlkogadaaW.PrintWords

namespace Go.Proofs.YtplcipjlkogadaaW.PrintLast
section
variable {P : Program} {ops : Array Oper} {Q : Exit → Act → World → Prop} {md : Region.Mode} {T : Bool × List (List Nat × List Nat)} {B : List Nat} {O : List Nat} {b : Nat → Bool} {i j n : Nat}
end
end Go.Proofs.YtplcipjlkogadaaW.PrintLast

namespace Go.Proofs.YtplcipjlkogadaaW.PrintWords
open Go.RowKit
end Go.Proofs.YtplcipjlkogadaaW.PrintWords
namespace Go.Proofs.YtplcipjlkogadaaW.PrintLast
section
variable {ops : Array Oper} {a : Act} {o og : Oper} {g : Nat} {t : Tmp} {u : Bool}
end
end Go.Proofs.YtplcipjlkogadaaW.PrintLast

namespace Go.Proofs.YtplcipjlkogadaaW.PrintWords
open Go.RowKit
section
variable {P : Program} {ops : Array Oper} {rest : List Oper} {o : Oper} {a : Act} {Q : Exit → Act → World → Prop} {W : World}
end
end Go.Proofs.YtplcipjlkogadaaW.PrintWords

namespace Go.Proofs.Ytplcipjlkogadaa.P
open Go.RowKit Go.Proofs.YtplcipjlkogadaaW.PrintWords Go.Proofs.YtplcipjlkogadaaW.PrintLast Go.Proofs.YtplcipjlkogadaaW.PrintMore
attribute [local go_sem] max2_int min2_int max_two min_two max_three min_three max_four min_four
def errW : Option Int → Value
  | none => .nilIface
  | some c => .iface 0 (.int .i64 c)
theorem errW_none : errW none = .nilIface := rfl
theorem errW_some (c : Int) : errW (some c) = .iface 0 (.int .i64 c) := rfl
theorem info3 : (Try.prog.info? 3).map (fun i => (i.zero, i.size, i.bytes)) = some (some (.int .i64 0), 1, 8) := by kernel_rfl
theorem info31 : (Try.prog.info? 31).map (fun i => (i.zero, i.size, i.bytes)) = some (some (.slice none 0 0), 1, 24) := by kernel_rfl
def rd_L1 (xs : List (List Int)) (i : Int) : (List Int) := xs.getD i.toNat ([] : List Int)
theorem at_L1 {w : World} {A : Option Addr} {n : Nat} {xs : List (List Int)} (h : Kd.C (Kd.slice 3 (Kd.int .i64)) w A n xs) (i : Int) (h0 : 0 ≤ i) (h1 : i < n) : ∃ ad A0 c0, A = some ad ∧ w.cell? (ad.add i.toNat) = some (.slice A0 (rd_L1 xs i).length c0) ∧ (rd_L1 xs i).length ≤ c0 ∧ (Kd.int .i64).C w A0 (rd_L1 xs i).length (rd_L1 xs i) := by
  obtain ⟨ad, c, e, _, hK, hc0⟩ := Kd.C_get h ([] : List Int) i h0 h1
  have hc : ∀ j u, c[j]? = some u → w.cell? (ad.add (i.toNat * 1 + j)) = some u := hc0
  obtain ⟨A0, c0, rfl, l0, g0⟩ := hK
  exact ⟨ad, A0, c0, e, by have hq := hc 0 _ rfl; rwa [Nat.mul_one, Nat.add_zero] at hq, l0, g0⟩
end Go.Proofs.Ytplcipjlkogadaa.P

namespace Go.Proofs.Ytplcipjlkogadaa.P
open Go.RowKit Go.Proofs.YtplcipjlkogadaaW.PrintWords Go.Proofs.YtplcipjlkogadaaW.PrintLast Go.Proofs.YtplcipjlkogadaaW.PrintMore
attribute [local go_sem] max2_int min2_int max_two min_two max_three min_three max_four min_four
def impl_within.f (a0 : Int) (a1 : Int) (a2 : Int) : Option (Bool) := if a0 ≥ a1 then (some (decide (a0 ≤ a2))) else (some false)
set_option maxHeartbeats 8000000 in
set_option maxRecDepth 100000 in
theorem impl_within.calls (a0 : Int) (a1 : Int) (a2 : Int) (r : Bool) (w : World) (h : impl_within.f a0 a1 a2 = some r) :
    Calls Try.prog 56 #[.int .i64 a0, .int .i64 a1, .int .i64 a2] w fun e w' => e = .returned (.bool r) ∧ Drawn0 w w' := by
  have H : (if a0 ≥ a1 then (some (decide (a0 ≤ a2))) else (some false)) = some r := h
  clear h
  by_cases c4 : a0 ≥ a1
  · rw [if_pos c4] at H
    have c4b0 : decide (a1 ≤ a0) = true := decide_eq_true c4
    clear c4
    as_aux_lemma =>
      obtain rfl := Option.some.inj H
      go_enter Try.func56, Try.ntmps56
      go_wp2
      go_ret
      exact ⟨by first | rfl | (simp; done) | (simp [*]; done), by repeat (first | exact Drawn0.refl _ | apply Drawn0.step)⟩
  · rw [if_neg c4] at H
    have c4b0 : decide (a1 ≤ a0) = false := decide_eq_false c4
    clear c4
    as_aux_lemma =>
      obtain rfl := Option.some.inj H
      go_enter Try.func56, Try.ntmps56
      go_wp2
      go_ret
      exact ⟨by first | rfl | (simp; done) | (simp [*]; done), by repeat (first | exact Drawn0.refl _ | apply Drawn0.step)⟩
end Go.Proofs.Ytplcipjlkogadaa.P

namespace Go.Proofs.Ytplcipjlkogadaa.P
open Go.RowKit Go.Proofs.YtplcipjlkogadaaW.PrintWords Go.Proofs.YtplcipjlkogadaaW.PrintLast Go.Proofs.YtplcipjlkogadaaW.PrintMore
attribute [local go_sem] max2_int min2_int max_two min_two max_three min_three max_four min_four
set_option maxHeartbeats 8000000 in
theorem slices_IndexFunc_Row.calls (F : Nat) (cv : Value) (p : List Int → Bool) (A0 : Option Addr) (c0 : Nat) (l0 : List (List Int)) (w : World) (hr0 : Kd.C (Kd.slice 3 (Kd.int .i64)) w A0 l0.length l0) (hc0 : l0.length ≤ c0)
    (hE : ∀ (args : Array Value) (W : World), (callFunc F args).run Try.prog W = .ok (.enter F args) W)
    (hF : ∀ (A : Option Addr) (c : Nat) (x : List Int) (W : World), x ∈ l0 → Below w.heap.size w W → x.length ≤ c → (Kd.int .i64).C W A x.length x → Calls Try.prog F #[.slice A x.length c, cv] W fun e w' => e = .returned (.bool (p x)) ∧ Below W.heap.size W w') :
    Calls Try.prog 82 #[.slice A0 l0.length c0, .func (.func F) #[] #[cv]] w fun e w' => e = .returned (.int .i64 (H.idxB p l0)) ∧ Below w.heap.size w w' := by
  have HR := Aside0.mk hr0
  have HF := Aside0.mk hF
  have hn := hr0.2.1
  clear hr0 hF
  go_enter Try.func82, Try.ntmps82
  go_wp2
  go_loopw [8] (fun v8 wr => ∃ i : Nat, v8 = .int .i64 i ∧ i ≤ l0.length ∧ Aside0 (∀ j, j < i → p (l0.getD j []) = false) ∧ Aside0 (Below w.heap.size w wr)) (fun v8 _ => l0.length - (intOf v8).toNat)
  case atStart => exact ⟨0, rfl, Nat.zero_le _, ⟨by intro j h; omega⟩, ⟨Below.refl _ _⟩⟩
  case round =>
    obtain ⟨i, rfl, hi, HA, HB⟩ := hrel
    by_cases hlt : i < l0.length
    · obtain ⟨ad, A1, c1, e, h0, h1, h2⟩ := at_L1 HR.out (i : Int) (by omega) (by omega)
      cases e
      have hm : rd_L1 l0 (i : Int) ∈ l0 := by
        unfold rd_L1
        rw [Int.toNat_natCast, List.getD_eq_getElem?_getD, List.getElem?_eq_getElem hlt]
        exact List.getElem_mem hlt
      replace h0 := (HB.out.cell (World.block_lt_of_cell? w _ h0)).trans h0
      rw [Int.toNat_natCast] at h0
      have H2 := Aside0.mk (Kd.C_below h2 HB.out)
      clear h2
      have HX : ∃ x, rd_L1 l0 (i : Int) = x := ⟨_, rfl⟩
      obtain ⟨x, hx⟩ := HX
      rw [hx] at h0 h1 hm H2
      have hx' : l0.getD i [] = x := by rw [← hx]; rfl
      have HX := Aside0.mk hx'
      clear hx hx'
      go_wp2_with fail
      refine (HF.out A1 c1 x _ hm HB.out h1 H2.out).mono ?_
      rintro e w' ⟨rfl, hb⟩
      have HB' := Aside0.mk (HB.out.trans (hb.mono HB.out.size))
      clear hb HB h0 h1
      cases hp : p x with
      | true =>
        have HP := Aside0.mk hp
        clear hp
        go_wp2
        go_ret
        exact ⟨H.ret_int (H.idxB_at [] hlt (by rw [HX.out]; exact HP.out) HA.out), HB'.out⟩
      | false =>
        have HP := Aside0.mk hp
        clear hp
        go_wp2
        go_roundw
        case rel => exact ⟨i + 1, by go_num, by omega, ⟨fun j hj => by rcases Nat.lt_succ_iff_lt_or_eq.1 hj with h | rfl; exact HA.out j h; rw [HX.out]; exact HP.out⟩, HB'⟩
        case measure => simp [intOf]; omega
    · go_wp2
      go_ret
      exact ⟨H.ret_int (H.idxB_none [] (fun j hj => HA.out j (by omega))), HB.out⟩
set_option maxHeartbeats 8000000 in
theorem slices_IndexFunc_Row2.calls (F : Nat) (cv cv2 : Value) (p : List Int → Bool) (A0 : Option Addr) (c0 : Nat) (l0 : List (List Int)) (w : World) (hr0 : Kd.C (Kd.slice 3 (Kd.int .i64)) w A0 l0.length l0) (hc0 : l0.length ≤ c0)
    (hE : ∀ (args : Array Value) (W : World), (callFunc F args).run Try.prog W = .ok (.enter F args) W)
    (hF : ∀ (A : Option Addr) (c : Nat) (x : List Int) (W : World), x ∈ l0 → Below w.heap.size w W → x.length ≤ c → (Kd.int .i64).C W A x.length x → Calls Try.prog F #[.slice A x.length c, cv, cv2] W fun e w' => e = .returned (.bool (p x)) ∧ Below W.heap.size W w') :
    Calls Try.prog 82 #[.slice A0 l0.length c0, .func (.func F) #[] #[cv, cv2]] w fun e w' => e = .returned (.int .i64 (H.idxB p l0)) ∧ Below w.heap.size w w' := by
  have HR := Aside0.mk hr0
  have HF := Aside0.mk hF
  have hn := hr0.2.1
  clear hr0 hF
  go_enter Try.func82, Try.ntmps82
  go_wp2
  go_loopw [8] (fun v8 wr => ∃ i : Nat, v8 = .int .i64 i ∧ i ≤ l0.length ∧ Aside0 (∀ j, j < i → p (l0.getD j []) = false) ∧ Aside0 (Below w.heap.size w wr)) (fun v8 _ => l0.length - (intOf v8).toNat)
  case atStart => exact ⟨0, rfl, Nat.zero_le _, ⟨by intro j h; omega⟩, ⟨Below.refl _ _⟩⟩
  case round =>
    obtain ⟨i, rfl, hi, HA, HB⟩ := hrel
    by_cases hlt : i < l0.length
    · obtain ⟨ad, A1, c1, e, h0, h1, h2⟩ := at_L1 HR.out (i : Int) (by omega) (by omega)
      cases e
      have hm : rd_L1 l0 (i : Int) ∈ l0 := by
        unfold rd_L1
        rw [Int.toNat_natCast, List.getD_eq_getElem?_getD, List.getElem?_eq_getElem hlt]
        exact List.getElem_mem hlt
      replace h0 := (HB.out.cell (World.block_lt_of_cell? w _ h0)).trans h0
      rw [Int.toNat_natCast] at h0
      have H2 := Aside0.mk (Kd.C_below h2 HB.out)
      clear h2
      have HX : ∃ x, rd_L1 l0 (i : Int) = x := ⟨_, rfl⟩
      obtain ⟨x, hx⟩ := HX
      rw [hx] at h0 h1 hm H2
      have hx' : l0.getD i [] = x := by rw [← hx]; rfl
      have HX := Aside0.mk hx'
      clear hx hx'
      go_wp2_with fail
      refine (HF.out A1 c1 x _ hm HB.out h1 H2.out).mono ?_
      rintro e w' ⟨rfl, hb⟩
      have HB' := Aside0.mk (HB.out.trans (hb.mono HB.out.size))
      clear hb HB h0 h1
      cases hp : p x with
      | true =>
        have HP := Aside0.mk hp
        clear hp
        go_wp2
        go_ret
        exact ⟨H.ret_int (H.idxB_at [] hlt (by rw [HX.out]; exact HP.out) HA.out), HB'.out⟩
      | false =>
        have HP := Aside0.mk hp
        clear hp
        go_wp2
        go_roundw
        case rel => exact ⟨i + 1, by go_num, by omega, ⟨fun j hj => by rcases Nat.lt_succ_iff_lt_or_eq.1 hj with h | rfl; exact HA.out j h; rw [HX.out]; exact HP.out⟩, HB'⟩
        case measure => simp [intOf]; omega
    · go_wp2
      go_ret
      exact ⟨H.ret_int (H.idxB_none [] (fun j hj => HA.out j (by omega))), HB.out⟩
end Go.Proofs.Ytplcipjlkogadaa.P

namespace Go.Proofs.Ytplcipjlkogadaa.P
open Go.RowKit Go.Proofs.YtplcipjlkogadaaW.PrintWords Go.Proofs.YtplcipjlkogadaaW.PrintLast Go.Proofs.YtplcipjlkogadaaW.PrintMore
attribute [local go_sem] max2_int min2_int max_two min_two max_three min_three max_four min_four
theorem slices_ContainsFunc_Row.calls (F : Nat) (cv : Value) (p : List Int → Bool) (A0 : Option Addr) (c0 : Nat) (l0 : List (List Int)) (w : World) (hr0 : Kd.C (Kd.slice 3 (Kd.int .i64)) w A0 l0.length l0) (hc0 : l0.length ≤ c0)
    (hE : ∀ (args : Array Value) (W : World), (callFunc F args).run Try.prog W = .ok (.enter F args) W)
    (hF : ∀ (A : Option Addr) (c : Nat) (x : List Int) (W : World), x ∈ l0 → Below w.heap.size w W → x.length ≤ c → (Kd.int .i64).C W A x.length x → Calls Try.prog F #[.slice A x.length c, cv] W fun e w' => e = .returned (.bool (p x)) ∧ Below W.heap.size W w') :
    Calls Try.prog 57 #[.slice A0 l0.length c0, .func (.func F) #[] #[cv]] w fun e w' => e = .returned (.bool (l0.any p)) ∧ Below w.heap.size w w' := by
  have HC := Aside0.mk (slices_IndexFunc_Row.calls F cv p A0 c0 l0 w hr0 hc0 hE hF)
  clear hr0 hF hE
  go_enter Try.func57, Try.ntmps57
  go_wp2_with fail
  refine HC.out.mono ?_
  rintro e w' ⟨rfl, hb⟩
  have HB := Aside0.mk hb
  clear hb
  go_wp2
  go_ret
  exact ⟨H.ret_bool (H.idxB_any p l0), HB.out⟩
theorem slices_ContainsFunc_Row2.calls (F : Nat) (cv cv2 : Value) (p : List Int → Bool) (A0 : Option Addr) (c0 : Nat) (l0 : List (List Int)) (w : World) (hr0 : Kd.C (Kd.slice 3 (Kd.int .i64)) w A0 l0.length l0) (hc0 : l0.length ≤ c0)
    (hE : ∀ (args : Array Value) (W : World), (callFunc F args).run Try.prog W = .ok (.enter F args) W)
    (hF : ∀ (A : Option Addr) (c : Nat) (x : List Int) (W : World), x ∈ l0 → Below w.heap.size w W → x.length ≤ c → (Kd.int .i64).C W A x.length x → Calls Try.prog F #[.slice A x.length c, cv, cv2] W fun e w' => e = .returned (.bool (p x)) ∧ Below W.heap.size W w') :
    Calls Try.prog 57 #[.slice A0 l0.length c0, .func (.func F) #[] #[cv, cv2]] w fun e w' => e = .returned (.bool (l0.any p)) ∧ Below w.heap.size w w' := by
  have HC := Aside0.mk (slices_IndexFunc_Row2.calls F cv cv2 p A0 c0 l0 w hr0 hc0 hE hF)
  clear hr0 hF hE
  go_enter Try.func57, Try.ntmps57
  go_wp2_with fail
  refine HC.out.mono ?_
  rintro e w' ⟨rfl, hb⟩
  have HB := Aside0.mk hb
  clear hb
  go_wp2
  go_ret
  exact ⟨H.ret_bool (H.idxB_any p l0), HB.out⟩
end Go.Proofs.Ytplcipjlkogadaa.P

namespace Go.Proofs.Ytplcipjlkogadaa.P
open Go.RowKit Go.Proofs.YtplcipjlkogadaaW.PrintWords Go.Proofs.YtplcipjlkogadaaW.PrintLast Go.Proofs.YtplcipjlkogadaaW.PrintMore
attribute [local go_sem] max2_int min2_int max_two min_two max_three min_three max_four min_four
def impl_rising.l0 : Nat → List Int → Int → Int → List Int → Int → Int → Option (Bool)
  | 0, _, _, _, _, _, _ => none
  | k + 1, x0, x1, x2, x9, x10, x11 => if x11 < x10 then (if 0 ≤ x11 then (if x11 < (x9.length : Int) then ((impl_within.f (rd x9 x11) x1 x2).bind fun t130 => (if t130 = true then (if x11 > 0 then (if 0 ≤ (wrap64 (x11 - 1)) then (if (wrap64 (x11 - 1)) < (x0.length : Int) then (if (rd x0 (wrap64 (x11 - 1))) ≥ (rd x9 x11) then (some false) else (impl_rising.l0 k x0 x1 x2 x9 x10 (wrap64 (x11 + 1)))) else (none)) else (none)) else (impl_rising.l0 k x0 x1 x2 x9 x10 (wrap64 (x11 + 1)))) else (some false))) else (none)) else (none)) else (some true)
def impl_rising.f (k : Nat) (l0 : List Int) (a1 : Int) (a2 : Int) : Option (Bool) := impl_rising.l0 k l0 a1 a2 l0 (l0.length : Int) 0
set_option maxHeartbeats 8000000 in
set_option maxRecDepth 100000 in
theorem impl_rising.calls (k : Nat) (A0 : Option Addr) (c0 : Nat) (l0 : List Int) (a1 : Int) (a2 : Int) (r : Bool) (w : World) (hr0 : Kd.C (Kd.int .i64) w A0 l0.length l0) (hc0 : l0.length ≤ c0) (h : impl_rising.f k l0 a1 a2 = some r) :
    Calls Try.prog 59 #[.slice A0 l0.length c0, .int .i64 a1, .int .i64 a2] w fun e w' => e = .returned (.bool r) ∧ Drawn0 w w' := by
  have HR0 := Aside0.mk hr0
  have HC0 := Aside0.mk hc0
  clear hr0 hc0
  have H : (impl_rising.l0 k l0 a1 a2 l0 (l0.length : Int) 0) = some r := h
  clear h
  have H' := Aside0.mk H
  clear H
  go_enter Try.func59, Try.ntmps59
  go_wp2
  go_loopg [11] k (fun kq v11 w' => ∃ (x11_1 : Int), v11 = .int .i64 x11_1 ∧ Aside0 (impl_rising.l0 kq l0 a1 a2 l0 (l0.length : Int) x11_1 = some r) ∧ Aside0 (kq ≤ k) ∧ Drawn0 w w')
  case atStart => exact ⟨(0), (by first | rfl | (simp; done) | (simp [*]; done)), H', ⟨Nat.le_refl _⟩, by repeat (first | exact Drawn0.refl _ | apply Drawn0.step)⟩
  case round =>
    clear H'
    try clear p2
    obtain ⟨x11_1, rfl, HA, HK1, ⟨m1, rfl⟩⟩ := hrel
    cases gk with
    | zero => exact absurd HA.out (by simp [impl_rising.l0])
    | succ k1 =>
      have H := HA.out
      clear HA
      simp only [impl_rising.l0] at H
      by_cases c4 : x11_1 < (l0.length : Int)
      · rw [if_pos c4] at H
        have c4b0 : decide (x11_1 < (l0.length : Int)) = true := decide_eq_true c4
        clear c4
        by_cases c5 : 0 ≤ x11_1
        · rw [if_pos c5] at H
          have c5b0 : decide (0 ≤ x11_1) = true := decide_eq_true c5
          clear c5
          by_cases c6 : x11_1 < (l0.length : Int)
          · rw [if_pos c6] at H
            have c6b0 : decide (x11_1 < (l0.length : Int)) = true := decide_eq_true c6
            clear c6
            replace H := Option.bind_eq_some_iff.mp H
            obtain ⟨t130, A70, H⟩ := H
            replace H : (if t130 = true then (if x11_1 > 0 then (if 0 ≤ (wrap64 (x11_1 - 1)) then (if (wrap64 (x11_1 - 1)) < (l0.length : Int) then (if (rd l0 (wrap64 (x11_1 - 1))) ≥ (rd l0 x11_1) then (some false) else (impl_rising.l0 k1 l0 a1 a2 l0 (l0.length : Int) (wrap64 (x11_1 + 1)))) else (none)) else (none)) else (impl_rising.l0 k1 l0 a1 a2 l0 (l0.length : Int) (wrap64 (x11_1 + 1)))) else (some false)) = some r := H
            have A7 := Aside0.mk A70
            clear A70
            by_cases c8 : t130 = true
            · subst c8
              have H1 : (if x11_1 > 0 then (if 0 ≤ (wrap64 (x11_1 - 1)) then (if (wrap64 (x11_1 - 1)) < (l0.length : Int) then (if (rd l0 (wrap64 (x11_1 - 1))) ≥ (rd l0 x11_1) then (some false) else (impl_rising.l0 k1 l0 a1 a2 l0 (l0.length : Int) (wrap64 (x11_1 + 1)))) else (none)) else (none)) else (impl_rising.l0 k1 l0 a1 a2 l0 (l0.length : Int) (wrap64 (x11_1 + 1)))) = some r := by rw [if_pos rfl] at H; exact H
              clear H
              have H := H1
              clear H1
              by_cases c9 : x11_1 > 0
              · rw [if_pos c9] at H
                have c9b0 : decide (0 < x11_1) = true := decide_eq_true c9
                clear c9
                obtain ⟨ji10, hji10⟩ : ∃ j_ : Int, (wrap64 (x11_1 - 1)) = j_ := ⟨_, rfl⟩
                replace H : (if 0 ≤ (ji10) then (if (ji10) < (l0.length : Int) then (if (rd l0 (ji10)) ≥ (rd l0 x11_1) then (some false) else (impl_rising.l0 k1 l0 a1 a2 l0 (l0.length : Int) (wrap64 (x11_1 + 1)))) else (none)) else (none)) = some r := by first | (rw [hji10] at H; exact H) | (simp only [hji10] at H ⊢; exact H)
                (try rw [hji10] at A7)
                have hji10w : (IntKind.i64.wrap (x11_1 - 1)) = ji10 := (i64_w _).trans hji10
                by_cases c11 : 0 ≤ (ji10)
                · rw [if_pos c11] at H
                  have c11b0 : decide (0 ≤ (ji10)) = true := decide_eq_true c11
                  clear c11
                  by_cases c12 : (ji10) < (l0.length : Int)
                  · rw [if_pos c12] at H
                    have c12b0 : decide ((ji10) < (l0.length : Int)) = true := decide_eq_true c12
                    clear c12
                    by_cases c13 : (rd l0 (ji10)) ≥ (rd l0 x11_1)
                    · rw [if_pos c13] at H
                      have c13b0 : decide ((rd l0 x11_1) ≤ (rd l0 (ji10))) = true := decide_eq_true c13
                      clear c13
                      as_aux_lemma =>
                        obtain rfl := Option.some.inj H
                        have p129 : 0 ≤ (x11_1 : Int) := of_decide_eq_true (by first | (with_reducible assumption) | assumption)
                        have q129 : x11_1 < (l0.length : Int) := of_decide_eq_true (by first | (with_reducible assumption) | assumption)
                        obtain ⟨ad129, e129, hx129_0⟩ := Kd.at_int HR0.out x11_1 p129 q129
                        cases e129
                        replace p129 := eq_true p129
                        replace q129 := eq_true q129
                        go_wp2_with (first | ((with_reducible refine gate_callee (f := 56) rfl ?_); refine goesL_ (some 19) rfl rfl Try.func56 (by kernel_rfl) rfl #[.int .i64 (rd l0 x11_1), .int .i64 a1, .int .i64 a2] rfl (by (try simp only [List.map_toArray, List.map_cons, List.map_nil]); first | done | rfl | (simp only [List.length_drop, List.length_take]; rfl)) ?_; (with_reducible refine (impl_within.calls (rd l0 x11_1) a1 a2 true _ A7.out).mono ?_); rintro e w' ⟨rfl, ⟨nd, rfl⟩⟩; refine ⟨_, rfl, ?_⟩; have p131 : 0 ≤ ((ji10) : Int) := of_decide_eq_true (by first | (with_reducible assumption) | assumption); have q131 : (ji10) < (l0.length : Int) := of_decide_eq_true (by first | (with_reducible assumption) | assumption); obtain ⟨ad131, e131, hx131_0⟩ := Kd.at_int HR0.out (ji10) p131 q131; obtain rfl : ad129 = ad131 := (by injection e131); replace p131 := eq_true p131; replace q131 := eq_true q131))
                        go_ret
                        exact ⟨by first | rfl | (simp; done) | (simp only [← hji10] <;> (first | rfl | simp)) | (simp [*]; done), by repeat (first | exact Drawn0.refl _ | apply Drawn0.step)⟩
                    · rw [if_neg c13] at H
                      have c13b0 : decide ((rd l0 x11_1) ≤ (rd l0 (ji10))) = false := decide_eq_false c13
                      clear c13
                      as_aux_lemma =>
                        have H' := Aside0.mk H
                        clear H
                        have p129 : 0 ≤ (x11_1 : Int) := of_decide_eq_true (by first | (with_reducible assumption) | assumption)
                        have q129 : x11_1 < (l0.length : Int) := of_decide_eq_true (by first | (with_reducible assumption) | assumption)
                        obtain ⟨ad129, e129, hx129_0⟩ := Kd.at_int HR0.out x11_1 p129 q129
                        cases e129
                        replace p129 := eq_true p129
                        replace q129 := eq_true q129
                        go_wp2_with (first | ((with_reducible refine gate_callee (f := 56) rfl ?_); refine goesL_ (some 19) rfl rfl Try.func56 (by kernel_rfl) rfl #[.int .i64 (rd l0 x11_1), .int .i64 a1, .int .i64 a2] rfl (by (try simp only [List.map_toArray, List.map_cons, List.map_nil]); first | done | rfl | (simp only [List.length_drop, List.length_take]; rfl)) ?_; (with_reducible refine (impl_within.calls (rd l0 x11_1) a1 a2 true _ A7.out).mono ?_); rintro e w' ⟨rfl, ⟨nd, rfl⟩⟩; refine ⟨_, rfl, ?_⟩; have p131 : 0 ≤ ((ji10) : Int) := of_decide_eq_true (by first | (with_reducible assumption) | assumption); have q131 : (ji10) < (l0.length : Int) := of_decide_eq_true (by first | (with_reducible assumption) | assumption); obtain ⟨ad131, e131, hx131_0⟩ := Kd.at_int HR0.out (ji10) p131 q131; obtain rfl : ad129 = ad131 := (by injection e131); replace p131 := eq_true p131; replace q131 := eq_true q131))
                        go_roundg k1
                        case measure => have := HK1.out; omega
                        case rel => exact ⟨(wrap64 (x11_1 + 1)), (by first | rfl | (simp; done) | (simp [*]; done)), H', ⟨by have := HK1.out; omega⟩, by repeat (first | exact Drawn0.refl _ | apply Drawn0.step)⟩
                  · rw [if_neg c12] at H
                    exact absurd H (by simp)
                · rw [if_neg c11] at H
                  exact absurd H (by simp)
              · rw [if_neg c9] at H
                have c9b0 : decide (0 < x11_1) = false := decide_eq_false c9
                clear c9
                as_aux_lemma =>
                  have H' := Aside0.mk H
                  clear H
                  have p129 : 0 ≤ (x11_1 : Int) := of_decide_eq_true (by first | (with_reducible assumption) | assumption)
                  have q129 : x11_1 < (l0.length : Int) := of_decide_eq_true (by first | (with_reducible assumption) | assumption)
                  obtain ⟨ad129, e129, hx129_0⟩ := Kd.at_int HR0.out x11_1 p129 q129
                  cases e129
                  replace p129 := eq_true p129
                  replace q129 := eq_true q129
                  go_wp2_with (first | ((with_reducible refine gate_callee (f := 56) rfl ?_); refine goesL_ (some 19) rfl rfl Try.func56 (by kernel_rfl) rfl #[.int .i64 (rd l0 x11_1), .int .i64 a1, .int .i64 a2] rfl (by (try simp only [List.map_toArray, List.map_cons, List.map_nil]); first | done | rfl | (simp only [List.length_drop, List.length_take]; rfl)) ?_; (with_reducible refine (impl_within.calls (rd l0 x11_1) a1 a2 true _ A7.out).mono ?_); rintro e w' ⟨rfl, ⟨nd, rfl⟩⟩; refine ⟨_, rfl, ?_⟩))
                  go_roundg k1
                  case measure => have := HK1.out; omega
                  case rel => exact ⟨(wrap64 (x11_1 + 1)), (by first | rfl | (simp; done) | (simp [*]; done)), H', ⟨by have := HK1.out; omega⟩, by repeat (first | exact Drawn0.refl _ | apply Drawn0.step)⟩
            · replace c8 := Bool.eq_false_iff.mpr c8
              subst c8
              have H1 : (some false) = some r := by rw [if_neg (show ¬ (false = true) by decide)] at H; exact H
              clear H
              have H := H1
              clear H1
              as_aux_lemma =>
                obtain rfl := Option.some.inj H
                have p129 : 0 ≤ (x11_1 : Int) := of_decide_eq_true (by first | (with_reducible assumption) | assumption)
                have q129 : x11_1 < (l0.length : Int) := of_decide_eq_true (by first | (with_reducible assumption) | assumption)
                obtain ⟨ad129, e129, hx129_0⟩ := Kd.at_int HR0.out x11_1 p129 q129
                cases e129
                replace p129 := eq_true p129
                replace q129 := eq_true q129
                go_wp2_with (first | ((with_reducible refine gate_callee (f := 56) rfl ?_); refine goesL_ (some 19) rfl rfl Try.func56 (by kernel_rfl) rfl #[.int .i64 (rd l0 x11_1), .int .i64 a1, .int .i64 a2] rfl (by (try simp only [List.map_toArray, List.map_cons, List.map_nil]); first | done | rfl | (simp only [List.length_drop, List.length_take]; rfl)) ?_; (with_reducible refine (impl_within.calls (rd l0 x11_1) a1 a2 false _ A7.out).mono ?_); rintro e w' ⟨rfl, ⟨nd, rfl⟩⟩; refine ⟨_, rfl, ?_⟩))
                go_ret
                exact ⟨by first | rfl | (simp; done) | (simp [*]; done), by repeat (first | exact Drawn0.refl _ | apply Drawn0.step)⟩
          · rw [if_neg c6] at H
            exact absurd H (by simp)
        · rw [if_neg c5] at H
          exact absurd H (by simp)
      · rw [if_neg c4] at H
        have c4b0 : decide (x11_1 < (l0.length : Int)) = false := decide_eq_false c4
        clear c4
        as_aux_lemma =>
          obtain rfl := Option.some.inj H
          go_wp2
          go_ret
          exact ⟨by first | rfl | (simp; done) | (simp [*]; done), by repeat (first | exact Drawn0.refl _ | apply Drawn0.step)⟩
end Go.Proofs.Ytplcipjlkogadaa.P

namespace Go.Proofs.Ytplcipjlkogadaa.P
open Go.RowKit Go.Proofs.YtplcipjlkogadaaW.PrintWords Go.Proofs.YtplcipjlkogadaaW.PrintLast Go.Proofs.YtplcipjlkogadaaW.PrintMore
attribute [local go_sem] max2_int min2_int max_two min_two max_three min_three max_four min_four
theorem impl_within.tell (a b c : Int) : impl_within.f a b c = some (decide (b ≤ a) && decide (a ≤ c)) := by
  unfold impl_within.f
  by_cases h : a ≥ b
  · rw [if_pos h, decide_eq_true h, Bool.true_and]
  · rw [if_neg h, decide_eq_false h, Bool.false_and]
theorem impl_rising.ends (l : List Int) (lo hi : Int) (hn : l.length ≤ 9223372036854775807) : ∃ k, impl_rising.f k l lo hi = some (H.upB l lo hi 0) := by
  apply Ev.rounds
  unfold impl_rising.f
  refine H.down0 (n := l.length) (p := fun i => Ev (fun k => impl_rising.l0 k l lo hi l (l.length : Int) (i : Int)) (H.upB l lo hi i)) ?h0 ?hs
  case h0 =>
    rw [H.upB_end]
    exact Ev.step (f := fun _ => some true) (fun k => by simp only [impl_rising.l0]; rw [if_neg (by omega)]) (Ev.now _)
  case hs =>
    intro i hi' ih
    rw [H.upB_step l lo hi hi']
    have hr : rd l (i : Int) = l.getD i 0 := rfl
    by_cases c : (decide (lo ≤ l.getD i 0) && decide (l.getD i 0 ≤ hi)) = true
    · by_cases ci : i = 0
      · have e : H.upAt l lo hi i = true := by unfold H.upAt; rw [c, ci]; rfl
        rw [e, Bool.true_and]
        refine Ev.step (fun k => ?_) ih
        simp only [impl_rising.l0]
        rw [if_pos (by omega), if_pos (by omega), if_pos (by omega), hr, impl_within.tell, c, Option.bind_some, if_pos rfl, if_neg (by omega), H.w64 (by omega) (by omega)]
        rfl
      · have ew : wrap64 ((i : Int) - 1) = ((i - 1 : Nat) : Int) := by rw [H.w64 (by omega) (by omega)]; omega
        have hr1 : rd l (wrap64 ((i : Int) - 1)) = l.getD (i - 1) 0 := by rw [ew]; rfl
        by_cases c2 : l.getD (i - 1) 0 < l.getD i 0
        · have e : H.upAt l lo hi i = true := by unfold H.upAt; rw [c, decide_eq_true c2]; simp
          rw [e, Bool.true_and]
          refine Ev.step (fun k => ?_) ih
          simp only [impl_rising.l0]
          rw [if_pos (by omega), if_pos (by omega), if_pos (by omega), hr, impl_within.tell, c, Option.bind_some, if_pos rfl, if_pos (by omega), if_pos (by rw [ew]; omega), if_pos (by rw [ew]; omega), hr1, if_neg (by omega), H.w64 (by omega) (by omega)]
          rfl
        · have e : H.upAt l lo hi i = false := by unfold H.upAt; rw [c, decide_eq_false c2, decide_eq_false ci]; rfl
          rw [e, Bool.false_and]
          refine Ev.step (f := fun _ => some false) (fun k => ?_) (Ev.now _)
          simp only [impl_rising.l0]
          rw [if_pos (by omega), if_pos (by omega), if_pos (by omega), hr, impl_within.tell, c, Option.bind_some, if_pos rfl, if_pos (by omega), if_pos (by rw [ew]; omega), if_pos (by rw [ew]; omega), hr1, if_pos (by omega)]
    · have c' : (decide (lo ≤ l.getD i 0) && decide (l.getD i 0 ≤ hi)) = false := by simpa using c
      have e : H.upAt l lo hi i = false := by unfold H.upAt; rw [c', Bool.false_and]
      rw [e, Bool.false_and]
      refine Ev.step (f := fun _ => some false) (fun k => ?_) (Ev.now _)
      simp only [impl_rising.l0]
      rw [if_pos (by omega), if_pos (by omega), if_pos (by omega), hr, impl_within.tell, c', Option.bind_some, if_neg (by simp)]
set_option maxHeartbeats 8000000 in
theorem impl_GoodGraph_1.calls (g : Addr) (Ag : Option Addr) (cg n : Nat) (A : Option Addr) (c : Nat) (l : List Int) (w : World) (hl : l.length ≤ c) (hr : Kd.C (Kd.int .i64) w A l.length l) (hg : w.cell? g = some (.slice Ag n cg)) (hn1 : 1 ≤ n) (hn2 : n ≤ 12) :
    Calls Try.prog 58 #[.slice A l.length c, .pointer (some g)] w fun e w' => e = .returned (.bool (!H.upB l 0 ((n : Int) - 1) 0)) ∧ Below w.heap.size w w' := by
  obtain ⟨k, hk⟩ := impl_rising.ends l 0 ((n : Int) - 1) (by have := hr.2.1; omega)
  have HC := Aside0.mk (impl_rising.calls k A c l 0 ((n : Int) - 1) _ w hr hl hk)
  have ew : IntKind.i64.wrap ((n : Int) - 1) = (n : Int) - 1 := (i64_w _).trans (H.w64 (by omega) (by omega))
  have EW := Aside0.mk ew
  clear hr hk ew
  obtain ⟨rr, hrr⟩ : ∃ rr, H.upB l 0 ((n : Int) - 1) 0 = rr := ⟨_, rfl⟩
  rw [hrr] at HC ⊢
  clear hrr
  go_enter Try.func58, Try.ntmps58
  go_wp2_with fail
  refine HC.out.mono ?_
  rintro e w' ⟨rfl, ⟨m, rfl⟩⟩
  go_wp2
  go_ret
  exact ⟨rfl, pw_below_drewN (Below.refl _ _) m⟩
end Go.Proofs.Ytplcipjlkogadaa.P

namespace Go.Proofs.Ytplcipjlkogadaa.P
open Go.RowKit Go.Proofs.YtplcipjlkogadaaW.PrintWords Go.Proofs.YtplcipjlkogadaaW.PrintLast Go.Proofs.YtplcipjlkogadaaW.PrintMore
attribute [local go_sem] max2_int min2_int max_two min_two max_three min_three max_four min_four
def impl_GoodGraph.f (l0_0 : List (List Int)) : Option (Bool) := some (H.goodG l0_0)
set_option maxHeartbeats 8000000 in
theorem impl_GoodGraph.calls (A0_0 : Option Addr) (c0_0 : Nat) (l0_0 : List (List Int)) (r : Bool) (w : World) (hr0_0 : Kd.C (Kd.slice 3 (Kd.int .i64)) w A0_0 l0_0.length l0_0) (hc0_0 : l0_0.length ≤ c0_0) (h : impl_GoodGraph.f l0_0 = some r) :
    Calls Try.prog 18 #[.agg #[.slice A0_0 l0_0.length c0_0]] w fun e w' => e = .returned (.bool r) ∧ Below w.heap.size w w' := by
  obtain rfl := Option.some.inj h
  clear h
  have hn := hr0_0.2.1
  have HW := Aside0.mk (fun (m : Nat) (n : Int) (W : World) => impl_within.calls n 1 12 _ W (impl_within.tell n 1 12))
  have HR := Aside0.mk hr0_0
  have HC0 := Aside0.mk hc0_0
  clear hr0_0 hc0_0
  by_cases c : 1 ≤ l0_0.length ∧ l0_0.length ≤ 12
  · have c' : (decide (1 ≤ (l0_0.length : Int)) && decide ((l0_0.length : Int) ≤ 12)) = true := by simp; omega
    have HG := Aside0.mk (show H.goodG l0_0 = !l0_0.any (fun l => !H.upB l 0 ((l0_0.length : Int) - 1) 0) by unfold H.goodG; rw [decide_eq_true c.1, decide_eq_true c.2, Bool.true_and, Bool.true_and, List.all_eq_not_any_not])
    obtain ⟨rr, hrr⟩ : ∃ rr, H.goodG l0_0 = rr := ⟨_, rfl⟩
    rw [hrr] at HG ⊢
    clear hrr
    have C := Aside0.mk c
    clear c
    go_enter Try.func18, Try.ntmps18
    go_wp2_with (first | (go_at_call 56; refine (HW.out 0 _ _).mono ?_; rw [c']; rintro e w' ⟨rfl, ⟨m, rfl⟩⟩) | (go_at_call 57; fail))
    have hbx : World.cell? ((w.alloc (Obj.cells #[Value.slice A0_0 l0_0.length c0_0] 27)).drewN m) ⟨w.heap.size, 0, none⟩ = some (Value.slice A0_0 l0_0.length c0_0) := blk_cell (blk_drewN (blk_new w _) m) 0
    have HB := Aside0.mk (pw_below_drewN (below_alloc (Below.refl w.heap.size w) (Obj.cells #[Value.slice A0_0 l0_0.length c0_0] 27)) m)
    generalize hW : World.drewN (w.alloc (Obj.cells #[Value.slice A0_0 l0_0.length c0_0] 27)) m = W0 at hbx HB ⊢
    clear hW
    refine (slices_ContainsFunc_Row.calls 58 _ (fun l => !H.upB l 0 ((l0_0.length : Int) - 1) 0) A0_0 c0_0 l0_0 W0 (Kd.C_below HR.out HB.out) HC0.out (fun _ _ => by go_simp) (fun A c x W hx hb hl hr => impl_GoodGraph_1.calls ⟨w.heap.size, 0, none⟩ A0_0 c0_0 l0_0.length A c x W hl hr ((hb.cell (World.block_lt_of_cell? W0 _ hbx)).trans hbx) C.out.1 C.out.2)).mono ?_
    rintro e w' ⟨rfl, hb⟩
    have HB' := Aside0.mk (HB.out.trans (hb.mono HB.out.size))
    clear hb HB
    go_wp2
    go_ret
    exact ⟨H.ret_bool HG.out.symm, HB'.out⟩
  · have c' : (decide (1 ≤ (l0_0.length : Int)) && decide ((l0_0.length : Int) ≤ 12)) = false := by simp; omega
    have HG := Aside0.mk (show H.goodG l0_0 = false by unfold H.goodG; have : (decide (1 ≤ l0_0.length) && decide (l0_0.length ≤ 12)) = false := (by simp; omega); rw [this, Bool.false_and])
    obtain ⟨rr, hrr⟩ : ∃ rr, H.goodG l0_0 = rr := ⟨_, rfl⟩
    rw [hrr] at HG ⊢
    obtain rfl := HG.out
    clear hrr c
    go_enter Try.func18, Try.ntmps18
    go_wp2_with (go_at_call 56; refine (HW.out 0 _ _).mono ?_; rw [c']; rintro e w' ⟨rfl, ⟨m, rfl⟩⟩)
    go_ret
    exact ⟨rfl, pw_below_drewN (below_alloc (Below.refl w.heap.size w) _) m⟩
end Go.Proofs.Ytplcipjlkogadaa.P

namespace Go.Proofs.Ytplcipjlkogadaa.P
open Go.RowKit Go.Proofs.YtplcipjlkogadaaW.PrintWords Go.Proofs.YtplcipjlkogadaaW.PrintLast Go.Proofs.YtplcipjlkogadaaW.PrintMore
attribute [local go_sem] max2_int min2_int max_two min_two max_three min_three max_four min_four
theorem madeCells12 (n : Nat) : madeCells #[.bool false, .bool false, .bool false, .bool false, .bool false, .bool false, .bool false, .bool false, .bool false, .bool false, .bool false, .bool false] (n * 12) = H.bcells (List.replicate n H.none12).flatten := by
  unfold H.none12
  rw [List.flatten_replicate_replicate]
  apply Array.ext
  · rw [size_madeCells, H.bcells_size, List.length_replicate]
  · intro i h1 h2
    have h3 : i % 12 < 12 := Nat.mod_lt _ (by decide)
    have e : ∀ k, k < 12 → (#[Value.bool false, .bool false, .bool false, .bool false, .bool false, .bool false, .bool false, .bool false, .bool false, .bool false, .bool false, .bool false] : Array Value)[k]! = .bool false := by
      intro k hk
      match k, hk with
      | 0, _ | 1, _ | 2, _ | 3, _ | 4, _ | 5, _ | 6, _ | 7, _ | 8, _ | 9, _ | 10, _ | 11, _ => rfl
    simp only [madeCells, H.bcells, Array.getElem_map, Array.getElem_range, List.getElem_toArray, List.getElem_map, List.getElem_replicate]
    exact e _ h3
theorem make_sets (W : World) (n : Nat) (hn : n ≤ 1048576) : (Instr.makeSlice 69 (.int .i64 (n : Int)) (.int .i64 (n : Int))).run Try.prog W = .ok (.slice (some ⟨W.heap.size, 0, none⟩) n n) (W.alloc (.cells (H.bcells (List.replicate n H.none12).flatten) 64)) := by
  have hi : (Try.prog.info? 64).map (fun i => (i.zero, i.size, i.bytes)) = some (some (.agg #[.bool false, .bool false, .bool false, .bool false, .bool false, .bool false, .bool false, .bool false, .bool false, .bool false, .bool false, .bool false]), 12, 12) := by kernel_rfl
  obtain ⟨i, hq, hs⟩ := Option.map_eq_some_iff.1 hi
  simp only [Prod.mk.injEq] at hs
  have h := run_make (P := Try.prog) W 69 64 i _ Try.underlying69 hq hs.1 .i64 .i64 (n : Int) (n : Int) (by omega) (by omega) (by rw [hs.2.2]; omega) (by omega)
  rw [h, hs.2.1, Int.toNat_natCast]
  simp only [Value.cells]
  rw [madeCells12]
theorem visits_drop (wo : Int) (row : List Int) (s : List Bool × List Int) {i : Nat} (hi : i < row.length) : H.visits wo (row.drop i) s = H.visits wo (row.drop (i + 1)) (H.visit wo s (row.getD i 0)) := by
  rw [List.drop_eq_getElem_cons hi, List.getD_eq_getElem?_getD, List.getElem?_eq_getElem hi]
  rfl
set_option maxHeartbeats 8000000 in
set_option maxRecDepth 100000 in
theorem impl_reach.calls (p : Addr) (A0 : Option Addr) (c0 : Nat) (g : List (List Int)) (s wo : Int) (w : World) (hp0 : w.cell? p = some (.slice A0 g.length c0)) (hr0 : Kd.C (Kd.slice 3 (Kd.int .i64)) w A0 g.length g) (hG : H.goodG g = true) (h0 : 0 ≤ s) (h1 : s < (g.length : Int)) :
    Calls Try.prog 61 #[.pointer (some p), .int .i64 s, .int .i64 wo] w fun e w' => e = .returned (.agg (H.bcells (H.reachF g s wo))) ∧ Below w.heap.size w w' := by
  have hn0 := hr0.2.1
  have hr := H.goodG_rows hG
  have h12 : s < 12 := by omega
  have HP0 := Aside0.mk hp0
  have HR0 := Aside0.mk hr0
  have HG := Aside0.mk hG
  have HROW := Aside0.mk (H.goodG_row hG)
  have HLL := Aside0.mk hr.1
  have HI := Aside0.mk (show (Try.prog.info? 64).map (·.size) = some 12 by kernel_rfl)
  have HN := Aside0.mk (show H.none12.length = 12 from rfl)
  have HO := Aside0.mk (H.Own.nil w)
  have HB1 := Aside0.mk (show H.bcells H.none12 = #[.bool false, .bool false, .bool false, .bool false, .bool false, .bool false, .bool false, .bool false, .bool false, .bool false, .bool false, .bool false] from rfl)
  clear hp0 hr0 hr
  by_cases hs : s = wo
  · subst hs
    have hR : H.reachF g s s = H.none12 := by unfold H.reachF; rw [if_pos rfl]
    rw [hR]
    clear hR hG
    go_enter Try.func61, Try.ntmps61
    go_wp2_with (first | ((with_reducible refine gate_dst (N := 6) rfl ?_); refine H.own_box HO.out ?bxg (N := 6) ?bxd (cs := H.bcells H.none12) (t := 64) ?bxr ?_; (case bxd => rfl); (case bxg => rfl); (case bxr => first | (go_simp; done) | (go_simp; rfl)); intro ga w_ ho_ hb_; replace HO := Aside0.mk ho_; clear ho_ hb_) | ((with_reducible refine gate_dst (N := 7) rfl ?_); refine H.own_box HO.out ?bxg (N := 7) ?bxd (cs := H.bcells H.none12) (t := 64) ?bxr ?_; (case bxd => rfl); (case bxg => rfl); (case bxr => first | (go_simp; done) | (go_simp; rfl)); intro gb w_ ho_ hb_; replace HO := Aside0.mk ho_; clear ho_ hb_) | ((with_reducible refine gate_store (t := 64) (p := 7) rfl ?_); refine H.own_ball HO.out 1 (bs' := H.none12) rfl rfl rfl rfl rfl rfl HI.out rfl ?_; intro w_ ho_ hg_; replace HO := Aside0.mk ho_; clear ho_ hg_) | ((with_reducible refine gate_dst (N := 15) rfl ?_); refine wpList_load_row rfl 64 (.tmp 7) rfl _ rfl 64 _ (0, 0) _ (HO.out.get 1 rfl) Try.underlying64 rfl HI.out ?_) | ((with_reducible refine gate_store (t := 64) (p := 6) rfl ?_); refine H.own_ball HO.out 0 (bs' := H.none12) rfl rfl rfl rfl rfl rfl HI.out rfl ?_; intro w_ ho_ hg_; replace HO := Aside0.mk ho_; clear ho_ hg_))
    (try simp only [Exit.inBlock, Exit.then])
    refine bodyPost_ret (results_cell_row rfl _ _ ga _ (H.bcells H.none12) (0, 0) _ rfl (HO.out.get 0 rfl) Try.underlying64 rfl HI.out) rfl ?_
    exact ⟨rfl, HO.out.below⟩
  · obtain ⟨hb, _⟩ := H.reach_some hG h0 h1 hs
    have hst := H.srch_start g h0 h12 hs
    generalize H.reachF g s wo = R at hb
    have HBF := Aside0.mk hb
    have HST := Aside0.mk hst
    have hsb : (s == wo) = false := beq_eq_false_iff_ne.2 hs
    obtain ⟨s0, rfl⟩ : ∃ k : Nat, s = (k : Int) := ⟨s.toNat, by omega⟩
    have hs0 : s0 < 12 := by omega
    have HS0 := Aside0.mk hs0
    clear hb hst hG hs
    go_enter Try.func61, Try.ntmps61
    go_wp2_with (first | ((with_reducible refine gate_dst (N := 6) rfl ?_); refine H.own_box HO.out ?bxg (N := 6) ?bxd (cs := H.bcells H.none12) (t := 64) ?bxr ?_; (case bxd => rfl); (case bxg => rfl); (case bxr => first | (go_simp; done) | (go_simp; rfl)); intro ga w_ ho_ hb_; replace HO := Aside0.mk ho_; clear ho_ hb_) | ((with_reducible refine gate_dst (N := 7) rfl ?_); refine H.own_box HO.out ?bxg (N := 7) ?bxd (cs := H.bcells H.none12) (t := 64) ?bxr ?_; (case bxd => rfl); (case bxg => rfl); (case bxr => first | (go_simp; done) | (go_simp; rfl)); intro gb w_ ho_ hb_; replace HO := Aside0.mk ho_; clear ho_ hb_) | ((with_reducible refine gate_store (t := 64) (p := 7) rfl ?_); refine H.own_ball HO.out 1 (bs' := H.none12) rfl rfl rfl rfl rfl rfl HI.out rfl ?_; intro w_ ho_ hg_; replace HO := Aside0.mk ho_; clear ho_ hg_) | ((with_reducible refine gate_store (t := 4) (p := 17) rfl ?_); refine H.own_bput HO.out 1 rfl rfl rfl rfl rfl rfl (by kernel_rfl) (by rw [HN.out]; exact HS0.out) ?_; intro w_ ho_ hg_; replace HO := Aside0.mk ho_; clear ho_ hg_) | ((with_reducible refine gate_dst (N := 19) rfl ?_); refine Kd.R_lit (Kd.int .i64) (w0 := w) w.heap.size 3 ?hg (N := 19) ?hd (xs := [(s0 : Int)]) (inner := [.int .i64 (s0 : Int)]) (ok := fun _ => True) (okp := fun _ => True) ?hr ?hp (fun _ hk => hk) trivial HO.out.below HO.out.size (by simp) ?_; (case hd => rfl); (case hg => rfl); (case hr => first | (go_simp; done) | (go_simp; rfl)); (case hp => exact Reps.snoc (Reps.none _ _) rfl rfl); intro v8 w_ ho_ hb_ hg_ hnew_; replace HO := Aside0.mk (HO.out.grown hg_ (fun k hk => by cases hk)); have HQ := Aside0.mk (Kd.Q_of_R ho_); clear ho_ hb_ hg_ hnew_))
    rw [Int.toNat_natCast] at HBF HST
    have hoff0 : H.off (H.none12.set s0 true) + 1 = 12 := (H.off_set (by rw [HN.out]; exact HS0.out) (H.none12_get s0)).trans rfl
    have HOF := Aside0.mk (show ([(s0 : Int)]).length + H.off (H.none12.set s0 true) ≤ 12 by simp only [List.length_cons, List.length_nil]; omega)
    have HTY := Aside0.mk (show ∀ y ∈ [(s0 : Int)], 0 ≤ y ∧ y < (g.length : Int) from fun y hy => by rw [List.mem_singleton.1 hy]; exact ⟨h0, h1⟩)
    clear hoff0
    go_loopg [8] 14 (fun kq v8 wr => ∃ (todo : List Int) (out : List Bool), Aside0 (H.bfs g wo kq todo out = some R) ∧ Aside0 (kq ≤ 14) ∧ Aside0 (out.length = 12) ∧ Aside0 (∀ y ∈ todo, 0 ≤ y ∧ y < (g.length : Int)) ∧ Aside0 (todo.length + H.off out ≤ 12) ∧ Aside0 ((Kd.int .i64).Q 3 wr w.heap.size (fun _ => True) v8 todo) ∧ Aside0 (H.Own w wr [(ga, H.bcells H.none12, 64), (gb, H.bcells out, 64)]))
    case atStart => exact ⟨[(s0 : Int)], _, HBF, ⟨Nat.le_refl _⟩, ⟨HST.out.len⟩, HTY, HOF, HQ, HO⟩
    case round =>
      clear HO HQ HBF HST HOF HTY
      obtain ⟨todo, out, HA, HK, HOL, HTY, HOF, HQ, HO⟩ := hrel
      cases gk with
      | zero => exact absurd HA.out (by simp [H.bfs])
      | succ k1 =>
        cases todo with
        | nil =>
          have hA := Option.some.inj HA.out
          subst hA
          obtain ⟨Aq, cq, rfl, _⟩ := Kd.Q_slice HQ.out
          go_wp2_with (first | ((with_reducible refine gate_dst (N := 55) rfl ?_); refine wpList_load_row rfl 64 (.tmp 7) rfl _ rfl 64 _ (0, 0) _ (HO.out.get 1 rfl) Try.underlying64 rfl (by rw [H.bcells_size, HOL.out]; exact HI.out) ?_) | ((with_reducible refine gate_store (t := 64) (p := 6) rfl ?_); refine H.own_ball HO.out 0 (bs' := out) rfl rfl rfl rfl rfl rfl HI.out HOL.out ?_; intro w_ ho_ hg_; replace HO := Aside0.mk ho_; clear ho_ hg_))
          (try simp only [Exit.inBlock, Exit.then])
          refine bodyPost_ret (results_cell_row rfl _ _ ga _ (H.bcells out) (0, 0) _ rfl (HO.out.get 0 rfl) Try.underlying64 rfl (by rw [H.bcells_size, HOL.out]; exact HI.out)) rfl ?_
          exact ⟨rfl, HO.out.below⟩
        | cons x todo =>
          have hA := HA.out
          simp only [H.bfs] at hA
          have hx := HTY.out x (by simp)
          obtain ⟨x0, rfl⟩ : ∃ k : Nat, x = (k : Int) := ⟨x.toNat, by omega⟩
          rw [Int.toNat_natCast] at hA
          obtain ⟨ad, A1, c1, e1, hc0, hc1, hc2⟩ := at_L1 HR0.out (x0 : Int) (by omega) (by omega)
          subst e1
          rw [Int.toNat_natCast] at hc0
          have hrd : rd_L1 g (x0 : Int) = g.getD x0 [] := rfl
          have hrow := HROW.out x0
          rw [hrd] at hc0 hc1 hc2
          generalize g.getD x0 [] = row at hA hc0 hc1 hc2 hrow
          have hrl := hc2.2.1
          have hxp := HO.out.old HP0.out
          have hxr := HO.out.old hc0
          obtain ⟨gq, oq, cq, rfl, _, _, _⟩ := Kd.Q_form HQ.out (by simp)
          have hnp : (0 : Int) < (((x0 : Int) :: todo).length : Int) := by simp only [List.length_cons]; omega
          generalize hnq : ((x0 : Int) :: todo).length = nq at HQ hnp ⊢
          clear hnq
          have hnb : decide (0 < nq) = true := decide_eq_true (by omega)
          have hxq := (Kd.Q_cell 0 HQ.out 0 (by decide) (by omega)).1
          rw [show rdOf 0 ((x0 : Int) :: todo) 0 = (x0 : Int) from rfl, show oq + (0 : Int).toNat = oq from rfl] at hxq
          have HA' := Aside0.mk hA
          have HC2 := Aside0.mk hc2
          have HRR := Aside0.mk hrow
          have hx0 : (0 : Int) ≤ (x0 : Int) := by omega
          have hx1 : (x0 : Int) < (g.length : Int) := hx.2
          clear hA hc0 hc1 hc2 hrd hrow HA hx
          go_wp2
          go_quiet (fail)
          generalize hq_ : World.drewN wr _ = wq; have hd_ : Drawn0 wr wq := ⟨_, hq_.symm⟩; clear hq_; replace HO := Aside0.mk (HO.out.drawn hd_); replace HQ := Aside0.mk (Kd.Q_below HQ.out hd_.below); clear hd_
          clear hxp hxr hxq
          go_wp2
          go_loopw [35, 8] (fun v35 v8 wr => ∃ (i : Nat) (out2 : List Bool) (todo2 : List Int), v35 = .int .i64 i ∧ i ≤ row.length ∧ Aside0 (H.visits wo (row.drop i) (out2, todo2) = H.visits wo row (out, (x0 : Int) :: todo)) ∧ Aside0 (out2.length = 12) ∧ Aside0 (1 ≤ todo2.length ∧ ∀ y ∈ todo2, 0 ≤ y ∧ y < (g.length : Int)) ∧ Aside0 (todo2.length + H.off out2 ≤ 12) ∧ Aside0 ((Kd.int .i64).Q 3 wr w.heap.size (fun _ => True) v8 todo2) ∧ Aside0 (H.Own w wr [(ga, H.bcells H.none12, 64), (gb, H.bcells out2, 64)])) (fun v35 _ _ => row.length - (intOf v35).toNat)
          case atStart => exact ⟨0, out, _, rfl, Nat.zero_le _, ⟨by rw [List.drop_zero]⟩, HOL, ⟨⟨by simp, HTY.out⟩⟩, HOF, HQ, HO⟩
          case round =>
            clear HO HQ HOF HTY HOL
            obtain ⟨i, out2, todo2, rfl, hi, HV, HOL, HTY, HOF, HQ, HO⟩ := hrel
            by_cases hlt : i < row.length
            · have hv := HV.out
              rw [visits_drop wo row _ hlt] at hv
              obtain ⟨ad2, e2, hcb⟩ := Kd.at_int HC2.out (i : Int) (by omega) (by omega)
              subst e2
              rw [Int.toNat_natCast] at hcb
              have hby := HRR.out (row.getD i 0) (by rw [List.getD_eq_getElem?_getD, List.getElem?_eq_getElem hlt]; exact List.getElem_mem hlt)
              have hrd2 : rd row (i : Int) = row.getD i 0 := rfl
              rw [hrd2] at hcb
              generalize row.getD i 0 = y at hv hcb hby
              obtain ⟨y0, rfl⟩ : ∃ k : Nat, y = (k : Int) := ⟨y.toNat, by omega⟩
              have hy12 : y0 < 12 := by have := HLL.out.2; omega
              have hcx := HO.out.old hcb
              have hcy := HO.out.bat 1 rfl (j := y0) (by rw [HOL.out]; exact hy12)
              have hy12' : (y0 : Int) < 12 := by omega
              have HY := Aside0.mk hy12
              have HYG := Aside0.mk hby
              have hil : (i : Int) < (row.length : Int) := by omega
              clear hcb hrd2 hby hy12
              cases hb : out2.getD y0 false with
              | true =>
                have hv2 : H.visit wo (out2, todo2) (y0 : Int) = (out2, todo2) := by
                  unfold H.visit
                  rw [if_neg (by rw [Int.toNat_natCast, hb]; simp)]
                rw [hv2] at hv
                rw [hb] at hcy
                have HV' := Aside0.mk hv
                clear hv hv2 hb HV
                go_wp2
                go_roundw
                case rel => exact ⟨i + 1, out2, todo2, by go_num, by omega, HV', HOL, HTY, HOF, HQ, HO⟩
                case measure => simp [intOf]; omega
              | false =>
                rw [hb] at hcy
                by_cases hw : (y0 : Int) = wo
                · have hv2 : H.visit wo (out2, todo2) (y0 : Int) = (out2, todo2) := by
                    unfold H.visit
                    rw [if_neg (fun h => h.2 hw)]
                  rw [hv2] at hv
                  have HV' := Aside0.mk hv
                  have hne : ((y0 : Int) != wo) = false := by rw [hw]; simp
                  clear hv hv2 hb HV hw
                  go_wp2
                  go_roundw
                  case rel => exact ⟨i + 1, out2, todo2, by go_num, by omega, HV', HOL, HTY, HOF, HQ, HO⟩
                  case measure => simp [intOf]; omega
                · have hv2 : H.visit wo (out2, todo2) (y0 : Int) = (out2.set y0 true, todo2 ++ [(y0 : Int)]) := by
                    unfold H.visit
                    rw [if_pos ⟨by rw [Int.toNat_natCast]; exact hb, hw⟩, Int.toNat_natCast]
                  rw [hv2] at hv
                  have hoff := H.off_set (bs := out2) (j := y0) (by rw [HOL.out]; exact HY.out) hb
                  have HV' := Aside0.mk hv
                  have hne : ((y0 : Int) != wo) = true := bne_iff_ne.2 hw
                  have HOF' := Aside0.mk (show (todo2 ++ [(y0 : Int)]).length + H.off (out2.set y0 true) ≤ 12 by rw [List.length_append]; have := HOF.out; simp only [List.length_cons, List.length_nil]; omega)
                  have HTY' := Aside0.mk (show 1 ≤ (todo2 ++ [(y0 : Int)]).length ∧ ∀ y ∈ todo2 ++ [(y0 : Int)], 0 ≤ y ∧ y < (g.length : Int) from ⟨by simp, fun y hy => by
                    rcases List.mem_append.1 hy with e | e
                    · exact HTY.out.2 y e
                    · rw [List.mem_singleton.1 e]; exact HYG.out⟩)
                  clear hv hv2 hb HV hw hoff
                  go_wp2_with (first | ((with_reducible refine gate_store (t := 4) (p := 49) rfl ?_); refine H.own_bput HO.out 1 rfl rfl rfl rfl rfl rfl (by kernel_rfl) (by rw [HOL.out]; exact HY.out) ?_; intro w_ ho_ hg_; replace HQ := Aside0.mk (HO.out.keepQ 1 rfl HQ.out hg_ (by decide)); clear hcy; replace HO := Aside0.mk ho_; clear ho_ hg_) | ((with_reducible refine gate_builtin (b := .append) (xs := #[.tmp 50, .tmp 52]) rfl ?_); at_builtin; refine Kd.Q_append (Kd.int .i64) (w0 := w) w.heap.size rfl (.tmp 50) (.tmp 52) 31 3 (.int .i64 0) 8 rfl Try.underlying31 info3 rfl (by decide) (by omega) u8 todo2 (y0 : Int) [.int .i64 (y0 : Int)] (fun _ => True) (fun _ => False) rfl rfl ?aP (fun _ hk => hk.elim) ?aF ?aO ?aB ?aS ?aL ?_; (case aP => exact rfl); (case aF => exact fun _ _ => trivial); (case aO => exact HQ.out); (case aB => exact HO.out.below); (case aS => exact HO.out.size); (case aL => have := HOF.out; omega); intro v1 w_ ho_ hb_ hg_ hat_; replace HO := Aside0.mk (HO.out.rowQ HQ.out (Nat.le_refl _) hg_ (by simp)); replace HQ := Aside0.mk ho_; clear ho_ hb_ hg_ hat_))
                  go_roundw
                  case rel => exact ⟨i + 1, _, _, by go_num, by omega, HV', ⟨by rw [List.length_set]; exact HOL.out⟩, HTY', HOF', HQ, HO⟩
                  case measure => simp [intOf]; omega
            · have hv := HV.out
              rw [List.drop_of_length_le (by omega)] at hv
              have hA := HA'.out
              rw [← hv] at hA
              have HA := Aside0.mk (show H.bfs g wo k1 (todo2.drop 1) out2 = some R from hA)
              have h2 := HTY.out.1
              clear hv hA HV HA'
              obtain ⟨gq2, oq2, cq2, rfl, _, _, _⟩ := Kd.Q_form HQ.out (by omega)
              obtain ⟨ti, hti, hz⟩ := Option.map_eq_some_iff.1 info3
              simp only [Prod.mk.injEq] at hz
              have hq := Kd.Q_drop (k := 1) HQ.out h2
              have hcut : ∀ W : World, (Instr.slice 31 (.slice (some ⟨gq2, oq2, none⟩) todo2.length cq2) (some (.int .i64 1)) none none).run Try.prog W = .ok (.slice (if cq2 = 1 then some ⟨gq2, oq2, none⟩ else (some (⟨gq2, oq2, none⟩ : Addr)).map (·.add (1 * (Kd.int .i64).sz))) (todo2.length - 1) (cq2 - 1)) W := cut_from 31 3 .i64 Try.underlying31 hti 1 hz.2.1 _ _ _ 1 (by decide) (by omega)
              generalize (if cq2 = 1 then some ⟨gq2, oq2, none⟩ else (some (⟨gq2, oq2, none⟩ : Addr)).map (·.add (1 * (Kd.int .i64).sz))) = A2 at hq hcut
              have HQ2 := Aside0.mk hq
              clear hq hti hz HQ
              go_wp2
              go_roundg k1
              case measure => have := HK.out; omega
              case rel => exact ⟨todo2.drop 1, out2, HA, ⟨by have := HK.out; omega⟩, HOL, ⟨fun y hy => HTY.out.2 y (List.mem_of_mem_drop hy)⟩, ⟨by have := HOF.out; rw [List.length_drop]; omega⟩, HQ2, HO⟩
end Go.Proofs.Ytplcipjlkogadaa.P

namespace Go.Proofs.Ytplcipjlkogadaa.P
open Go.RowKit Go.Proofs.YtplcipjlkogadaaW.PrintWords Go.Proofs.YtplcipjlkogadaaW.PrintLast Go.Proofs.YtplcipjlkogadaaW.PrintMore
attribute [local go_sem] max2_int min2_int max_two min_two max_three min_three max_four min_four
def listTo (bs : List Bool) (i : Nat) : List Int := ((List.range i).filter (fun j => bs.getD j false)).map (fun j : Nat => (j : Int))
theorem listTo_len (bs : List Bool) (i : Nat) : (listTo bs i).length ≤ i := by
  unfold listTo
  rw [List.length_map]
  exact Nat.le_trans (List.length_filter_le _ _) (by rw [List.length_range]; exact Nat.le_refl _)
theorem listTo_step (bs : List Bool) (i : Nat) : listTo bs (i + 1) = if bs.getD i false then listTo bs i ++ [(i : Int)] else listTo bs i := by
  unfold listTo
  rw [List.range_succ, List.filter_append, List.map_append]
  cases h : bs.getD i false with
  | true =>
    rw [if_pos rfl]
    congr 1
    rw [List.filter_cons, h, if_pos rfl]
    rfl
  | false =>
    rw [if_neg (by simp), List.filter_cons, h, if_neg (by simp)]
    simp
set_option maxHeartbeats 8000000 in
set_option maxRecDepth 100000 in
theorem impl_list.calls (gb off : Nat) (bs : List Bool) (w : World) (hr : w.rangeAt gb off (bs.map Value.bool)) (hb : bs.length = 12) :
    Calls Try.prog 62 #[.pointer (some ⟨gb, off, none⟩)] w fun e w' => ∃ v0_ : Value, e = .returned v0_ ∧ Kd.R (Kd.int .i64) 3 w' w.heap.size (fun _ => True) v0_ (listTo bs 12) ∧ Below w.heap.size w w' := by
  have HR := Aside0.mk hr
  have HL := Aside0.mk hb
  clear hr hb
  have HO := Aside0.mk (H.Own.nil w)
  go_enter Try.func62, Try.ntmps62
  go_wp2_with ((with_reducible refine gate_dst (N := 6) rfl ?_); refine Kd.R_lit (Kd.int .i64) (w0 := w) w.heap.size 3 ?bxg (N := 6) ?bxd (xs := ([] : List Int)) (inner := []) (ok := fun _ => True) (okp := fun _ => True) ?bxr ?bxp (fun _ hk => hk) trivial HO.out.below HO.out.size (by simp) ?_; (case bxd => rfl); (case bxg => rfl); (case bxr => first | (go_simp; done) | (go_simp; rfl)); (case bxp => exact Reps.none _ _); intro vo w_ ho_ hb_ hg_ hnew_; replace HO := Aside0.mk (HO.out.grown hg_ (fun k hk => by cases hk)); have HV := Aside0.mk ho_; clear ho_ hb_ hg_ hnew_)
  go_loopw [8, 3] (fun v8 v3 wr => ∃ i : Nat, v8 = .int .i64 i ∧ i ≤ 12 ∧ Aside0 (Kd.R (Kd.int .i64) 3 wr w.heap.size (fun _ => True) v3 (listTo bs i)) ∧ Aside0 (H.Own w wr [])) (fun v8 _ _ => 12 - (intOf v8).toNat)
  case atStart => exact ⟨0, rfl, Nat.zero_le _, HV, HO⟩
  case round =>
    clear HO HV
    obtain ⟨i, rfl, hi, HV, HO⟩ := hrel
    by_cases hlt : i < 12
    · have hc0 : w.cell? ⟨gb, off + i, none⟩ = some (.bool (bs.getD i false)) := HR.out i _ (by rw [List.getElem?_map, H.getD_some false (by rw [HL.out]; exact hlt)]; rfl)
      have hc := HO.out.old hc0
      have hst := listTo_step bs i
      have hi12 : (i : Int) < 12 := by omega
      clear hc0
      cases hbi : bs.getD i false with
      | true =>
        rw [hbi] at hc hst
        rw [if_pos rfl] at hst
        have HST := Aside0.mk hst
        clear hbi hst
        go_wp2
        go_quiet (fail)
        have HLL := Aside0.mk (listTo_len bs i)
        generalize hq_ : World.drewN wr _ = wq; have hd_ : Drawn0 wr wq := ⟨_, hq_.symm⟩; clear hq_; replace HO := Aside0.mk (HO.out.drawn hd_); replace HV := Aside0.mk (Kd.R_below HV.out hd_.below); clear hd_
        go_wp2_with ((with_reducible refine gate_builtin (b := .append) (xs := #[.tmp 15, .tmp 17]) rfl ?_); at_builtin; refine Kd.R_append (Kd.int .i64) (w0 := w) w.heap.size rfl (.tmp 15) (.tmp 17) 31 3 (.int .i64 0) 8 rfl Try.underlying31 info3 rfl (by decide) (by omega) u3 (listTo bs i) (i : Int) [.int .i64 (i : Int)] (fun _ => True) (fun _ => False) rfl rfl ?aP (fun _ hk => hk.elim) ?aF ?aO ?aB ?aS ?aL ?_; (case aP => exact rfl); (case aF => exact fun _ _ => trivial); (case aO => exact HV.out); (case aB => exact HO.out.below); (case aS => exact HO.out.size); (case aL => have := HLL.out; omega); intro v1 w_ ho_ hb_ hg_ hat_; replace HO := Aside0.mk (HO.out.row HV.out (Nat.le_refl _) hg_ (by simp)); replace HV := Aside0.mk ho_; clear ho_ hb_ hg_ hat_)
        go_roundw
        case rel => exact ⟨i + 1, by go_num, by omega, ⟨by rw [HST.out]; exact HV.out⟩, HO⟩
        case measure => simp [intOf]; omega
      | false =>
        rw [hbi] at hc hst
        rw [if_neg (by simp)] at hst
        have HST := Aside0.mk hst
        clear hbi hst
        go_wp2
        go_quiet (fail)
        generalize hq_ : World.drewN wr _ = wq; have hd_ : Drawn0 wr wq := ⟨_, hq_.symm⟩; clear hq_; replace HO := Aside0.mk (HO.out.drawn hd_); replace HV := Aside0.mk (Kd.R_below HV.out hd_.below); clear hd_
        go_wp2
        go_roundw
        case rel => exact ⟨i + 1, by go_num, by omega, ⟨by rw [HST.out]; exact HV.out⟩, HO⟩
        case measure => simp [intOf]; omega
    · have hE : i = 12 := by omega
      subst hE
      go_wp2
      go_ret
      exact ⟨_, rfl, HV.out, HO.out.below⟩
end Go.Proofs.Ytplcipjlkogadaa.P

namespace Go.Proofs.Ytplcipjlkogadaa.P
open Go.RowKit Go.Proofs.YtplcipjlkogadaaW.PrintWords Go.Proofs.YtplcipjlkogadaaW.PrintLast Go.Proofs.YtplcipjlkogadaaW.PrintMore
attribute [local go_sem] max2_int min2_int max_two min_two max_three min_three max_four min_four
def impl_ReachedOf.f (l0_0 : List (List Int)) : Option (List Int × Bool) := some (if H.goodG l0_0 then (listTo (H.reachF l0_0 0 (-1)) 12, true) else ([], false))
set_option maxHeartbeats 8000000 in
set_option maxRecDepth 100000 in
theorem impl_ReachedOf.calls (A0_0 : Option Addr) (c0_0 : Nat) (l0_0 : List (List Int)) (r1 : List Int) (r2 : Bool) (w : World) (hr0_0 : Kd.C (Kd.slice 3 (Kd.int .i64)) w A0_0 l0_0.length l0_0) (hc0_0 : l0_0.length ≤ c0_0) (h : impl_ReachedOf.f l0_0 = some (r1, r2)) :
    Calls Try.prog 21 #[.agg #[.slice A0_0 l0_0.length c0_0]] w fun e w' => ∃ v0_ : Value, e = .returned (.tuple #[v0_, .bool r2]) ∧ (Kd.int .i64).R 3 w' w.heap.size (fun _ => True) v0_ r1 ∧ Below w.heap.size w w' := by
  replace h := Option.some.inj h
  have HR0 := Aside0.mk hr0_0
  have HC0 := Aside0.mk hc0_0
  clear hr0_0 hc0_0
  have HO := Aside0.mk (H.Own.nil w)
  have HK := Aside0.mk (fun (W : World) (hb : Below w.heap.size w W) => impl_GoodGraph.calls A0_0 c0_0 l0_0 _ W (Kd.C_below HR0.out hb) HC0.out rfl)
  cases hg : H.goodG l0_0 with
  | false =>
    rw [hg, if_neg (by simp), Prod.mk.injEq] at h
    obtain ⟨rfl, rfl⟩ := h
    rw [hg] at HK
    clear hg
    go_enter Try.func21, Try.ntmps21
    go_wp2_with (first | ((with_reducible refine gate_dst (N := 1) rfl ?_); refine H.own_box HO.out ?bxg (N := 1) ?bxd (cs := #[Value.slice A0_0 l0_0.length c0_0]) (t := 27) ?bxr ?_; (case bxd => rfl); (case bxg => rfl); (case bxr => first | (go_simp; done) | (go_simp; rfl)); intro gp w_ ho_ hb_; replace HO := Aside0.mk ho_; clear ho_ hb_) | ((with_reducible refine gate_dst (N := 5) rfl ?_); refine wpList_load_row rfl 27 (.tmp 1) rfl _ rfl 27 _ (0, 0) _ (HO.out.get 0 rfl) Try.underlying27 rfl (by kernel_rfl) ?_) | (go_at_call 18; refine (HK.out _ HO.out.below).mono ?_; rintro e w' ⟨rfl, hb⟩; replace HO := Aside0.mk (HO.out.step hb); clear hb))
    go_ret2
    exact ⟨_, rfl, Kd.R_nil _ _ _ _ _, HO.out.below⟩
  | true =>
    rw [hg, if_pos rfl, Prod.mk.injEq] at h
    obtain ⟨rfl, rfl⟩ := h
    rw [hg] at HK
    have hr := H.goodG_rows hg
    have hn1 : 1 ≤ l0_0.length := hr.1.1
    have hn2 : l0_0.length ≤ 12 := hr.1.2
    have HG := Aside0.mk hg
    clear hg hr
    have HI := Aside0.mk (show (Try.prog.info? 64).map (·.size) = some 12 by kernel_rfl)
    have HRL := Aside0.mk (H.reach_len (wo := -1) HG.out (s := 0) (by decide) (by omega))
    go_enter Try.func21, Try.ntmps21
    go_wp2_with (first | ((with_reducible refine gate_dst (N := 1) rfl ?_); refine H.own_box HO.out ?bxg (N := 1) ?bxd (cs := #[Value.slice A0_0 l0_0.length c0_0]) (t := 27) ?bxr ?_; (case bxd => rfl); (case bxg => rfl); (case bxr => first | (go_simp; done) | (go_simp; rfl)); intro gp w_ ho_ hb_; replace HO := Aside0.mk ho_; clear ho_ hb_) | ((with_reducible refine gate_dst (N := 5) rfl ?_); refine wpList_load_row rfl 27 (.tmp 1) rfl _ rfl 27 _ (0, 0) _ (HO.out.get 0 rfl) Try.underlying27 rfl (by kernel_rfl) ?_) | (go_at_call 18; refine (HK.out _ HO.out.below).mono ?_; rintro e w' ⟨rfl, hb⟩; replace HO := Aside0.mk (HO.out.step hb); clear hb) | (go_at_call 61; refine (impl_reach.calls ⟨gp, 0, none⟩ A0_0 c0_0 l0_0 0 (-1) _ (HO.out.cell 0 rfl 0) (Kd.C_below HR0.out HO.out.below) HG.out (by decide) (by omega)).mono ?_; rintro e w' ⟨rfl, hb⟩; replace HO := Aside0.mk (HO.out.step hb); clear hb) | ((with_reducible refine gate_dst (N := 4) rfl ?_); refine H.own_box HO.out ?bxg (N := 4) ?bxd (cs := H.bcells H.none12) (t := 64) ?bxr ?_; (case bxd => rfl); (case bxg => rfl); (case bxr => first | (go_simp; done) | (go_simp; rfl)); intro ga w_ ho_ hb_; replace HO := Aside0.mk ho_; clear ho_ hb_) | ((with_reducible refine gate_store (t := 64) (p := 4) rfl ?_); refine H.own_ball HO.out 1 (bs' := H.reachF l0_0 0 (-1)) rfl rfl rfl rfl rfl rfl HI.out HRL.out ?_; intro w_ ho_ hg_; replace HO := Aside0.mk ho_; clear ho_ hg_) | (go_at_call 62; refine (impl_list.calls _ 0 (H.reachF l0_0 0 (-1)) _ (HO.out.brange 1 rfl) (HRL.out)).mono ?_; rintro e w' ⟨v0, rfl, hv, hb⟩; have HV := Aside0.mk (Kd.R_lower hv HO.out.size); replace HO := Aside0.mk (HO.out.step hb); clear hv hb))
    go_ret2
    exact ⟨_, rfl, HV.out, HO.out.below⟩
end Go.Proofs.Ytplcipjlkogadaa.P

namespace Go.Proofs.Ytplcipjlkogadaa.P
open Go.RowKit Go.Proofs.YtplcipjlkogadaaW.PrintWords Go.Proofs.YtplcipjlkogadaaW.PrintLast Go.Proofs.YtplcipjlkogadaaW.PrintMore
attribute [local go_sem] max2_int min2_int max_two min_two max_three min_three max_four min_four
set_option maxHeartbeats 8000000 in
set_option maxRecDepth 100000 in
theorem impl_dominators.calls (p : Addr) (A0 : Option Addr) (c0 : Nat) (g : List (List Int)) (w : World) (hp0 : w.cell? p = some (.slice A0 g.length c0)) (hr0 : Kd.C (Kd.slice 3 (Kd.int .i64)) w A0 g.length g) (hG : H.goodG g = true) :
    Calls Try.prog 67 #[.pointer (some p)] w fun e w' => ∃ gm, e = .returned (.slice (some ⟨gm, 0, none⟩) g.length g.length) ∧ H.Own w w' [(gm, H.bcells (H.domF g).flatten, 64)] := by
  have hr := H.goodG_rows hG
  have HP0 := Aside0.mk hp0
  have HR0 := Aside0.mk hr0
  have HI := Aside0.mk (show (Try.prog.info? 64).map (·.size) = some 12 by kernel_rfl)
  have HO := Aside0.mk (H.Own.nil w)
  have hn1 : 1 ≤ g.length := hr.1.1
  have hn2 : g.length ≤ 12 := hr.1.2
  have HRE := Aside0.mk (fun (W : World) (hO : Below w.heap.size w W) (wo : Int) => impl_reach.calls p A0 c0 g 0 wo W ((hO.cell (World.block_lt_of_cell? w _ HP0.out)).trans HP0.out) (Kd.C_below HR0.out hO) hG (by decide) (by omega))
  have HRL := Aside0.mk (fun wo => H.reach_len (wo := wo) hG (s := 0) (by decide) (by omega))
  have HDM := Aside0.mk (fun k b => H.matF_mat (fun b' j => (decide (j < k) || (decide (j = k) && decide (b' < b))) && H.domV g b' j) g.length)
  have HDL := Aside0.mk (fun k b => H.matF_len (fun b' j => (decide (j < k) || (decide (j = k) && decide (b' < b))) && H.domV g b' j) g.length)
  have hmk : ∀ W : World, (Instr.makeSlice 69 (.int .i64 (g.length : Int)) (.int .i64 (g.length : Int))).run Try.prog W = .ok (.slice (some ⟨W.heap.size, 0, none⟩) g.length g.length) (W.alloc (.cells (H.bcells (List.replicate g.length H.none12).flatten) 64)) := fun W => make_sets W g.length (by omega)
  clear hr hr0 hG
  go_enter Try.func67, Try.ntmps67
  go_wp2_with (first | ((with_reducible refine gate_dst (N := 13) rfl ?_); refine H.own_make HO.out ?bxg (N := 13) ?bxd (n := g.length) (cs := H.bcells (List.replicate g.length H.none12).flatten) (t := 64) ?bxr ?_; (case bxd => rfl); (case bxg => rfl); (case bxr => first | (go_simp; done) | (go_simp; rfl)); intro gs w_ ho_ hb_; clear hmk; replace HO := Aside0.mk ho_; clear ho_ hb_) | (go_at_call 61; refine (HRE.out _ HO.out.below (-1)).mono ?_; rintro e w' ⟨rfl, hb⟩; replace HO := Aside0.mk (HO.out.step hb); have hp1 := HO.out.old HP0.out; clear hb hp0) | ((with_reducible refine gate_dst (N := 4) rfl ?_); refine H.own_box HO.out ?bxg (N := 4) ?bxd (cs := H.bcells H.none12) (t := 64) ?bxr ?_; (case bxd => rfl); (case bxg => rfl); (case bxr => first | (go_simp; done) | (go_simp; rfl)); intro ga w_ ho_ hb_; clear hp1; replace HO := Aside0.mk ho_; clear ho_ hb_) | ((with_reducible refine gate_store (t := 64) (p := 4) rfl ?_); refine H.own_ball HO.out 1 (bs' := H.reachF g 0 (-1)) rfl rfl rfl rfl rfl rfl HI.out (HRL.out (-1)) ?_; intro w_ ho_ hg_; replace HO := Aside0.mk ho_; have hp1 := HO.out.old HP0.out; clear ho_ hg_))
  obtain ⟨al, hal⟩ : ∃ al, H.reachF g 0 (-1) = al := ⟨_, rfl⟩
  have HALL := HRL.out (-1)
  rw [hal] at HO HALL
  have HAL := Aside0.mk hal
  have HALN := Aside0.mk HALL
  clear hal HALL
  go_loopw [21] (fun v21 wr => ∃ k : Nat, v21 = .int .i64 k ∧ k ≤ g.length ∧ Aside0 (H.Own w wr [(gs, H.bcells (H.domTo g k 0).flatten, 64), (ga, H.bcells al, 64)])) (fun v21 _ => g.length - (intOf v21).toNat)
  case atStart => exact ⟨0, rfl, Nat.zero_le _, ⟨by rw [H.domTo_zero]; exact HO.out⟩⟩
  case round =>
    clear HO hp1
    obtain ⟨k, rfl, hk, HO⟩ := hrel
    by_cases hlt : k < g.length
    · have hk12 : (k : Int) < 12 := by omega
      have hc := HO.out.bat 1 rfl (j := k) (by rw [HALN.out]; omega)
      have HKL := Aside0.mk hlt
      have hpk := HO.out.old HP0.out
      cases hb : al.getD k false with
      | false =>
        rw [hb] at hc
        have HSK := Aside0.mk (H.domTo_skip g (k := k) (by rw [HAL.out]; exact hb))
        clear hb
        go_wp2
        go_roundw
        case rel => exact ⟨k + 1, by go_num, by omega, ⟨by rw [HSK.out]; exact HO.out⟩⟩
        case measure => simp [intOf]; omega
      | true =>
        rw [hb] at hc
        have HBK := Aside0.mk hb
        clear hb
        go_wp2_with (first | (go_at_call 61; refine (HRE.out _ HO.out.below (k : Int)).mono ?_; rintro e w' ⟨rfl, hb⟩; replace HO := Aside0.mk (HO.out.step hb); clear hb hc hpk) | ((with_reducible refine gate_dst (N := 6) rfl ?_); refine H.own_box HO.out ?bxg (N := 6) ?bxd (cs := H.bcells H.none12) (t := 64) ?bxr ?_; (case bxd => rfl); (case bxg => rfl); (case bxr => first | (go_simp; done) | (go_simp; rfl)); intro gl w_ ho_ hb_; replace HO := Aside0.mk ho_; clear ho_ hb_) | ((with_reducible refine gate_store (t := 64) (p := 6) rfl ?_); refine H.own_ball HO.out 2 (bs' := H.reachF g 0 (k : Int)) rfl rfl rfl rfl rfl rfl HI.out (HRL.out (k : Int)) ?_; intro w_ ho_ hg_; replace HO := Aside0.mk ho_; clear ho_ hg_))
        obtain ⟨lf, hlf⟩ : ∃ lf, H.reachF g 0 (k : Int) = lf := ⟨_, rfl⟩
        have hll := HRL.out (k : Int)
        rw [hlf] at HO hll
        have HLF := Aside0.mk hlf
        have HLL := Aside0.mk hll
        clear hlf hll
        go_loopw [33] (fun v33 wr => ∃ b : Nat, v33 = .int .i64 b ∧ b ≤ g.length ∧ Aside0 (H.Own w wr [(gs, H.bcells (H.domTo g k b).flatten, 64), (ga, H.bcells al, 64), (gl, H.bcells lf, 64)])) (fun v33 _ => g.length - (intOf v33).toNat)
        case atStart => exact ⟨0, rfl, Nat.zero_le _, HO⟩
        case round =>
          clear HO
          obtain ⟨b, rfl, hb, HO⟩ := hrel
          by_cases hlt2 : b < g.length
          · have hb12 : (b : Int) < 12 := by omega
            have hbg : (b : Int) < (g.length : Int) := by omega
            have HBL := Aside0.mk hlt2
            have HK12 := Aside0.mk (show k < 12 by omega)
            have HB12 := Aside0.mk (show b < 12 by omega)
            go_wp2
            replace HO := Aside0.mk HO.out.drew
            cases hx : al.getD b false with
            | false =>
              have HV := Aside0.mk (show H.domV g b k = false by unfold H.domV; rw [HAL.out, hx]; simp)
              have HX := Aside0.mk hx
              clear hx
              refine start_ (n := 15) (S := fun w' => w'.cell? ⟨ga, b, none⟩ = some (.bool false)) (ds := [14]) #[false, false, false, false, false, false, false, false, false, false, false, false, false, false, false] (by kernel_rfl) rfl rfl ((HX.out ▸ HO.out.bat 1 rfl (by rw [HALN.out]; exact HB12.out))) (fun hHeld => ?_)
              refine pure_ (i := 0) (N := some 36) (v := ?_) (a' := ?_) #[true, false, false, false, false, false, false, false, false, false, false, false, false, false, false] rfl rfl (by kernel_rfl) (fun _ _ _ h => h) (Or.inl ⟨by rfl, ?_⟩) ?_ ?_
              rotate_left
              · intro w'
                go_simp
                with_reducible rfl
              rotate_left
              · simp only [Act.put, List.setIfInBounds_toArray, List.set_cons_zero, List.set_cons_succ, i64_w, i32_w]
                rfl
              refine pure_ (i := 1) (N := some 37) (v := ?_) (a' := ?_) #[true, true, false, false, false, false, false, false, false, false, false, false, false, false, false] rfl rfl (by kernel_rfl) (fun _ _ _ h => h) (Or.inl ⟨by rfl, ?_⟩) ?_ ?_
              rotate_left
              · intro w'
                go_simp
                with_reducible rfl
              rotate_left
              · simp only [Act.put, List.setIfInBounds_toArray, List.set_cons_zero, List.set_cons_succ, i64_w, i32_w]
                rfl
              refine pure_ (i := 2) (N := some 38) (v := ?_) (a' := ?_) #[true, true, true, false, false, false, false, false, false, false, false, false, false, false, false] rfl rfl (by kernel_rfl) (fun _ _ _ h => h) (Or.inl ⟨by rfl, ?_⟩) ?_ ?_
              rotate_left
              · intro w'
                go_simp
                with_reducible rfl
              rotate_left
              · simp only [Act.put, List.setIfInBounds_toArray, List.set_cons_zero, List.set_cons_succ, i64_w, i32_w]
                rfl
              refine pure_ (i := 3) (N := some 39) (v := ?_) (a' := ?_) #[true, true, true, true, false, false, false, false, false, false, false, false, false, false, false] rfl rfl (by kernel_rfl) (fun _ _ _ h => h) (Or.inl ⟨by rfl, ?_⟩) ?_ ?_
              rotate_left
              · intro w'
                go_simp
                with_reducible rfl
              rotate_left
              · simp only [Act.put, List.setIfInBounds_toArray, List.set_cons_zero, List.set_cons_succ, i64_w, i32_w]
                rfl
              refine pure_ (i := 4) (N := some 40) (v := ?_) (a' := ?_) #[true, true, true, true, true, false, false, false, false, false, false, false, false, false, false] rfl rfl (by kernel_rfl) (fun _ _ _ h => h) (Or.inl ⟨by rfl, ?_⟩) ?_ ?_
              rotate_left
              · intro w'
                go_simp
                with_reducible rfl
              rotate_left
              · simp only [Act.put, List.setIfInBounds_toArray, List.set_cons_zero, List.set_cons_succ, i64_w, i32_w]
                rfl
              refine pure_ (i := 12) (N := some 48) (v := ?_) (a' := ?_) #[true, true, true, true, true, false, false, false, false, false, false, false, true, false, false] rfl rfl (by kernel_rfl) (fun _ _ _ h => h) (Or.inl ⟨by rfl, ?_⟩) ?_ ?_
              rotate_left
              · intro w'
                go_simp
                with_reducible rfl
              rotate_left
              · simp only [Act.put, List.setIfInBounds_toArray, List.set_cons_zero, List.set_cons_succ, i64_w, i32_w]
                rfl
              refine take_ (i := 5) (N := some 41) (v := ?_) (a' := ?_) #[true, true, true, true, true, true, false, false, false, false, false, false, true, false, false] rfl rfl (by kernel_rfl) (fun _ _ _ h => h) (Or.inl ⟨by rfl, ?_⟩) hHeld ?_ ?_
              rotate_left
              · intro w' s0
                go_simp
                with_reducible rfl
              rotate_left
              · simp only [Act.put, List.setIfInBounds_toArray, List.set_cons_zero, List.set_cons_succ, i64_w, i32_w]
                rfl
              refine pure_ (i := 6) (N := some 42) (v := ?_) (a' := ?_) #[true, true, true, true, true, true, true, false, false, false, false, false, true, false, false] rfl rfl (by kernel_rfl) (fun _ _ _ h => h) (Or.inl ⟨by rfl, ?_⟩) ?_ ?_
              rotate_left
              · intro w'
                go_simp
                with_reducible rfl
              rotate_left
              · simp only [Act.put, List.setIfInBounds_toArray, List.set_cons_zero, List.set_cons_succ, i64_w, i32_w]
                rfl
              refine pure_ (i := 7) (N := some 43) (v := undef) (a' := ?_) #[true, true, true, true, true, true, true, true, false, false, false, false, true, false, false] rfl rfl (by kernel_rfl) (fun _ _ _ h => h) (Or.inr ⟨by rfl, rfl⟩) ?_ ?_
              rotate_left
              · simp only [Act.put, List.setIfInBounds_toArray, List.set_cons_zero, List.set_cons_succ, i64_w, i32_w]
                rfl
              refine pure_ (i := 8) (N := some 44) (v := undef) (a' := ?_) #[true, true, true, true, true, true, true, true, true, false, false, false, true, false, false] rfl rfl (by kernel_rfl) (fun _ _ _ h => h) (Or.inr ⟨by rfl, rfl⟩) ?_ ?_
              rotate_left
              · simp only [Act.put, List.setIfInBounds_toArray, List.set_cons_zero, List.set_cons_succ, i64_w, i32_w]
                rfl
              refine pure_ (i := 9) (N := some 45) (v := undef) (a' := ?_) #[true, true, true, true, true, true, true, true, true, true, false, false, true, false, false] rfl rfl (by kernel_rfl) (fun _ _ _ h => h) (Or.inr ⟨by rfl, rfl⟩) ?_ ?_
              rotate_left
              · simp only [Act.put, List.setIfInBounds_toArray, List.set_cons_zero, List.set_cons_succ, i64_w, i32_w]
                rfl
              refine pure_ (i := 10) (N := some 46) (v := undef) (a' := ?_) #[true, true, true, true, true, true, true, true, true, true, true, false, true, false, false] rfl rfl (by kernel_rfl) (fun _ _ _ h => h) (Or.inr ⟨by rfl, rfl⟩) ?_ ?_
              rotate_left
              · simp only [Act.put, List.setIfInBounds_toArray, List.set_cons_zero, List.set_cons_succ, i64_w, i32_w]
                rfl
              refine pure_ (i := 11) (N := some 47) (v := ?_) (a' := ?_) #[true, true, true, true, true, true, true, true, true, true, true, true, true, false, false] rfl rfl (by kernel_rfl) (fun _ _ _ h => h) (Or.inl ⟨by rfl, ?_⟩) ?_ ?_
              rotate_left
              · intro w'
                go_simp
                with_reducible rfl
              rotate_left
              · simp only [Act.put, List.setIfInBounds_toArray, List.set_cons_zero, List.set_cons_succ, i64_w, i32_w]
                rfl
              refine pure_ (i := 13) (N := some 49) (v := ?_) (a' := ?_) #[true, true, true, true, true, true, true, true, true, true, true, true, true, true, false] rfl rfl (by kernel_rfl) (fun _ _ _ h => h) (Or.inl ⟨by rfl, ?_⟩) ?_ ?_
              rotate_left
              · intro w'
                go_simp
                with_reducible rfl
              rotate_left
              · simp only [Act.put, List.setIfInBounds_toArray, List.set_cons_zero, List.set_cons_succ, i64_w, i32_w]
                rfl
              refine last_ (i := 14) (N := none) #[true, true, true, true, true, true, true, true, true, true, true, true, true, true, true] rfl rfl (by kernel_rfl) (by decide) (fun K hK => ?_)
              refine H.own_mput_step HO.out (by rfl) 0 (n := 12) rfl (HDM.out k b) rfl rfl rfl rfl (by kernel_rfl) (by show b < (H.domTo g k b).length; rw [H.domTo, HDL.out]; exact HBL.out) HK12.out ?_
              intro w_ ho_ hg_
              replace HO := Aside0.mk ho_
              clear ho_ hg_
              refine hK.out _ _ ?_
              clear hK K
              refine done_ (by kernel_rfl) ?_
              go_wp2
              go_roundw
              case rel => exact ⟨b + 1, by go_num, by omega, ⟨by rw [← H.domTo_put g HBL.out HV.out]; exact HO.out⟩⟩
              case measure => simp [intOf]; omega
            | true =>
              cases hy : lf.getD b false with
              | true =>
                have HV := Aside0.mk (show H.domV g b k = false by unfold H.domV; rw [HAL.out, hx, HLF.out, hy]; simp)
                have HX := Aside0.mk hx
                have HY := Aside0.mk hy
                clear hx hy
                refine start_ (n := 15) (S := fun w' => w'.cell? ⟨ga, b, none⟩ = some (.bool true) ∧ w'.cell? ⟨gl, b, none⟩ = some (.bool true)) (ds := [14]) #[false, false, false, false, false, false, false, false, false, false, false, false, false, false, false] (by kernel_rfl) rfl rfl ⟨(HX.out ▸ HO.out.bat 1 rfl (by rw [HALN.out]; exact HB12.out)), (HY.out ▸ HO.out.bat 2 rfl (by rw [HLL.out]; exact HB12.out))⟩ (fun hHeld => ?_)
                refine pure_ (i := 0) (N := some 36) (v := ?_) (a' := ?_) #[true, false, false, false, false, false, false, false, false, false, false, false, false, false, false] rfl rfl (by kernel_rfl) (fun _ _ _ h => h) (Or.inl ⟨by rfl, ?_⟩) ?_ ?_
                rotate_left
                · intro w'
                  go_simp
                  with_reducible rfl
                rotate_left
                · simp only [Act.put, List.setIfInBounds_toArray, List.set_cons_zero, List.set_cons_succ, i64_w, i32_w]
                  rfl
                refine pure_ (i := 1) (N := some 37) (v := ?_) (a' := ?_) #[true, true, false, false, false, false, false, false, false, false, false, false, false, false, false] rfl rfl (by kernel_rfl) (fun _ _ _ h => h) (Or.inl ⟨by rfl, ?_⟩) ?_ ?_
                rotate_left
                · intro w'
                  go_simp
                  with_reducible rfl
                rotate_left
                · simp only [Act.put, List.setIfInBounds_toArray, List.set_cons_zero, List.set_cons_succ, i64_w, i32_w]
                  rfl
                refine pure_ (i := 2) (N := some 38) (v := ?_) (a' := ?_) #[true, true, true, false, false, false, false, false, false, false, false, false, false, false, false] rfl rfl (by kernel_rfl) (fun _ _ _ h => h) (Or.inl ⟨by rfl, ?_⟩) ?_ ?_
                rotate_left
                · intro w'
                  go_simp
                  with_reducible rfl
                rotate_left
                · simp only [Act.put, List.setIfInBounds_toArray, List.set_cons_zero, List.set_cons_succ, i64_w, i32_w]
                  rfl
                refine pure_ (i := 3) (N := some 39) (v := ?_) (a' := ?_) #[true, true, true, true, false, false, false, false, false, false, false, false, false, false, false] rfl rfl (by kernel_rfl) (fun _ _ _ h => h) (Or.inl ⟨by rfl, ?_⟩) ?_ ?_
                rotate_left
                · intro w'
                  go_simp
                  with_reducible rfl
                rotate_left
                · simp only [Act.put, List.setIfInBounds_toArray, List.set_cons_zero, List.set_cons_succ, i64_w, i32_w]
                  rfl
                refine pure_ (i := 4) (N := some 40) (v := ?_) (a' := ?_) #[true, true, true, true, true, false, false, false, false, false, false, false, false, false, false] rfl rfl (by kernel_rfl) (fun _ _ _ h => h) (Or.inl ⟨by rfl, ?_⟩) ?_ ?_
                rotate_left
                · intro w'
                  go_simp
                  with_reducible rfl
                rotate_left
                · simp only [Act.put, List.setIfInBounds_toArray, List.set_cons_zero, List.set_cons_succ, i64_w, i32_w]
                  rfl
                refine pure_ (i := 12) (N := some 48) (v := ?_) (a' := ?_) #[true, true, true, true, true, false, false, false, false, false, false, false, true, false, false] rfl rfl (by kernel_rfl) (fun _ _ _ h => h) (Or.inl ⟨by rfl, ?_⟩) ?_ ?_
                rotate_left
                · intro w'
                  go_simp
                  with_reducible rfl
                rotate_left
                · simp only [Act.put, List.setIfInBounds_toArray, List.set_cons_zero, List.set_cons_succ, i64_w, i32_w]
                  rfl
                refine take_ (i := 5) (N := some 41) (v := ?_) (a' := ?_) #[true, true, true, true, true, true, false, false, false, false, false, false, true, false, false] rfl rfl (by kernel_rfl) (fun _ _ _ h => h) (Or.inl ⟨by rfl, ?_⟩) hHeld ?_ ?_
                rotate_left
                · rintro w' ⟨s0, s1⟩
                  go_simp
                  with_reducible rfl
                rotate_left
                · simp only [Act.put, List.setIfInBounds_toArray, List.set_cons_zero, List.set_cons_succ, i64_w, i32_w]
                  rfl
                refine pure_ (i := 6) (N := some 42) (v := ?_) (a' := ?_) #[true, true, true, true, true, true, true, false, false, false, false, false, true, false, false] rfl rfl (by kernel_rfl) (fun _ _ _ h => h) (Or.inl ⟨by rfl, ?_⟩) ?_ ?_
                rotate_left
                · intro w'
                  go_simp
                  with_reducible rfl
                rotate_left
                · simp only [Act.put, List.setIfInBounds_toArray, List.set_cons_zero, List.set_cons_succ, i64_w, i32_w]
                  rfl
                refine pure_ (i := 7) (N := some 43) (v := ?_) (a' := ?_) #[true, true, true, true, true, true, true, true, false, false, false, false, true, false, false] rfl rfl (by kernel_rfl) (fun _ _ _ h => h) (Or.inl ⟨by rfl, ?_⟩) ?_ ?_
                rotate_left
                · intro w'
                  go_simp
                  with_reducible rfl
                rotate_left
                · simp only [Act.put, List.setIfInBounds_toArray, List.set_cons_zero, List.set_cons_succ, i64_w, i32_w]
                  rfl
                refine pure_ (i := 8) (N := some 44) (v := ?_) (a' := ?_) #[true, true, true, true, true, true, true, true, true, false, false, false, true, false, false] rfl rfl (by kernel_rfl) (fun _ _ _ h => h) (Or.inl ⟨by rfl, ?_⟩) ?_ ?_
                rotate_left
                · intro w'
                  go_simp
                  with_reducible rfl
                rotate_left
                · simp only [Act.put, List.setIfInBounds_toArray, List.set_cons_zero, List.set_cons_succ, i64_w, i32_w]
                  rfl
                refine take_ (i := 9) (N := some 45) (v := ?_) (a' := ?_) #[true, true, true, true, true, true, true, true, true, true, false, false, true, false, false] rfl rfl (by kernel_rfl) (fun _ _ _ h => h) (Or.inl ⟨by rfl, ?_⟩) hHeld ?_ ?_
                rotate_left
                · rintro w' ⟨s0, s1⟩
                  go_simp
                  with_reducible rfl
                rotate_left
                · simp only [Act.put, List.setIfInBounds_toArray, List.set_cons_zero, List.set_cons_succ, i64_w, i32_w]
                  rfl
                refine pure_ (i := 10) (N := some 46) (v := ?_) (a' := ?_) #[true, true, true, true, true, true, true, true, true, true, true, false, true, false, false] rfl rfl (by kernel_rfl) (fun _ _ _ h => h) (Or.inl ⟨by rfl, ?_⟩) ?_ ?_
                rotate_left
                · intro w'
                  go_simp
                  with_reducible rfl
                rotate_left
                · simp only [Act.put, List.setIfInBounds_toArray, List.set_cons_zero, List.set_cons_succ, i64_w, i32_w]
                  rfl
                refine pure_ (i := 11) (N := some 47) (v := ?_) (a' := ?_) #[true, true, true, true, true, true, true, true, true, true, true, true, true, false, false] rfl rfl (by kernel_rfl) (fun _ _ _ h => h) (Or.inl ⟨by rfl, ?_⟩) ?_ ?_
                rotate_left
                · intro w'
                  go_simp
                  with_reducible rfl
                rotate_left
                · simp only [Act.put, List.setIfInBounds_toArray, List.set_cons_zero, List.set_cons_succ, i64_w, i32_w]
                  rfl
                refine pure_ (i := 13) (N := some 49) (v := ?_) (a' := ?_) #[true, true, true, true, true, true, true, true, true, true, true, true, true, true, false] rfl rfl (by kernel_rfl) (fun _ _ _ h => h) (Or.inl ⟨by rfl, ?_⟩) ?_ ?_
                rotate_left
                · intro w'
                  go_simp
                  with_reducible rfl
                rotate_left
                · simp only [Act.put, List.setIfInBounds_toArray, List.set_cons_zero, List.set_cons_succ, i64_w, i32_w]
                  rfl
                refine last_ (i := 14) (N := none) #[true, true, true, true, true, true, true, true, true, true, true, true, true, true, true] rfl rfl (by kernel_rfl) (by decide) (fun K hK => ?_)
                refine H.own_mput_step HO.out (by rfl) 0 (n := 12) rfl (HDM.out k b) rfl rfl rfl rfl (by kernel_rfl) (by show b < (H.domTo g k b).length; rw [H.domTo, HDL.out]; exact HBL.out) HK12.out ?_
                intro w_ ho_ hg_
                replace HO := Aside0.mk ho_
                clear ho_ hg_
                refine hK.out _ _ ?_
                clear hK K
                refine done_ (by kernel_rfl) ?_
                go_wp2
                go_roundw
                case rel => exact ⟨b + 1, by go_num, by omega, ⟨by rw [← H.domTo_put g HBL.out HV.out]; exact HO.out⟩⟩
                case measure => simp [intOf]; omega
              | false =>
                have HV := Aside0.mk (show H.domV g b k = true by unfold H.domV; rw [HAL.out, hx, HLF.out, hy, HBK.out]; simp)
                have HX := Aside0.mk hx
                have HY := Aside0.mk hy
                clear hx hy
                refine start_ (n := 15) (S := fun w' => w'.cell? ⟨ga, b, none⟩ = some (.bool true) ∧ w'.cell? ⟨gl, b, none⟩ = some (.bool false)) (ds := [14]) #[false, false, false, false, false, false, false, false, false, false, false, false, false, false, false] (by kernel_rfl) rfl rfl ⟨(HX.out ▸ HO.out.bat 1 rfl (by rw [HALN.out]; exact HB12.out)), (HY.out ▸ HO.out.bat 2 rfl (by rw [HLL.out]; exact HB12.out))⟩ (fun hHeld => ?_)
                refine pure_ (i := 0) (N := some 36) (v := ?_) (a' := ?_) #[true, false, false, false, false, false, false, false, false, false, false, false, false, false, false] rfl rfl (by kernel_rfl) (fun _ _ _ h => h) (Or.inl ⟨by rfl, ?_⟩) ?_ ?_
                rotate_left
                · intro w'
                  go_simp
                  with_reducible rfl
                rotate_left
                · simp only [Act.put, List.setIfInBounds_toArray, List.set_cons_zero, List.set_cons_succ, i64_w, i32_w]
                  rfl
                refine pure_ (i := 1) (N := some 37) (v := ?_) (a' := ?_) #[true, true, false, false, false, false, false, false, false, false, false, false, false, false, false] rfl rfl (by kernel_rfl) (fun _ _ _ h => h) (Or.inl ⟨by rfl, ?_⟩) ?_ ?_
                rotate_left
                · intro w'
                  go_simp
                  with_reducible rfl
                rotate_left
                · simp only [Act.put, List.setIfInBounds_toArray, List.set_cons_zero, List.set_cons_succ, i64_w, i32_w]
                  rfl
                refine pure_ (i := 2) (N := some 38) (v := ?_) (a' := ?_) #[true, true, true, false, false, false, false, false, false, false, false, false, false, false, false] rfl rfl (by kernel_rfl) (fun _ _ _ h => h) (Or.inl ⟨by rfl, ?_⟩) ?_ ?_
                rotate_left
                · intro w'
                  go_simp
                  with_reducible rfl
                rotate_left
                · simp only [Act.put, List.setIfInBounds_toArray, List.set_cons_zero, List.set_cons_succ, i64_w, i32_w]
                  rfl
                refine pure_ (i := 3) (N := some 39) (v := ?_) (a' := ?_) #[true, true, true, true, false, false, false, false, false, false, false, false, false, false, false] rfl rfl (by kernel_rfl) (fun _ _ _ h => h) (Or.inl ⟨by rfl, ?_⟩) ?_ ?_
                rotate_left
                · intro w'
                  go_simp
                  with_reducible rfl
                rotate_left
                · simp only [Act.put, List.setIfInBounds_toArray, List.set_cons_zero, List.set_cons_succ, i64_w, i32_w]
                  rfl
                refine pure_ (i := 4) (N := some 40) (v := ?_) (a' := ?_) #[true, true, true, true, true, false, false, false, false, false, false, false, false, false, false] rfl rfl (by kernel_rfl) (fun _ _ _ h => h) (Or.inl ⟨by rfl, ?_⟩) ?_ ?_
                rotate_left
                · intro w'
                  go_simp
                  with_reducible rfl
                rotate_left
                · simp only [Act.put, List.setIfInBounds_toArray, List.set_cons_zero, List.set_cons_succ, i64_w, i32_w]
                  rfl
                refine pure_ (i := 12) (N := some 48) (v := ?_) (a' := ?_) #[true, true, true, true, true, false, false, false, false, false, false, false, true, false, false] rfl rfl (by kernel_rfl) (fun _ _ _ h => h) (Or.inl ⟨by rfl, ?_⟩) ?_ ?_
                rotate_left
                · intro w'
                  go_simp
                  with_reducible rfl
                rotate_left
                · simp only [Act.put, List.setIfInBounds_toArray, List.set_cons_zero, List.set_cons_succ, i64_w, i32_w]
                  rfl
                refine take_ (i := 5) (N := some 41) (v := ?_) (a' := ?_) #[true, true, true, true, true, true, false, false, false, false, false, false, true, false, false] rfl rfl (by kernel_rfl) (fun _ _ _ h => h) (Or.inl ⟨by rfl, ?_⟩) hHeld ?_ ?_
                rotate_left
                · rintro w' ⟨s0, s1⟩
                  go_simp
                  with_reducible rfl
                rotate_left
                · simp only [Act.put, List.setIfInBounds_toArray, List.set_cons_zero, List.set_cons_succ, i64_w, i32_w]
                  rfl
                refine pure_ (i := 6) (N := some 42) (v := ?_) (a' := ?_) #[true, true, true, true, true, true, true, false, false, false, false, false, true, false, false] rfl rfl (by kernel_rfl) (fun _ _ _ h => h) (Or.inl ⟨by rfl, ?_⟩) ?_ ?_
                rotate_left
                · intro w'
                  go_simp
                  with_reducible rfl
                rotate_left
                · simp only [Act.put, List.setIfInBounds_toArray, List.set_cons_zero, List.set_cons_succ, i64_w, i32_w]
                  rfl
                refine pure_ (i := 7) (N := some 43) (v := ?_) (a' := ?_) #[true, true, true, true, true, true, true, true, false, false, false, false, true, false, false] rfl rfl (by kernel_rfl) (fun _ _ _ h => h) (Or.inl ⟨by rfl, ?_⟩) ?_ ?_
                rotate_left
                · intro w'
                  go_simp
                  with_reducible rfl
                rotate_left
                · simp only [Act.put, List.setIfInBounds_toArray, List.set_cons_zero, List.set_cons_succ, i64_w, i32_w]
                  rfl
                refine pure_ (i := 8) (N := some 44) (v := ?_) (a' := ?_) #[true, true, true, true, true, true, true, true, true, false, false, false, true, false, false] rfl rfl (by kernel_rfl) (fun _ _ _ h => h) (Or.inl ⟨by rfl, ?_⟩) ?_ ?_
                rotate_left
                · intro w'
                  go_simp
                  with_reducible rfl
                rotate_left
                · simp only [Act.put, List.setIfInBounds_toArray, List.set_cons_zero, List.set_cons_succ, i64_w, i32_w]
                  rfl
                refine take_ (i := 9) (N := some 45) (v := ?_) (a' := ?_) #[true, true, true, true, true, true, true, true, true, true, false, false, true, false, false] rfl rfl (by kernel_rfl) (fun _ _ _ h => h) (Or.inl ⟨by rfl, ?_⟩) hHeld ?_ ?_
                rotate_left
                · rintro w' ⟨s0, s1⟩
                  go_simp
                  with_reducible rfl
                rotate_left
                · simp only [Act.put, List.setIfInBounds_toArray, List.set_cons_zero, List.set_cons_succ, i64_w, i32_w]
                  rfl
                refine pure_ (i := 10) (N := some 46) (v := ?_) (a' := ?_) #[true, true, true, true, true, true, true, true, true, true, true, false, true, false, false] rfl rfl (by kernel_rfl) (fun _ _ _ h => h) (Or.inl ⟨by rfl, ?_⟩) ?_ ?_
                rotate_left
                · intro w'
                  go_simp
                  with_reducible rfl
                rotate_left
                · simp only [Act.put, List.setIfInBounds_toArray, List.set_cons_zero, List.set_cons_succ, i64_w, i32_w]
                  rfl
                refine pure_ (i := 11) (N := some 47) (v := ?_) (a' := ?_) #[true, true, true, true, true, true, true, true, true, true, true, true, true, false, false] rfl rfl (by kernel_rfl) (fun _ _ _ h => h) (Or.inl ⟨by rfl, ?_⟩) ?_ ?_
                rotate_left
                · intro w'
                  go_simp
                  with_reducible rfl
                rotate_left
                · simp only [Act.put, List.setIfInBounds_toArray, List.set_cons_zero, List.set_cons_succ, i64_w, i32_w]
                  rfl
                refine pure_ (i := 13) (N := some 49) (v := ?_) (a' := ?_) #[true, true, true, true, true, true, true, true, true, true, true, true, true, true, false] rfl rfl (by kernel_rfl) (fun _ _ _ h => h) (Or.inl ⟨by rfl, ?_⟩) ?_ ?_
                rotate_left
                · intro w'
                  go_simp
                  with_reducible rfl
                rotate_left
                · simp only [Act.put, List.setIfInBounds_toArray, List.set_cons_zero, List.set_cons_succ, i64_w, i32_w]
                  rfl
                refine last_ (i := 14) (N := none) #[true, true, true, true, true, true, true, true, true, true, true, true, true, true, true] rfl rfl (by kernel_rfl) (by decide) (fun K hK => ?_)
                refine H.own_mput_step HO.out (by rfl) 0 (n := 12) rfl (HDM.out k b) rfl rfl rfl rfl (by kernel_rfl) (by show b < (H.domTo g k b).length; rw [H.domTo, HDL.out]; exact HBL.out) HK12.out ?_
                intro w_ ho_ hg_
                replace HO := Aside0.mk ho_
                clear ho_ hg_
                refine hK.out _ _ ?_
                clear hK K
                refine done_ (by kernel_rfl) ?_
                go_wp2
                go_roundw
                case rel => exact ⟨b + 1, by go_num, by omega, ⟨by rw [← H.domTo_put g HBL.out HV.out]; exact HO.out⟩⟩
                case measure => simp [intOf]; omega
          · have hE : b = g.length := by omega
            subst hE
            go_wp2
            go_roundw
            case rel => exact ⟨k + 1, by go_num, by omega, ⟨by rw [← H.domTo_end]; exact HO.out.take (by simp)⟩⟩
            case measure => simp [intOf]; omega
    · have hE : k = g.length := by omega
      subst hE
      go_wp2
      go_ret
      exact ⟨gs, rfl, by rw [← H.domTo_last]; exact HO.out.take (by simp)⟩
end Go.Proofs.Ytplcipjlkogadaa.P

namespace Go.Proofs.Ytplcipjlkogadaa.P
open Go.RowKit Go.Proofs.YtplcipjlkogadaaW.PrintWords Go.Proofs.YtplcipjlkogadaaW.PrintLast Go.Proofs.YtplcipjlkogadaaW.PrintMore
attribute [local go_sem] max2_int min2_int max_two min_two max_three min_three max_four min_four
def impl_DominatorsOf.f (l0_0 : List (List Int)) : Option (List (List Int) × Bool) := some (if H.goodG l0_0 then ((H.domF l0_0).map (fun r => listTo r 12), true) else ([], false))
set_option maxHeartbeats 8000000 in
set_option maxRecDepth 100000 in
theorem impl_DominatorsOf.calls (A0_0 : Option Addr) (c0_0 : Nat) (l0_0 : List (List Int)) (r1 : List (List Int)) (r2 : Bool) (w : World) (hr0_0 : Kd.C (Kd.slice 3 (Kd.int .i64)) w A0_0 l0_0.length l0_0) (hc0_0 : l0_0.length ≤ c0_0) (h : impl_DominatorsOf.f l0_0 = some (r1, r2)) :
    Calls Try.prog 37 #[.agg #[.slice A0_0 l0_0.length c0_0]] w fun e w' => ∃ v0_ : Value, e = .returned (.tuple #[v0_, .bool r2]) ∧ Kd.S (Kd.slice 3 (Kd.int .i64)) 31 w' w.heap.size (fun _ => True) v0_ r1 ∧ Below w.heap.size w w' := by
  replace h := Option.some.inj h
  have HR0 := Aside0.mk hr0_0
  have HC0 := Aside0.mk hc0_0
  clear hr0_0 hc0_0
  have HO := Aside0.mk (H.Own.nil w)
  have HK := Aside0.mk (fun (W : World) (hb : Below w.heap.size w W) => impl_GoodGraph.calls A0_0 c0_0 l0_0 _ W (Kd.C_below HR0.out hb) HC0.out rfl)
  cases hg : H.goodG l0_0 with
  | false =>
    rw [hg, if_neg (by simp), Prod.mk.injEq] at h
    obtain ⟨rfl, rfl⟩ := h
    rw [hg] at HK
    clear hg
    go_enter Try.func37, Try.ntmps37
    go_wp2_with (first | ((with_reducible refine gate_dst (N := 1) rfl ?_); refine H.own_box HO.out ?bxg (N := 1) ?bxd (cs := #[Value.slice A0_0 l0_0.length c0_0]) (t := 27) ?bxr ?_; (case bxd => rfl); (case bxg => rfl); (case bxr => first | (go_simp; done) | (go_simp; rfl)); intro gp w_ ho_ hb_; replace HO := Aside0.mk ho_; clear ho_ hb_) | ((with_reducible refine gate_dst (N := 7) rfl ?_); refine wpList_load_row rfl 27 (.tmp 1) rfl _ rfl 27 _ (0, 0) _ (HO.out.get 0 rfl) Try.underlying27 rfl (by kernel_rfl) ?_) | (go_at_call 18; refine (HK.out _ HO.out.below).mono ?_; rintro e w' ⟨rfl, hb⟩; replace HO := Aside0.mk (HO.out.step hb); clear hb))
    go_ret2
    exact ⟨_, rfl, Kd.S_nil _ _ _ _ _, HO.out.below⟩
  | true =>
    rw [hg, if_pos rfl, Prod.mk.injEq] at h
    obtain ⟨rfl, rfl⟩ := h
    rw [hg] at HK
    have hr := H.goodG_rows hg
    have hn1 : 1 ≤ l0_0.length := hr.1.1
    have hn2 : l0_0.length ≤ 12 := hr.1.2
    have HG := Aside0.mk hg
    clear hg hr
    have HI := Aside0.mk (show (Try.prog.info? 64).map (·.size) = some 12 by kernel_rfl)
    have hml := H.matF_len (fun b j => decide (j < l0_0.length) && H.domV l0_0 b j) l0_0.length
    have hmm := H.matF_mat (fun b j => decide (j < l0_0.length) && H.domV l0_0 b j) l0_0.length
    have HMM : Aside0 (H.Mat 12 (H.domF l0_0)) := ⟨hmm⟩
    have HML : Aside0 ((H.domF l0_0).length = l0_0.length) := ⟨hml⟩
    clear hml hmm
    obtain ⟨M, hMD⟩ : ∃ M, H.domF l0_0 = M := ⟨_, rfl⟩
    rw [hMD] at HMM HML ⊢
    have HMD := Aside0.mk hMD
    clear hMD
    go_enter Try.func37, Try.ntmps37
    go_wp2_with (first | ((with_reducible refine gate_dst (N := 1) rfl ?_); refine H.own_box HO.out ?bxg (N := 1) ?bxd (cs := #[Value.slice A0_0 l0_0.length c0_0]) (t := 27) ?bxr ?_; (case bxd => rfl); (case bxg => rfl); (case bxr => first | (go_simp; done) | (go_simp; rfl)); intro gp w_ ho_ hb_; replace HO := Aside0.mk ho_; clear ho_ hb_) | ((with_reducible refine gate_dst (N := 7) rfl ?_); refine wpList_load_row rfl 27 (.tmp 1) rfl _ rfl 27 _ (0, 0) _ (HO.out.get 0 rfl) Try.underlying27 rfl (by kernel_rfl) ?_) | (go_at_call 18; refine (HK.out _ HO.out.below).mono ?_; rintro e w' ⟨rfl, hb⟩; replace HO := Aside0.mk (HO.out.step hb); have hx1 := HO.out.cell 0 rfl 0; clear hb) | ((with_reducible refine gate_dst (N := 13) rfl ?_); refine Kd.S_make (Kd.slice 3 (Kd.int .i64)) (w0 := w) w.heap.size 31 rfl (N := 13) rfl 22 _ _ rfl (l0_0.length : Int) rfl rfl Try.underlying22 (.slice none 0 0) 24 info31 rfl (by decide) (by omega) [] (ok := fun _ => True) (okp := fun _ => True) ⟨_, rfl, Kd.R_nil _ _ _ _ _⟩ (fun _ hk => hk) trivial (by omega) (by simp only [Int.toNat_natCast]; omega) HO.out.below HO.out.size ?_; intro vs w_ ho_ hb_ hg_ hnew_; clear hx1; replace HO := Aside0.mk (HO.out.grown hg_ (fun k hk => by cases hk)); have HS := Aside0.mk ho_; clear ho_ hb_ hg_ hnew_) | (go_at_call 67; refine (impl_dominators.calls ⟨gp, 0, none⟩ A0_0 c0_0 l0_0 _ (HO.out.cell 0 rfl 0) (Kd.C_below HR0.out HO.out.below) HG.out).mono ?_; rintro e w' ⟨gm, rfl, ho⟩; replace HS := Aside0.mk (Kd.S_below HS.out ho.below); replace HO := Aside0.mk (HO.out.join ho); clear ho))
    rw [HMD.out] at HO
    rw [Int.toNat_natCast] at HS
    obtain ⟨gs, cs, rfl, _, _, _⟩ := Kd.S_form HS.out (by simp; omega)
    rw [List.length_replicate] at HS ⊢
    have HML2 := Aside0.mk (show l0_0.length = M.length from HML.out.symm)
    go_loopw [16] (fun vc wr => ∃ i : Nat, vc = .int .i64 i ∧ i ≤ l0_0.length ∧ Aside0 (Kd.S (Kd.slice 3 (Kd.int .i64)) 31 wr w.heap.size (fun _ => True) (.slice (some ⟨gs, 0, none⟩) l0_0.length cs) (H.fillP (fun r => listTo r 12) [] M i)) ∧ Aside0 (H.Own w wr [(gp, #[Value.slice A0_0 l0_0.length c0_0], 27), (gm, H.bcells M.flatten, 64)])) (fun vc _ => l0_0.length - (intOf vc).toNat)
    case atStart => exact ⟨0, rfl, Nat.zero_le _, ⟨by rw [H.fillP_zero, HML.out]; exact HS.out⟩, HO⟩
    case round =>
      clear HO HS
      obtain ⟨i, rfl, hi, HS, HO⟩ := hrel
      by_cases hlt : i < l0_0.length
      · have HIL := Aside0.mk hlt
        have HIM := Aside0.mk (show i < M.length by rw [HML.out]; exact hlt)
        have HST := Aside0.mk (H.fillP_step (f := fun r => listTo r 12) (d := []) [] HIM.out)
        have hil : (i : Int) < (l0_0.length : Int) := by omega
        have HRW := Aside0.mk (HMM.out.row HIM.out)
        obtain ⟨row, hrow⟩ : ∃ row, M.getD i [] = row := ⟨_, rfl⟩
        rw [hrow] at HRW HST
        have HROW := Aside0.mk hrow
        clear hrow
        go_wp2_with (first | ((with_reducible refine gate_dst (N := 20) rfl ?_); refine wpList_load_mid rfl 64 (.tmp 19) rfl gm (i * 12) rfl (row.map Value.bool) _ (by rw [← HROW.out]; exact HO.out.mrange 1 (n := 12) rfl HMM.out HIM.out) Try.underlying64 rfl (by rw [List.length_map, HRW.out]; exact HI.out) ?_) | ((with_reducible refine gate_dst (N := 6) rfl ?_); refine H.own_box HO.out ?bxg (N := 6) ?bxd (cs := H.bcells H.none12) (t := 64) ?bxr ?_; (case bxd => rfl); (case bxg => rfl); (case bxr => first | (go_simp; done) | (go_simp; rfl)); intro gx w_ ho_ hb_; replace HS := Aside0.mk (Kd.S_below HS.out hb_); replace HO := Aside0.mk ho_; clear ho_ hb_) | ((with_reducible refine gate_store (t := 64) (p := 6) rfl ?_); refine H.own_ball HO.out 2 (bs' := row) rfl rfl rfl rfl rfl rfl HI.out HRW.out ?_; intro w_ ho_ hg_; replace HS := Aside0.mk (HO.out.keepS 2 rfl HS.out hg_ (by decide)); replace HO := Aside0.mk ho_; clear ho_ hg_) | (go_at_call 62; refine (impl_list.calls gx 0 row _ (HO.out.brange 2 rfl) HRW.out).mono ?_; rintro e w' ⟨v0, rfl, hv, hb⟩; have HV := Aside0.mk (Kd.R_lower hv HO.out.size); replace HS := Aside0.mk (Kd.S_mono (ok' := fun k => some k ≠ v0.ownBlock) (Kd.S_elder' HS.out (Kd.R_base hv) hb) (fun _ hk => hk.2)); replace HO := Aside0.mk (HO.out.step hb); clear hv hb) | ((with_reducible refine gate_store (t := 31) (p := 24) rfl ?_); refine H.own_rowput HO.out HS.out HV.out (Nat.le_refl _) rfl rfl rfl rfl rfl (by kernel_rfl) HIL.out (by simp) ?_; intro w_ ho_ hs_ hg_; replace HO := Aside0.mk ho_; replace HS := Aside0.mk hs_; clear HV ho_ hs_ hg_))
        go_roundw
        case rel => exact ⟨i + 1, by go_num, by omega, ⟨by rw [← HST.out]; exact HS.out⟩, ⟨HO.out.take (by simp)⟩⟩
        case measure => simp [intOf]; omega
      · have hE : i = l0_0.length := by omega
        subst hE
        go_wp2
        go_ret2
        exact ⟨_, rfl, by have := HS.out; rw [show l0_0.length = M.length from HML2.out, H.fillP_end] at this; rw [HML2.out]; exact this, HO.out.below⟩
end Go.Proofs.Ytplcipjlkogadaa.P

namespace Go.Proofs.Ytplcipjlkogadaa.P
open Go.RowKit Go.Proofs.YtplcipjlkogadaaW.PrintWords Go.Proofs.YtplcipjlkogadaaW.PrintLast Go.Proofs.YtplcipjlkogadaaW.PrintMore
attribute [local go_sem] max2_int min2_int max_two min_two max_three min_three max_four min_four
def spec_l1In.f (a0 : Int) (a1 : Int) (a2 : Int) : Option (Bool) := if a0 ≥ a1 then (some (decide (a0 ≤ a2))) else (some false)
set_option maxHeartbeats 8000000 in
set_option maxRecDepth 100000 in
theorem spec_l1In.calls (a0 : Int) (a1 : Int) (a2 : Int) (r : Bool) (w : World) (h : spec_l1In.f a0 a1 a2 = some r) :
    Calls Try.prog 54 #[.int .i64 a0, .int .i64 a1, .int .i64 a2] w fun e w' => e = .returned (.bool r) ∧ Drawn0 w w' := by
  have H : (if a0 ≥ a1 then (some (decide (a0 ≤ a2))) else (some false)) = some r := h
  clear h
  by_cases c4 : a0 ≥ a1
  · rw [if_pos c4] at H
    have c4b0 : decide (a1 ≤ a0) = true := decide_eq_true c4
    clear c4
    as_aux_lemma =>
      obtain rfl := Option.some.inj H
      go_enter Try.func54, Try.ntmps54
      go_wp2
      go_ret
      exact ⟨by first | rfl | (simp; done) | (simp [*]; done), by repeat (first | exact Drawn0.refl _ | apply Drawn0.step)⟩
  · rw [if_neg c4] at H
    have c4b0 : decide (a1 ≤ a0) = false := decide_eq_false c4
    clear c4
    as_aux_lemma =>
      obtain rfl := Option.some.inj H
      go_enter Try.func54, Try.ntmps54
      go_wp2
      go_ret
      exact ⟨by first | rfl | (simp; done) | (simp [*]; done), by repeat (first | exact Drawn0.refl _ | apply Drawn0.step)⟩
end Go.Proofs.Ytplcipjlkogadaa.P

namespace Go.Proofs.Ytplcipjlkogadaa.P
open Go.RowKit Go.Proofs.YtplcipjlkogadaaW.PrintWords Go.Proofs.YtplcipjlkogadaaW.PrintLast Go.Proofs.YtplcipjlkogadaaW.PrintMore
attribute [local go_sem] max2_int min2_int max_two min_two max_three min_three max_four min_four
mutual
def spec_GoodGraph.l0 : Nat → Int → List (List Int) → Int → Int → Option (Bool)
  | 0, _, _, _, _ => none
  | k + 1, x3, x12, x13, x14 => if x14 < x13 then (if 0 ≤ x14 then (if x14 < (x12.length : Int) then (spec_GoodGraph.l1 k x3 (rd_L1 x12 x14) x12 x13 x14 (rd_L1 x12 x14) ((rd_L1 x12 x14).length : Int) 0) else (none)) else (none)) else ((spec_l1In.f x3 1 12).bind fun t106 => (some t106))
def spec_GoodGraph.l1 : Nat → Int → List Int → List (List Int) → Int → Int → List Int → Int → Int → Option (Bool)
  | 0, _, _, _, _, _, _, _, _ => none
  | k + 1, x3, x5, x12, x13, x14, x18, x19, x20 => if x20 < x19 then (if 0 ≤ x20 then (if x20 < (x18.length : Int) then (if (rd x18 x20) < 0 then (some false) else (if (rd x18 x20) ≥ x3 then (some false) else (if x20 > 0 then (if 0 ≤ (wrap64 (x20 - 1)) then (if (wrap64 (x20 - 1)) < (x5.length : Int) then (if (rd x5 (wrap64 (x20 - 1))) ≥ (rd x18 x20) then (some false) else (spec_GoodGraph.l1 k x3 x5 x12 x13 x14 x18 x19 (wrap64 (x20 + 1)))) else (none)) else (none)) else (spec_GoodGraph.l1 k x3 x5 x12 x13 x14 x18 x19 (wrap64 (x20 + 1)))))) else (none)) else (none)) else (spec_GoodGraph.l0 k x3 x12 x13 (wrap64 (x14 + 1)))
end
def spec_GoodGraph.f (k : Nat) (l0_0 : List (List Int)) : Option (Bool) := spec_GoodGraph.l0 k (l0_0.length : Int) l0_0 (l0_0.length : Int) 0
set_option maxHeartbeats 8000000 in
set_option maxRecDepth 100000 in
theorem spec_GoodGraph.calls (k : Nat) (A0_0 : Option Addr) (c0_0 : Nat) (l0_0 : List (List Int)) (r : Bool) (w : World) (hr0_0 : Kd.C (Kd.slice 3 (Kd.int .i64)) w A0_0 l0_0.length l0_0) (hc0_0 : l0_0.length ≤ c0_0) (h : spec_GoodGraph.f k l0_0 = some r) :
    Calls Try.prog 16 #[.agg #[.slice A0_0 l0_0.length c0_0]] w fun e w' => e = .returned (.bool r) ∧ Below w.heap.size w w' := by
  have hu27 := Try.underlying27
  have HR0_0 := Aside0.mk hr0_0
  have HC0_0 := Aside0.mk hc0_0
  clear hr0_0 hc0_0
  have HB := Aside0.mk (Below.refl w.heap.size w)
  have H : (spec_GoodGraph.l0 k (l0_0.length : Int) l0_0 (l0_0.length : Int) 0) = some r := h
  clear h
  have H' := Aside0.mk H
  clear H
  go_enter Try.func16, Try.ntmps16
  go_wp2_with (first | ((with_reducible refine gate_dst (N := 1) rfl ?_); refine box_event ?hg (N := 1) ?hd (cs := #[.slice A0_0 l0_0.length c0_0]) (t := 27) ?hr ?_; (case hd => rfl); (case hg => rfl); (case hr => first | (go_simp; done) | (go_simp; rfl)); intro gb105 hg w2 hbox hb; have n0_ := Aside0.mk (below_step (by repeat (first | (with_reducible first | exact HB.out | apply below_alloc | apply pw_below_drewN | apply below_drew1) | exact HB.out)) hb); have n1_ := Aside0.mk (hbox); have n2_ := Aside0.mk ((by rw [hg]; exact (below_size (by repeat (first | (with_reducible first | exact HB.out | apply below_alloc | apply pw_below_drewN | apply below_drew1) | exact HB.out))) : w.heap.size ≤ gb105)); have n3_ := Aside0.mk ((by rw [hg]; exact (below_size (by repeat (first | (with_reducible first | exact HB.out | apply below_alloc | apply pw_below_drewN | apply below_drew1) | exact HB.out))) : w.heap.size ≤ gb105)); clear HB; have HB := n0_; have BK105 := n1_; have GW105 := n2_; have GE105 := n3_; clear n0_ n1_ n2_ n3_; clear hb hbox hg; have hcz3_0 : w2.cell? ⟨gb105, 0, none⟩ = some (.slice A0_0 l0_0.length c0_0) := (blk_cell BK105.out 0).trans rfl; have hfz3_0 := blk_frozen BK105.out 0))
  go_loopg [14] k (fun kq v14 w' => ∃ (x14_1 : Int), v14 = .int .i64 x14_1 ∧ Aside0 (spec_GoodGraph.l0 kq (l0_0.length : Int) l0_0 (l0_0.length : Int) x14_1 = some r) ∧ Aside0 (kq ≤ k) ∧ Aside0 (w'.heap[gb105]? = some (.cells #[(.slice A0_0 l0_0.length c0_0)] 27 (0, 0))) ∧ Aside0 (Below w.heap.size w w'))
  case atStart => exact ⟨(0), (by first | rfl | (simp; done) | (simp [*]; done)), H', ⟨Nat.le_refl _⟩, ⟨by (with_reducible repeat (first | refine blk_drewN ?_ _ | refine blk_drew ?_ | refine blk_alloc ?_ _)); exact BK105.out⟩, ⟨by repeat (first | (with_reducible first | exact HB.out | apply below_alloc | apply pw_below_drewN | apply below_drew1 | refine below_set ?_ GE105.out) | exact HB.out)⟩⟩
  case round =>
    clear H'
    try clear c1
    try clear p2
    try clear hcz3_0
    try clear hfz3_0
    obtain ⟨x14_1, rfl, HA, HK1, BK105, HB⟩ := hrel
    cases gk with
    | zero => exact absurd HA.out (by simp [spec_GoodGraph.l0])
    | succ k1 =>
      have H := HA.out
      clear HA
      simp only [spec_GoodGraph.l0] at H
      by_cases c4 : x14_1 < (l0_0.length : Int)
      · rw [if_pos c4] at H
        have c4b0 : decide (x14_1 < (l0_0.length : Int)) = true := decide_eq_true c4
        clear c4
        by_cases c5 : 0 ≤ x14_1
        · rw [if_pos c5] at H
          have c5b0 : decide (0 ≤ x14_1) = true := decide_eq_true c5
          clear c5
          by_cases c6 : x14_1 < (l0_0.length : Int)
          · rw [if_pos c6] at H
            have c6b0 : decide (x14_1 < (l0_0.length : Int)) = true := decide_eq_true c6
            clear c6
            have H' := Aside0.mk H
            clear H
            have p107 : 0 ≤ (x14_1 : Int) := of_decide_eq_true (by first | (with_reducible assumption) | assumption)
            have q107 : x14_1 < (l0_0.length : Int) := of_decide_eq_true (by first | (with_reducible assumption) | assumption)
            obtain ⟨ad107, A107_0, c107_0, e107, hx107_0, hl107_0, hi107_0⟩ := at_L1 HR0_0.out x14_1 p107 q107
            cases e107
            replace hx107_0 := (HB.out.cell (World.block_lt_of_cell? w _ hx107_0)).trans hx107_0
            have HR107_0 := Aside0.mk hi107_0
            have HC107_0 := Aside0.mk hl107_0
            clear hi107_0 hl107_0
            replace p107 := eq_true p107
            replace q107 := eq_true q107
            go_wp2
            go_loopg [20] k1 (fun kq v20 w' => ∃ (x20_2 : Int), v20 = .int .i64 x20_2 ∧ Aside0 (spec_GoodGraph.l1 kq (l0_0.length : Int) (rd_L1 l0_0 x14_1) l0_0 (l0_0.length : Int) x14_1 (rd_L1 l0_0 x14_1) ((rd_L1 l0_0 x14_1).length : Int) x20_2 = some r) ∧ Aside0 (kq ≤ k1) ∧ Aside0 (w'.heap[gb105]? = some (.cells #[(.slice (some ad107) l0_0.length c0_0)] 27 (0, 0))) ∧ Aside0 (Below w.heap.size w w'))
            case atStart => exact ⟨(0), (by first | rfl | (simp; done) | (simp [*]; done)), H', ⟨Nat.le_refl _⟩, ⟨by (with_reducible repeat (first | refine blk_drewN ?_ _ | refine blk_drew ?_ | refine blk_alloc ?_ _)); exact BK105.out⟩, ⟨by repeat (first | (with_reducible first | exact HB.out | apply below_alloc | apply pw_below_drewN | apply below_drew1 | refine below_set ?_ GE105.out) | exact HB.out)⟩⟩
            case round =>
              clear H'
              try clear c1
              try clear p1
              try clear q1
              try clear hx1
              try clear p2
              try clear c4
              try clear c4b0
              try clear c5
              try clear c5b0
              try clear c6
              try clear c6b0
              try clear hcz3_0
              try clear hfz3_0
              try clear hx107_0
              try clear p107
              try clear p2
              try clear q107
              obtain ⟨x20_2, rfl, HA, HK2, BK105, HB⟩ := hrel
              cases gk with
              | zero => exact absurd HA.out (by simp [spec_GoodGraph.l1])
              | succ k2 =>
                have H := HA.out
                clear HA
                simp only [spec_GoodGraph.l1] at H
                by_cases c7 : x20_2 < ((rd_L1 l0_0 x14_1).length : Int)
                · rw [if_pos c7] at H
                  have c7b0 : decide (x20_2 < ((rd_L1 l0_0 x14_1).length : Int)) = true := decide_eq_true c7
                  clear c7
                  by_cases c8 : 0 ≤ x20_2
                  · rw [if_pos c8] at H
                    have c8b0 : decide (0 ≤ x20_2) = true := decide_eq_true c8
                    clear c8
                    by_cases c9 : x20_2 < ((rd_L1 l0_0 x14_1).length : Int)
                    · rw [if_pos c9] at H
                      have c9b0 : decide (x20_2 < ((rd_L1 l0_0 x14_1).length : Int)) = true := decide_eq_true c9
                      clear c9
                      by_cases c10 : (rd (rd_L1 l0_0 x14_1) x20_2) < 0
                      · rw [if_pos c10] at H
                        have c10b0 : decide ((rd (rd_L1 l0_0 x14_1) x20_2) < 0) = true := decide_eq_true c10
                        clear c10
                        as_aux_lemma =>
                          obtain rfl := Option.some.inj H
                          have p108 : 0 ≤ (x20_2 : Int) := of_decide_eq_true (by first | (with_reducible assumption) | assumption)
                          have q108 : x20_2 < ((rd_L1 l0_0 x14_1).length : Int) := of_decide_eq_true (by first | (with_reducible assumption) | assumption)
                          obtain ⟨ad108, e108, hx108_0⟩ := Kd.at_int HR107_0.out x20_2 p108 q108
                          cases e108
                          replace hx108_0 := (HB.out.cell (World.block_lt_of_cell? w _ hx108_0)).trans hx108_0
                          replace p108 := eq_true p108
                          replace q108 := eq_true q108
                          go_wp2
                          go_ret
                          exact ⟨by first | rfl | (simp [errW_none, errW_some] <;> rfl) | (simp [*, errW_none, errW_some] <;> rfl), by repeat (first | (with_reducible first | exact HB.out | apply below_alloc | apply pw_below_drewN | apply below_drew1 | refine below_set ?_ GE105.out) | exact HB.out)⟩
                      · rw [if_neg c10] at H
                        have c10b0 : decide ((rd (rd_L1 l0_0 x14_1) x20_2) < 0) = false := decide_eq_false c10
                        clear c10
                        by_cases c11 : (rd (rd_L1 l0_0 x14_1) x20_2) ≥ (l0_0.length : Int)
                        · rw [if_pos c11] at H
                          have c11b0 : decide ((l0_0.length : Int) ≤ (rd (rd_L1 l0_0 x14_1) x20_2)) = true := decide_eq_true c11
                          clear c11
                          as_aux_lemma =>
                            obtain rfl := Option.some.inj H
                            have p108 : 0 ≤ (x20_2 : Int) := of_decide_eq_true (by first | (with_reducible assumption) | assumption)
                            have q108 : x20_2 < ((rd_L1 l0_0 x14_1).length : Int) := of_decide_eq_true (by first | (with_reducible assumption) | assumption)
                            obtain ⟨ad108, e108, hx108_0⟩ := Kd.at_int HR107_0.out x20_2 p108 q108
                            cases e108
                            replace hx108_0 := (HB.out.cell (World.block_lt_of_cell? w _ hx108_0)).trans hx108_0
                            replace p108 := eq_true p108
                            replace q108 := eq_true q108
                            go_wp2
                            go_ret
                            exact ⟨by first | rfl | (simp [errW_none, errW_some] <;> rfl) | (simp [*, errW_none, errW_some] <;> rfl), by repeat (first | (with_reducible first | exact HB.out | apply below_alloc | apply pw_below_drewN | apply below_drew1 | refine below_set ?_ GE105.out) | exact HB.out)⟩
                        · rw [if_neg c11] at H
                          have c11b0 : decide ((l0_0.length : Int) ≤ (rd (rd_L1 l0_0 x14_1) x20_2)) = false := decide_eq_false c11
                          clear c11
                          by_cases c12 : x20_2 > 0
                          · rw [if_pos c12] at H
                            have c12b0 : decide (0 < x20_2) = true := decide_eq_true c12
                            clear c12
                            obtain ⟨ji13, hji13⟩ : ∃ j_ : Int, (wrap64 (x20_2 - 1)) = j_ := ⟨_, rfl⟩
                            replace H : (if 0 ≤ (ji13) then (if (ji13) < ((rd_L1 l0_0 x14_1).length : Int) then (if (rd (rd_L1 l0_0 x14_1) (ji13)) ≥ (rd (rd_L1 l0_0 x14_1) x20_2) then (some false) else (spec_GoodGraph.l1 k2 (l0_0.length : Int) (rd_L1 l0_0 x14_1) l0_0 (l0_0.length : Int) x14_1 (rd_L1 l0_0 x14_1) ((rd_L1 l0_0 x14_1).length : Int) (wrap64 (x20_2 + 1)))) else (none)) else (none)) = some r := by first | (rw [hji13] at H; exact H) | (simp only [hji13] at H ⊢; exact H)
                            have hji13w : (IntKind.i64.wrap (x20_2 - 1)) = ji13 := (i64_w _).trans hji13
                            by_cases c14 : 0 ≤ (ji13)
                            · rw [if_pos c14] at H
                              have c14b0 : decide (0 ≤ (ji13)) = true := decide_eq_true c14
                              clear c14
                              by_cases c15 : (ji13) < ((rd_L1 l0_0 x14_1).length : Int)
                              · rw [if_pos c15] at H
                                have c15b0 : decide ((ji13) < ((rd_L1 l0_0 x14_1).length : Int)) = true := decide_eq_true c15
                                clear c15
                                by_cases c16 : (rd (rd_L1 l0_0 x14_1) (ji13)) ≥ (rd (rd_L1 l0_0 x14_1) x20_2)
                                · rw [if_pos c16] at H
                                  have c16b0 : decide ((rd (rd_L1 l0_0 x14_1) x20_2) ≤ (rd (rd_L1 l0_0 x14_1) (ji13))) = true := decide_eq_true c16
                                  clear c16
                                  as_aux_lemma =>
                                    obtain rfl := Option.some.inj H
                                    have p108 : 0 ≤ (x20_2 : Int) := of_decide_eq_true (by first | (with_reducible assumption) | assumption)
                                    have q108 : x20_2 < ((rd_L1 l0_0 x14_1).length : Int) := of_decide_eq_true (by first | (with_reducible assumption) | assumption)
                                    obtain ⟨ad108, e108, hx108_0⟩ := Kd.at_int HR107_0.out x20_2 p108 q108
                                    cases e108
                                    replace hx108_0 := (HB.out.cell (World.block_lt_of_cell? w _ hx108_0)).trans hx108_0
                                    replace p108 := eq_true p108
                                    replace q108 := eq_true q108
                                    have p109 : 0 ≤ ((ji13) : Int) := of_decide_eq_true (by first | (with_reducible assumption) | assumption)
                                    have q109 : (ji13) < ((rd_L1 l0_0 x14_1).length : Int) := of_decide_eq_true (by first | (with_reducible assumption) | assumption)
                                    obtain ⟨ad109, e109, hx109_0⟩ := Kd.at_int HR107_0.out (ji13) p109 q109
                                    obtain rfl : ad108 = ad109 := (by injection e109)
                                    replace hx109_0 := (HB.out.cell (World.block_lt_of_cell? w _ hx109_0)).trans hx109_0
                                    replace p109 := eq_true p109
                                    replace q109 := eq_true q109
                                    go_wp2
                                    go_ret
                                    exact ⟨by first | rfl | (simp [errW_none, errW_some] <;> rfl) | (simp only [← hji13]; first | rfl | (simp [errW_none, errW_some] <;> rfl)) | (simp [*, errW_none, errW_some] <;> rfl), by repeat (first | (with_reducible first | exact HB.out | apply below_alloc | apply pw_below_drewN | apply below_drew1 | refine below_set ?_ GE105.out) | exact HB.out)⟩
                                · rw [if_neg c16] at H
                                  have c16b0 : decide ((rd (rd_L1 l0_0 x14_1) x20_2) ≤ (rd (rd_L1 l0_0 x14_1) (ji13))) = false := decide_eq_false c16
                                  clear c16
                                  as_aux_lemma =>
                                    have H' := Aside0.mk H
                                    clear H
                                    have p108 : 0 ≤ (x20_2 : Int) := of_decide_eq_true (by first | (with_reducible assumption) | assumption)
                                    have q108 : x20_2 < ((rd_L1 l0_0 x14_1).length : Int) := of_decide_eq_true (by first | (with_reducible assumption) | assumption)
                                    obtain ⟨ad108, e108, hx108_0⟩ := Kd.at_int HR107_0.out x20_2 p108 q108
                                    cases e108
                                    replace hx108_0 := (HB.out.cell (World.block_lt_of_cell? w _ hx108_0)).trans hx108_0
                                    replace p108 := eq_true p108
                                    replace q108 := eq_true q108
                                    have p109 : 0 ≤ ((ji13) : Int) := of_decide_eq_true (by first | (with_reducible assumption) | assumption)
                                    have q109 : (ji13) < ((rd_L1 l0_0 x14_1).length : Int) := of_decide_eq_true (by first | (with_reducible assumption) | assumption)
                                    obtain ⟨ad109, e109, hx109_0⟩ := Kd.at_int HR107_0.out (ji13) p109 q109
                                    obtain rfl : ad108 = ad109 := (by injection e109)
                                    replace hx109_0 := (HB.out.cell (World.block_lt_of_cell? w _ hx109_0)).trans hx109_0
                                    replace p109 := eq_true p109
                                    replace q109 := eq_true q109
                                    go_wp2
                                    go_roundg k2
                                    case measure => have := HK1.out; have := HK2.out; omega
                                    case rel => exact ⟨(wrap64 (x20_2 + 1)), (by first | rfl | (simp; done) | (simp [*]; done)), H', ⟨by have := HK1.out; have := HK2.out; omega⟩, ⟨by (with_reducible repeat (first | refine blk_drewN ?_ _ | refine blk_drew ?_ | refine blk_alloc ?_ _)); exact BK105.out⟩, ⟨by repeat (first | (with_reducible first | exact HB.out | apply below_alloc | apply pw_below_drewN | apply below_drew1 | refine below_set ?_ GE105.out) | exact HB.out)⟩⟩
                              · rw [if_neg c15] at H
                                exact absurd H (by simp)
                            · rw [if_neg c14] at H
                              exact absurd H (by simp)
                          · rw [if_neg c12] at H
                            have c12b0 : decide (0 < x20_2) = false := decide_eq_false c12
                            clear c12
                            as_aux_lemma =>
                              have H' := Aside0.mk H
                              clear H
                              have p108 : 0 ≤ (x20_2 : Int) := of_decide_eq_true (by first | (with_reducible assumption) | assumption)
                              have q108 : x20_2 < ((rd_L1 l0_0 x14_1).length : Int) := of_decide_eq_true (by first | (with_reducible assumption) | assumption)
                              obtain ⟨ad108, e108, hx108_0⟩ := Kd.at_int HR107_0.out x20_2 p108 q108
                              cases e108
                              replace hx108_0 := (HB.out.cell (World.block_lt_of_cell? w _ hx108_0)).trans hx108_0
                              replace p108 := eq_true p108
                              replace q108 := eq_true q108
                              go_wp2
                              go_roundg k2
                              case measure => have := HK1.out; have := HK2.out; omega
                              case rel => exact ⟨(wrap64 (x20_2 + 1)), (by first | rfl | (simp; done) | (simp [*]; done)), H', ⟨by have := HK1.out; have := HK2.out; omega⟩, ⟨by (with_reducible repeat (first | refine blk_drewN ?_ _ | refine blk_drew ?_ | refine blk_alloc ?_ _)); exact BK105.out⟩, ⟨by repeat (first | (with_reducible first | exact HB.out | apply below_alloc | apply pw_below_drewN | apply below_drew1 | refine below_set ?_ GE105.out) | exact HB.out)⟩⟩
                    · rw [if_neg c9] at H
                      exact absurd H (by simp)
                  · rw [if_neg c8] at H
                    exact absurd H (by simp)
                · rw [if_neg c7] at H
                  have c7b0 : decide (x20_2 < ((rd_L1 l0_0 x14_1).length : Int)) = false := decide_eq_false c7
                  clear c7
                  as_aux_lemma =>
                    have H' := Aside0.mk H
                    clear H
                    go_wp2
                    go_roundg k2
                    case measure => have := HK1.out; have := HK2.out; omega
                    case rel => exact ⟨(wrap64 (x14_1 + 1)), (by first | rfl | (simp; done) | (simp [*]; done)), H', ⟨by have := HK1.out; have := HK2.out; omega⟩, ⟨by (with_reducible repeat (first | refine blk_drewN ?_ _ | refine blk_drew ?_ | refine blk_alloc ?_ _)); exact BK105.out⟩, ⟨by repeat (first | (with_reducible first | exact HB.out | apply below_alloc | apply pw_below_drewN | apply below_drew1 | refine below_set ?_ GE105.out) | exact HB.out)⟩⟩
          · rw [if_neg c6] at H
            exact absurd H (by simp)
        · rw [if_neg c5] at H
          exact absurd H (by simp)
      · rw [if_neg c4] at H
        have c4b0 : decide (x14_1 < (l0_0.length : Int)) = false := decide_eq_false c4
        clear c4
        replace H := Option.bind_eq_some_iff.mp H
        obtain ⟨t106, A170, H⟩ := H
        replace H : (some t106) = some r := H
        have A17 := Aside0.mk A170
        clear A170
        as_aux_lemma =>
          obtain rfl := Option.some.inj H
          go_wp2_with (first | ((with_reducible refine gate_callee (f := 54) rfl ?_); refine goesL_ (some 48) rfl rfl Try.func54 (by kernel_rfl) rfl #[.int .i64 (l0_0.length : Int), .int .i64 1, .int .i64 12] rfl (by (try simp only [List.map_toArray, List.map_cons, List.map_nil]); first | done | rfl | (simp only [List.length_drop, List.length_take]; rfl)) ?_; (with_reducible refine (spec_l1In.calls (l0_0.length : Int) 1 12 t106 _ A17.out).mono ?_); rintro e w' ⟨rfl, ⟨nd, rfl⟩⟩; refine ⟨_, rfl, ?_⟩))
          go_ret
          exact ⟨by first | rfl | (simp [errW_none, errW_some] <;> rfl) | (simp [*, errW_none, errW_some] <;> rfl), by repeat (first | (with_reducible first | exact HB.out | apply below_alloc | apply pw_below_drewN | apply below_drew1 | refine below_set ?_ GE105.out) | exact HB.out)⟩
end Go.Proofs.Ytplcipjlkogadaa.P

namespace Go.Proofs.Ytplcipjlkogadaa.P
open Go.RowKit Go.Proofs.YtplcipjlkogadaaW.PrintWords Go.Proofs.YtplcipjlkogadaaW.PrintLast Go.Proofs.YtplcipjlkogadaaW.PrintMore
attribute [local go_sem] max2_int min2_int max_two min_two max_three min_three max_four min_four
def spec_l1Has.l0 : Nat → Int → List Int → Int → Int → Option (Bool)
  | 0, _, _, _, _ => none
  | k + 1, x1, x7, x8, x9 => if x9 < x8 then (if 0 ≤ x9 then (if x9 < (x7.length : Int) then (if (rd x7 x9) = x1 then (some true) else (spec_l1Has.l0 k x1 x7 x8 (wrap64 (x9 + 1)))) else (none)) else (none)) else (some false)
def spec_l1Has.f (k : Nat) (l0 : List Int) (a1 : Int) : Option (Bool) := spec_l1Has.l0 k a1 l0 (l0.length : Int) 0
set_option maxHeartbeats 8000000 in
set_option maxRecDepth 100000 in
theorem spec_l1Has.calls (k : Nat) (A0 : Option Addr) (c0 : Nat) (l0 : List Int) (a1 : Int) (r : Bool) (w : World) (hr0 : Kd.C (Kd.int .i64) w A0 l0.length l0) (hc0 : l0.length ≤ c0) (h : spec_l1Has.f k l0 a1 = some r) :
    Calls Try.prog 65 #[.slice A0 l0.length c0, .int .i64 a1] w fun e w' => e = .returned (.bool r) ∧ Drawn0 w w' := by
  have HR0 := Aside0.mk hr0
  have HC0 := Aside0.mk hc0
  clear hr0 hc0
  have H : (spec_l1Has.l0 k a1 l0 (l0.length : Int) 0) = some r := h
  clear h
  have H' := Aside0.mk H
  clear H
  go_enter Try.func65, Try.ntmps65
  go_wp2
  go_loopg [9] k (fun kq v9 w' => ∃ (x9_1 : Int), v9 = .int .i64 x9_1 ∧ Aside0 (spec_l1Has.l0 kq a1 l0 (l0.length : Int) x9_1 = some r) ∧ Aside0 (kq ≤ k) ∧ Drawn0 w w')
  case atStart => exact ⟨(0), (by first | rfl | (simp; done) | (simp [*]; done)), H', ⟨Nat.le_refl _⟩, by repeat (first | exact Drawn0.refl _ | apply Drawn0.step)⟩
  case round =>
    clear H'
    try clear p2
    obtain ⟨x9_1, rfl, HA, HK1, ⟨m1, rfl⟩⟩ := hrel
    cases gk with
    | zero => exact absurd HA.out (by simp [spec_l1Has.l0])
    | succ k1 =>
      have H := HA.out
      clear HA
      simp only [spec_l1Has.l0] at H
      by_cases c3 : x9_1 < (l0.length : Int)
      · rw [if_pos c3] at H
        have c3b0 : decide (x9_1 < (l0.length : Int)) = true := decide_eq_true c3
        clear c3
        by_cases c4 : 0 ≤ x9_1
        · rw [if_pos c4] at H
          have c4b0 : decide (0 ≤ x9_1) = true := decide_eq_true c4
          clear c4
          by_cases c5 : x9_1 < (l0.length : Int)
          · rw [if_pos c5] at H
            have c5b0 : decide (x9_1 < (l0.length : Int)) = true := decide_eq_true c5
            clear c5
            by_cases c6 : (rd l0 x9_1) = a1
            · rw [if_pos c6] at H
              have c6b0 : ((rd l0 x9_1) == a1) = true := beq_iff_eq.mpr c6
              have c6b1 : ((rd l0 x9_1) != a1) = false := bne_eq_false_iff_eq.mpr c6
              clear c6
              as_aux_lemma =>
                obtain rfl := Option.some.inj H
                have p155 : 0 ≤ (x9_1 : Int) := of_decide_eq_true (by first | (with_reducible assumption) | assumption)
                have q155 : x9_1 < (l0.length : Int) := of_decide_eq_true (by first | (with_reducible assumption) | assumption)
                obtain ⟨ad155, e155, hx155_0⟩ := Kd.at_int HR0.out x9_1 p155 q155
                cases e155
                replace p155 := eq_true p155
                replace q155 := eq_true q155
                go_wp2
                go_ret
                exact ⟨by first | rfl | (simp; done) | (simp [*]; done), by repeat (first | exact Drawn0.refl _ | apply Drawn0.step)⟩
            · rw [if_neg c6] at H
              have c6b0 : ((rd l0 x9_1) == a1) = false := beq_eq_false_iff_ne.mpr c6
              have c6b1 : ((rd l0 x9_1) != a1) = true := bne_iff_ne.mpr c6
              as_aux_lemma =>
                have H' := Aside0.mk H
                clear H
                have p155 : 0 ≤ (x9_1 : Int) := of_decide_eq_true (by first | (with_reducible assumption) | assumption)
                have q155 : x9_1 < (l0.length : Int) := of_decide_eq_true (by first | (with_reducible assumption) | assumption)
                obtain ⟨ad155, e155, hx155_0⟩ := Kd.at_int HR0.out x9_1 p155 q155
                cases e155
                replace p155 := eq_true p155
                replace q155 := eq_true q155
                go_wp2
                go_roundg k1
                case measure => have := HK1.out; omega
                case rel => exact ⟨(wrap64 (x9_1 + 1)), (by first | rfl | (simp; done) | (simp [*]; done)), H', ⟨by have := HK1.out; omega⟩, by repeat (first | exact Drawn0.refl _ | apply Drawn0.step)⟩
          · rw [if_neg c5] at H
            exact absurd H (by simp)
        · rw [if_neg c4] at H
          exact absurd H (by simp)
      · rw [if_neg c3] at H
        have c3b0 : decide (x9_1 < (l0.length : Int)) = false := decide_eq_false c3
        clear c3
        as_aux_lemma =>
          obtain rfl := Option.some.inj H
          go_wp2
          go_ret
          exact ⟨by first | rfl | (simp; done) | (simp [*]; done), by repeat (first | exact Drawn0.refl _ | apply Drawn0.step)⟩
end Go.Proofs.Ytplcipjlkogadaa.P

namespace Go.Proofs.Ytplcipjlkogadaa.H
open Go.RowKit Go.Proofs.YtplcipjlkogadaaW.PrintWords Go.Deep
def Opens (P : Program) (T : TypeId) {α : Type} (d : Kd α) (G : α → Prop) : Prop :=
  ∀ {H : Type} {enc : TypeId × Value → H} {w : World} {fuel : Nat} {cs : List Value} {x : DataW H × List MemPlace}, DataW.trod enc P w 0 (fun _ => true) true fuel T cs = some x → ∃ y, d.K w y cs ∧ G y
def I64 (n : Int) : Prop := -9223372036854775808 ≤ n ∧ n ≤ 9223372036854775807
theorem i64_of_wf {n : Int} (h : (Lit.int .i64 n).wf = true) : I64 n := by
  unfold I64
  simp [Lit.wf, IntKind.min, IntKind.max, IntKind.signed, IntKind.bits] at h
  omega
theorem Opens.int {P : Program} {T : TypeId} (ht : P.underlying T = some (.int .i64)) : Opens P T (Kd.int .i64) I64 := by
  intro H enc w fuel cs x h
  obtain ⟨n, rfl, _, hw⟩ := DataW.trod_int ht h
  exact ⟨n, rfl, i64_of_wf hw⟩
end Go.Proofs.Ytplcipjlkogadaa.H

namespace Go.Proofs.Ytplcipjlkogadaa.H
open Go.RowKit Go.Proofs.YtplcipjlkogadaaW.PrintWords Go.Deep Go.WideShapes
end Go.Proofs.Ytplcipjlkogadaa.H

namespace Go.Proofs.Ytplcipjlkogadaa.P
open Go.RowKit Go.Proofs.YtplcipjlkogadaaW.PrintWords Go.Proofs.YtplcipjlkogadaaW.PrintLast Go.Proofs.YtplcipjlkogadaaW.PrintMore
attribute [local go_sem] max2_int min2_int max_two min_two max_three min_three max_four min_four
def laws_toIntS.l0 : Nat → List Int → List Int → Int → Option (List Int)
  | 0, _, _, _ => none
  | k + 1, x0, x3, x4 => if x4 < (x0.length : Int) then (if 0 ≤ x4 then (if x4 < (x3.length : Int) then (laws_toIntS.l0 k x0 (x3.set (x4 : Int).toNat (rd x0 x4)) (wrap64 (x4 + 1))) else (none)) else (none)) else (some x3)
def laws_toIntS.f (k : Nat) (l0 : List Int) : Option (List Int) := if 0 ≤ (l0.length : Int) then (if ((l0.length : Int) : Int).toNat ≤ 35184372088832 then (laws_toIntS.l0 k l0 (List.replicate ((l0.length : Int) : Int).toNat 0) 0) else (none)) else (none)
end Go.Proofs.Ytplcipjlkogadaa.P

namespace Go.Proofs.Ytplcipjlkogadaa.P
open Go.RowKit Go.Proofs.YtplcipjlkogadaaW.PrintWords Go.Proofs.YtplcipjlkogadaaW.PrintLast Go.Proofs.YtplcipjlkogadaaW.PrintMore
attribute [local go_sem] max2_int min2_int max_two min_two max_three min_three max_four min_four
def laws_toIntSS.l0 : Nat → List (List Int) → List (List Int) → Int → Option ((List (List Int)))
  | 0, _, _, _ => none
  | k + 1, x0, x3, x4 => if x4 < (x0.length : Int) then (if 0 ≤ x4 then ((laws_toIntS.f k (rd_L1 x0 x4)).bind fun t119 => (if x4 < (x3.length : Int) then (laws_toIntSS.l0 k x0 (x3.set (x4 : Int).toNat t119) (wrap64 (x4 + 1))) else (none))) else (none)) else (some x3)
def laws_toIntSS.f (k : Nat) (l0 : List (List Int)) : Option ((List (List Int))) := if 0 ≤ (l0.length : Int) then (if ((l0.length : Int) : Int).toNat ≤ 11728124029610 then (laws_toIntSS.l0 k l0 (List.replicate ((l0.length : Int) : Int).toNat []) 0) else (none)) else (none)
end Go.Proofs.Ytplcipjlkogadaa.P

namespace Go.Proofs.Ytplcipjlkogadaa.P
open Go.RowKit Go.Proofs.YtplcipjlkogadaaW.PrintWords Go.Proofs.YtplcipjlkogadaaW.PrintLast Go.Proofs.YtplcipjlkogadaaW.PrintMore
attribute [local go_sem] max2_int min2_int max_two min_two max_three min_three max_four min_four
def laws_eqIntS.l0 : Nat → List Int → List Int → Int → Option (Bool)
  | 0, _, _, _ => none
  | k + 1, x0, x1, x5 => if x5 < (x0.length : Int) then (if 0 ≤ x5 then (if x5 < (x1.length : Int) then (if (rd x0 x5) = (rd x1 x5) then (laws_eqIntS.l0 k x0 x1 (wrap64 (x5 + 1))) else (some false)) else (none)) else (none)) else (some true)
def laws_eqIntS.f (k : Nat) (l0 : List Int) (l1 : List Int) : Option (Bool) := if (l0.length : Int) = (l1.length : Int) then (laws_eqIntS.l0 k l0 l1 0) else (some false)
end Go.Proofs.Ytplcipjlkogadaa.P

namespace Go.Proofs.Ytplcipjlkogadaa.P
open Go.RowKit Go.Proofs.YtplcipjlkogadaaW.PrintWords Go.Proofs.YtplcipjlkogadaaW.PrintLast Go.Proofs.YtplcipjlkogadaaW.PrintMore
attribute [local go_sem] max2_int min2_int max_two min_two max_three min_three max_four min_four
def laws_eqIntSS.l0 : Nat → List (List Int) → List (List Int) → Int → Option (Bool)
  | 0, _, _, _ => none
  | k + 1, x0, x1, x5 => if x5 < (x0.length : Int) then (if 0 ≤ x5 then (if x5 < (x1.length : Int) then ((laws_eqIntS.f k (rd_L1 x0 x5) (rd_L1 x1 x5)).bind fun t136 => (if t136 = true then (laws_eqIntSS.l0 k x0 x1 (wrap64 (x5 + 1))) else (some false))) else (none)) else (none)) else (some true)
def laws_eqIntSS.f (k : Nat) (l0 : List (List Int)) (l1 : List (List Int)) : Option (Bool) := if (l0.length : Int) = (l1.length : Int) then (laws_eqIntSS.l0 k l0 l1 0) else (some false)
end Go.Proofs.Ytplcipjlkogadaa.P

namespace Go.Proofs.Ytplcipjlkogadaa.P
open Go.RowKit Go.Proofs.YtplcipjlkogadaaW.PrintWords Go.Proofs.YtplcipjlkogadaaW.PrintLast Go.Proofs.YtplcipjlkogadaaW.PrintMore
attribute [local go_sem] max2_int min2_int max_two min_two max_three min_three max_four min_four
def laws_szIntS.f (l0 : List Int) (a1 : Int) : Option (Int) := if (wrap64 (a1 - (l0.length : Int))) < 0 then (some (-1)) else (some (wrap64 (a1 - (l0.length : Int))))
end Go.Proofs.Ytplcipjlkogadaa.P

namespace Go.Proofs.Ytplcipjlkogadaa.P
open Go.RowKit Go.Proofs.YtplcipjlkogadaaW.PrintWords Go.Proofs.YtplcipjlkogadaaW.PrintLast Go.Proofs.YtplcipjlkogadaaW.PrintMore
attribute [local go_sem] max2_int min2_int max_two min_two max_three min_three max_four min_four
def laws_szIntSS.l0 : Nat → List (List Int) → Int → Int → Option (Int)
  | 0, _, _, _ => none
  | k + 1, x0, x1, x5 => if x5 < (x0.length : Int) then (if 0 ≤ x5 then ((laws_szIntS.f (rd_L1 x0 x5) x1).bind fun t102 => (if t102 < 0 then (some (-1)) else (laws_szIntSS.l0 k x0 t102 (wrap64 (x5 + 1))))) else (none)) else (some x1)
def laws_szIntSS.f (k : Nat) (l0 : List (List Int)) (a1 : Int) : Option (Int) := if (wrap64 (a1 - (l0.length : Int))) < 0 then (some (-1)) else (laws_szIntSS.l0 k l0 (wrap64 (a1 - (l0.length : Int))) 0)
end Go.Proofs.Ytplcipjlkogadaa.P

namespace Go.Proofs.Ytplcipjlkogadaa.Q
open Go.RowKit Go.Proofs.Ytplcipjlkogadaa.P Go.Proofs.Ytplcipjlkogadaa.H Go.Proofs.YtplcipjlkogadaaW.PrintWords
def Small (g : List (List Int)) : Prop := g.length ≤ 1048576 ∧ ∀ l ∈ g, l.length ≤ 1048576
theorem Small.at {g : List (List Int)} (h : Small g) {i : Nat} (hi : i < g.length) : (g.getD i []).length ≤ 1048576 := by
  rw [List.getD_eq_getElem?_getD, List.getElem?_eq_getElem hi]
  exact h.2 _ (List.getElem_mem hi)
end Go.Proofs.Ytplcipjlkogadaa.Q

namespace Go.Proofs.Ytplcipjlkogadaa.Q
open Go.RowKit Go.Proofs.Ytplcipjlkogadaa.P Go.Proofs.Ytplcipjlkogadaa.H Go.Proofs.YtplcipjlkogadaaW.PrintWords
theorem drop_eq {l : List Int} {i : Nat} (hi : i < l.length) : l.drop i = l.getD i 0 :: l.drop (i + 1) := by
  rw [List.drop_eq_getElem_cons hi, List.getD_eq_getElem?_getD, List.getElem?_eq_getElem hi]
  rfl
theorem has_ev (l : List Int) (x : Int) (hl : l.length ≤ 1048576) : Ev (fun k => spec_l1Has.f k l x) (decide (x ∈ l)) := by
  unfold spec_l1Has.f
  refine ev_eq (down0 (n := l.length) (p := fun i => Ev (fun k => spec_l1Has.l0 k x l (l.length : Int) (i : Int)) (decide (x ∈ l.drop i))) ?h0 ?hs) (by rw [List.drop_zero])
  case h0 => exact Ev.step (f := fun _ => some false) (fun k => by simp only [spec_l1Has.l0]; rw [if_neg (by omega)]) (by rw [List.drop_length]; simpa using Ev.now _)
  case hs =>
    intro i hi ih
    have hr : rd l (i : Int) = l.getD i 0 := rfl
    rw [drop_eq hi]
    by_cases c : l.getD i 0 = x
    · refine Ev.step (f := fun _ => some true) (fun k => ?_) (ev_is fun k => by rw [c]; simp)
      simp only [spec_l1Has.l0]
      rw [if_pos (by omega), if_pos (by omega), if_pos (by omega), hr, if_pos c]
    · refine Ev.step (fun k => ?_) (ev_eq ih ?_)
      · simp only [spec_l1Has.l0]
        rw [if_pos (by omega), if_pos (by omega), if_pos (by omega), hr, if_neg c, w64 (by omega) (by omega)]
        rfl
      · rw [decide_eq_decide, List.mem_cons]
        constructor
        · exact .inr
        · rintro (h | h)
          · exact absurd h.symm c
          · exact h
end Go.Proofs.Ytplcipjlkogadaa.Q

