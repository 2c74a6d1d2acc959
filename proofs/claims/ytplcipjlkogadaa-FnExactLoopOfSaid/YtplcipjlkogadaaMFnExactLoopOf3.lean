import Derived.Test.YtplcipjlkogadaaMFnExactLoopOf1
import Derived.Test.YtplcipjlkogadaaMFnExactLoopOf2
set_option linter.unusedVariables false
set_option linter.unusedSimpArgs false
namespace Go.Proofs.Ytplcipjlkogadaa.Q
open Go.RowKit Go.Proofs.Ytplcipjlkogadaa.P Go.Proofs.Ytplcipjlkogadaa.H Go.Proofs.YtplcipjlkogadaaW.PrintWords
theorem srt_sub_len : ∀ {b a : List Int}, Srt a → Srt b → (∀ y ∈ a, y ∈ b) → a.length ≤ b.length ∧ (a.length = b.length → a = b)
  | [], a, _, _, h => by
    have : a = [] := List.eq_nil_iff_forall_not_mem.2 (fun y hy => by have := h y hy; simp at this)
    subst this
    simp
  | y :: b, [], _, _, _ => by simp
  | y :: b, x :: a, ha, hb, h => by
    have ha' := List.pairwise_cons.1 ha
    have hb' := List.pairwise_cons.1 hb
    by_cases e : x = y
    · subst e
      have ih := srt_sub_len (b := b) (a := a) ha'.2 hb'.2 (fun z hz => by
        rcases List.mem_cons.1 (h z (by simp [hz])) with e | e
        · have := ha'.1 z hz; omega
        · exact e)
      refine ⟨by simp only [List.length_cons]; omega, fun hl => ?_⟩
      rw [ih.2 (by simp only [List.length_cons] at hl; omega)]
    · have hx : x ∈ b := by
        rcases List.mem_cons.1 (h x (by simp)) with e2 | e2
        · exact absurd e2 e
        · exact e2
      have hxy := hb'.1 x hx
      have ih := srt_sub_len (b := b) (a := x :: a) ha hb'.2 (fun z hz => by
        rcases List.mem_cons.1 (h z hz) with e2 | e2
        · rcases List.mem_cons.1 hz with e3 | e3
          · omega
          · have := ha'.1 z e3; omega
        · exact e2)
      have := ih.1
      exact ⟨by simp only [List.length_cons] at *; omega, fun hl => by simp only [List.length_cons] at *; omega⟩
theorem listTo_mem (bs : List Bool) (n : Nat) (y : Int) : y ∈ listTo bs n ↔ ∃ j, j < n ∧ y = (j : Int) ∧ bs.getD j false = true := by
  unfold listTo
  simp only [List.mem_map, List.mem_filter, List.mem_range]
  constructor
  · rintro ⟨j, ⟨h1, h2⟩, rfl⟩
    exact ⟨j, h1, rfl, h2⟩
  · rintro ⟨j, h1, rfl, h2⟩
    exact ⟨j, ⟨h1, h2⟩, rfl⟩
theorem listTo_srt (bs : List Bool) : ∀ n, Srt (listTo bs n)
  | 0 => by simp [listTo, Srt]
  | n + 1 => by
    rw [listTo_step]
    split
    · unfold Srt
      rw [List.pairwise_append]
      refine ⟨listTo_srt bs n, by simp, fun x hx y hy => ?_⟩
      obtain ⟨j, h1, rfl, _⟩ := (listTo_mem bs n x).1 hx
      rw [List.mem_singleton.1 hy]
      omega
    · exact listTo_srt bs n
theorem srt_len12 {l : List Int} (h : Srt l) (hb : ∀ y ∈ l, 0 ≤ y ∧ y < 12) : l.length ≤ 12 := by
  have h1 := srt_sub_len (b := (List.range 12).map (fun j : Nat => (j : Int))) h (by unfold Srt; decide) (fun y hy => by
    have := hb y hy
    exact List.mem_map.2 ⟨y.toNat, List.mem_range.2 (by omega), by omega⟩)
  have := h1.1
  simpa using this
theorem goodG_small {g : List (List Int)} (hG : goodG g = true) : Small g := by
  have hr := goodG_rows hG
  refine ⟨by omega, fun l hl => ?_⟩
  have h := hG
  unfold goodG at h
  simp only [Bool.and_eq_true, decide_eq_true_eq, List.all_eq_true] at h
  have hs : Srt l := by
    have hu := h.2 l hl
    refine List.pairwise_iff_getElem.2 ?_
    have hstep : ∀ j, j + 1 < l.length → l.getD j 0 < l.getD (j + 1) 0 := by
      intro j hj
      have h1 := of_decide_eq_true hu (j + 1) hj (Nat.zero_le _)
      unfold upAt at h1
      simp only [Bool.and_eq_true, Bool.or_eq_true, decide_eq_true_eq] at h1
      rcases h1.2 with h2 | h2
      · omega
      · exact h2
    intro i j hi hj hij
    have : ∀ d, i + d + 1 < l.length → l.getD i 0 < l.getD (i + d + 1) 0 := by
      intro d
      induction d with
      | zero => intro h; exact hstep i h
      | succ d ih => intro h; exact Int.lt_trans (ih (by omega)) (hstep (i + d + 1) h)
    have := this (j - i - 1) (by omega)
    rw [show i + (j - i - 1) + 1 = j by omega, List.getD_eq_getElem?_getD, List.getElem?_eq_getElem hi, List.getD_eq_getElem?_getD, List.getElem?_eq_getElem hj] at this
    exact this
  have := srt_len12 hs (fun y hy => by have := hr.2 l hl y hy; omega)
  omega
theorem mem12 {g : List (List Int)} (hG : goodG g = true) {wo y : Int} (h : Rch g wo 0 y) : 0 ≤ y ∧ y < 12 := by
  have hr := goodG_rows hG
  have := h.rng hG (by decide) (by omega)
  omega
structure Snd (g : List (List Int)) (wo : Int) (acc : List Int) : Prop where
  srt : Srt acc
  snd : ∀ y ∈ acc, Rch g wo 0 y
theorem Snd.len {g : List (List Int)} {wo : Int} {acc : List Int} (hG : goodG g = true) (h : Snd g wo acc) : acc.length ≤ 12 := srt_len12 h.srt (fun y hy => mem12 hG (h.snd y hy))
theorem Snd.put {g : List (List Int)} {wo y : Int} {acc : List Int} (h : Snd g wo acc) (hy : Rch g wo 0 y) : Snd g wo (putL acc y) := ⟨putL_srt y acc h.srt, fun z hz => by
  rcases (putL_mem y acc z).1 hz with e | e
  · exact h.snd z e
  · rw [e]; exact hy⟩
theorem reach_row {g : List (List Int)} (hG : goodG g = true) {wo : Int} {i : Nat} (hi : i < g.length) (n0 : Int) (row : List Int) (hrow : row = g.getD i []) (hx : Rch g wo 0 (i : Int)) :
    ∀ (d m : Nat) (acc : List Int), m + d = row.length → Snd g wo acc → ∃ acc', Snd g wo acc' ∧ (∀ y ∈ acc, y ∈ acc') ∧ (∀ y ∈ row.drop m, y ≠ wo → y ∈ acc') ∧
      ∀ r, Ev (fun k => spec_l10Reach.l1 k wo acc' n0 g (g.length : Int) ((i : Int) + 1) g) r → Ev (fun k => spec_l10Reach.l2 k wo acc n0 g (g.length : Int) (i : Int) row (row.length : Int) (m : Int) g) r := by
  have hr := goodG_rows hG
  intro d
  induction d with
  | zero =>
    intro m acc hm h
    refine ⟨acc, h, fun _ h => h, fun y hy => by rw [List.drop_of_length_le (by omega)] at hy; simp at hy, fun r hr => ?_⟩
    refine Ev.step (fun k => ?_) hr
    simp only [spec_l10Reach.l2]
    rw [if_neg (by omega), w64 (by omega) (by omega)]
  | succ d ih =>
    intro m acc hm h
    have hml : m < row.length := by omega
    have hsm := (goodG_small hG).at hi
    rw [← hrow] at hsm
    have hdrop := drop_eq hml
    have hval : rd row (m : Int) = row.getD m 0 := rfl
    have hmem : row.getD m 0 ∈ row := by
      rw [List.getD_eq_getElem?_getD, List.getElem?_eq_getElem hml]
      exact List.getElem_mem hml
    by_cases e : row.getD m 0 = wo
    · obtain ⟨acc', h1, h2, h3, h4⟩ := ih (m + 1) acc (by omega) h
      refine ⟨acc', h1, h2, fun y hy hw => ?_, fun r hr => ?_⟩
      · rw [hdrop] at hy
        rcases List.mem_cons.1 hy with q | q
        · exact absurd (q.trans e) hw
        · exact h3 y q hw
      · refine Ev.step (fun k => ?_) (h4 r hr)
        simp only [spec_l10Reach.l2]
        rw [if_pos (by omega), if_pos (by omega), if_pos (by omega), hval, if_pos e, w64 (by omega) (by omega)]
        rfl
    · have hry : Rch g wo 0 (row.getD m 0) := .on hx (by rw [Int.toNat_natCast, ← hrow]; exact hmem) e
      obtain ⟨acc', h1, h2, h3, h4⟩ := ih (m + 1) (putL acc (row.getD m 0)) (by omega) (h.put hry)
      refine ⟨acc', h1, fun y hy => h2 y ((putL_mem _ _ _).2 (.inl hy)), fun y hy hw => ?_, fun r hr => ?_⟩
      · rw [hdrop] at hy
        rcases List.mem_cons.1 hy with q | q
        · exact h2 y ((putL_mem _ _ _).2 (.inr q))
        · exact h3 y q hw
      · have hh := h4 r hr
        rw [show ((m + 1 : Nat) : Int) = (m : Int) + 1 from rfl] at hh
        refine Ev.step (fun k => ?_) ((put_ev acc (row.getD m 0) (by have := h.len hG; omega)).bind (f := fun k v => spec_l10Reach.l2 k wo v n0 g (g.length : Int) (i : Int) row (row.length : Int) ((m : Int) + 1) g) hh)
        simp only [spec_l10Reach.l2]
        rw [if_pos (by omega), if_pos (by omega), if_pos (by omega), hval, if_neg e, w64 (by omega) (by omega)]
theorem reach_pass {g : List (List Int)} (hG : goodG g = true) {wo : Int} (n0 : Int) :
    ∀ (d i : Nat) (acc : List Int), i + d = g.length → Snd g wo acc → ∃ acc', Snd g wo acc' ∧ (∀ y ∈ acc, y ∈ acc') ∧ (∀ j : Nat, i ≤ j → j < g.length → (j : Int) ∈ acc → ∀ y ∈ g.getD j [], y ≠ wo → y ∈ acc') ∧
      ∀ r, Ev (fun k => if (acc'.length : Int) = n0 then some acc' else spec_l10Reach.l0 k wo acc' g) r → Ev (fun k => spec_l10Reach.l1 k wo acc n0 g (g.length : Int) (i : Int) g) r := by
  have hr := goodG_rows hG
  intro d
  induction d with
  | zero =>
    intro i acc hi h
    refine ⟨acc, h, fun _ h => h, fun j h1 h2 => by omega, fun r hr => ?_⟩
    refine Ev.step (fun k => ?_) hr
    simp only [spec_l10Reach.l1]
    rw [if_neg (by omega)]
  | succ d ih =>
    intro i acc hi h
    have hil : i < g.length := by omega
    have hlen := h.len hG
    have hhas := has_ev acc (i : Int) (by omega)
    have er : rd_L1 g (i : Int) = g.getD i [] := rfl
    by_cases e : (i : Int) ∈ acc
    · obtain ⟨a1, q1, q2, q3, q4⟩ := reach_row hG hil n0 (g.getD i []) rfl (h.snd _ e) (g.getD i []).length 0 acc (by omega) h
      obtain ⟨acc', h1, h2, h3, h4⟩ := ih (i + 1) a1 (by omega) q1
      refine ⟨acc', h1, fun y hy => h2 y (q2 y hy), fun j j1 j2 hj y hy hw => ?_, fun r hr => ?_⟩
      · by_cases ej : j = i
        · subst ej
          exact h2 y (q3 y (by rw [List.drop_zero]; exact hy) hw)
        · exact h3 j (by omega) j2 (q2 _ hj) y hy hw
      · refine Ev.step (fun k => ?_) (hhas.bind (f := fun k v => if v = true then spec_l10Reach.l2 k wo acc n0 g (g.length : Int) (i : Int) (g.getD i []) ((g.getD i []).length : Int) 0 g else spec_l10Reach.l1 k wo acc n0 g (g.length : Int) ((i : Int) + 1) g) ?_)
        · simp only [spec_l10Reach.l1]
          rw [if_pos (by omega), if_pos (by omega), if_pos (by omega), er, w64 (by omega) (by omega)]
        · rw [decide_eq_true e]
          refine Ev.congr (fun k => by rw [if_pos rfl]; rfl) (q4 r ?_)
          exact h4 r hr
    · obtain ⟨acc', h1, h2, h3, h4⟩ := ih (i + 1) acc (by omega) h
      refine ⟨acc', h1, h2, fun j j1 j2 hj y hy hw => ?_, fun r hr => ?_⟩
      · by_cases ej : j = i
        · subst ej
          exact absurd hj e
        · exact h3 j (by omega) j2 hj y hy hw
      · refine Ev.step (fun k => ?_) (hhas.bind (f := fun k v => if v = true then spec_l10Reach.l2 k wo acc n0 g (g.length : Int) (i : Int) (g.getD i []) ((g.getD i []).length : Int) 0 g else spec_l10Reach.l1 k wo acc n0 g (g.length : Int) ((i : Int) + 1) g) ?_)
        · simp only [spec_l10Reach.l1]
          rw [if_pos (by omega), if_pos (by omega), if_pos (by omega), er, w64 (by omega) (by omega)]
        · rw [decide_eq_false e]
          refine Ev.congr (fun k => by rw [if_neg (by simp)]; rfl) (h4 r hr)
theorem listTo_reach {g : List (List Int)} (hG : goodG g = true) {wo : Int} (y : Int) : y ∈ listTo (reachF g 0 wo) 12 ↔ Rch g wo 0 y := by
  have hr := goodG_rows hG
  rw [listTo_mem]
  constructor
  · rintro ⟨j, hj, rfl, hb⟩
    exact (reach_iff hG (by decide) (by omega) hj).1 hb
  · intro h
    have := mem12 hG h
    refine ⟨y.toNat, by omega, by omega, ?_⟩
    rw [reach_iff hG (by decide) (by omega) (by omega), Int.toNat_of_nonneg this.1]
    exact h
theorem reach_all {g : List (List Int)} (hG : goodG g = true) {wo : Int} (hw : wo ≠ 0) : ∀ (m : Nat) (acc : List Int), Snd g wo acc → (0 : Int) ∈ acc → 13 ≤ acc.length + m → Ev (fun k => spec_l10Reach.l0 k wo acc g) (listTo (reachF g 0 wo) 12) := by
  intro m
  induction m with
  | zero => intro acc h _ hm; have := h.len hG; omega
  | succ m ih =>
    intro acc h h0 hm
    obtain ⟨acc', h1, h2, h3, h4⟩ := reach_pass hG (acc.length : Int) g.length 0 acc (by omega) h
    refine Ev.step (fun k => by simp only [spec_l10Reach.l0]; rfl) (h4 _ ?_)
    have hsub := srt_sub_len h.srt h1.srt h2
    by_cases e : acc'.length = acc.length
    · have eq := hsub.2 e.symm
      subst eq
      refine Ev.congr (fun k => by rw [if_pos rfl]) ?_
      have : acc = listTo (reachF g 0 wo) 12 := by
        refine srt_ext h.srt (listTo_srt _ _) (fun y => ?_)
        rw [listTo_reach hG]
        constructor
        · exact h.snd y
        · intro hy
          induction hy with
          | here _ => exact h0
          | on hx hyx hyw ih2 =>
            have hrx := hx.rng hG (by decide) (by have := goodG_rows hG; omega)
            exact h3 _ (Nat.zero_le _) (by omega) (by rw [Int.toNat_of_nonneg hrx.1]; exact ih2) _ hyx hyw
      rw [this]
      exact Ev.now _
    · refine Ev.congr (fun k => by rw [if_neg (by omega)]) (ih acc' h1 (h2 0 h0) (by omega))
theorem specReach_ev {g : List (List Int)} (hG : goodG g = true) (wo : Int) : Ev (fun k => spec_l10Reach.f k g wo) (listTo (reachF g 0 wo) 12) := by
  unfold spec_l10Reach.f
  by_cases e : wo = 0
  · refine Ev.congr (fun k => by rw [if_pos e]) ?_
    have : listTo (reachF g 0 wo) 12 = [] := by
      unfold reachF
      rw [if_pos e.symm]
      rfl
    rw [this]
    exact Ev.now _
  · refine Ev.congr (fun k => by rw [if_neg e]) (reach_all hG e 12 [0] ⟨by simp [Srt], fun y hy => by rw [List.mem_singleton.1 hy]; exact .here (fun h => e h.symm)⟩ (by simp) (by simp))
theorem listTo_small (bs : List Bool) : (listTo bs 12).length ≤ 1048576 := by have := listTo_len bs 12; omega
end Go.Proofs.Ytplcipjlkogadaa.Q

namespace Go.Proofs.Ytplcipjlkogadaa.H
open Go.RowKit Go.Proofs.YtplcipjlkogadaaW.PrintWords Go.Proofs.YtplcipjlkogadaaW.PrintMore
theorem S_holeG {ti te base : Nat} {W : World} {ok : Nat → Prop} {g n cap : Nat} {xs : List (List Int)} (h : Kd.S (Kd.slice ti (Kd.int .i64)) te W base ok (.slice (some ⟨g, 0, none⟩) n cap) xs) {i : Nat} (hi : i < n) :
    ∃ oki u, W.cell? ⟨g, i, none⟩ = some u ∧ (Kd.int .i64).R ti W base oki u (xs.getD i []) ∧ (∀ k, oki k → ok k) ∧ Kd.H (Kd.slice ti (Kd.int .i64)) te W base ok (.slice (some ⟨g, 0, none⟩) n cap) xs (i : Int) oki [u] := by
  obtain ⟨oki, c1, hcl, hM, hcc, hfr, hoki, hH⟩ := Kd.S_elem h [] (i : Int) (by omega) (by omega)
  obtain ⟨u, rfl, hR⟩ := hM
  rw [Int.toNat_natCast] at hR hcc
  have hu := hcc 0 u rfl
  rw [show i * (Kd.slice ti (Kd.int .i64)).sz + 0 = i from Nat.mul_one i] at hu
  exact ⟨oki, u, hu, hR, fun k hk => (hoki k hk).1, hH⟩
theorem hole_keptG {ti te base g n cap : Nat} {W W' : World} {ok S : Nat → Prop} {xs : List (List Int)} {i : Int} {oki : Nat → Prop} {u : Value} (hH : Kd.H (Kd.slice ti (Kd.int .i64)) te W base ok (.slice (some ⟨g, 0, none⟩) n cap) xs i oki [u]) (hk : Kept W W' S) (hs : ∀ k, S k → oki k) :
    Kd.H (Kd.slice ti (Kd.int .i64)) te W' base ok (.slice (some ⟨g, 0, none⟩) n cap) xs i (fun k => oki k ∨ ok k ∧ W.heap.size ≤ k) [u] := Kd.H_kept (Kd.H_widen hH) hk (fun k _ hn hs' => hn (.inl (hs k hs')))
theorem R_keptB {e base : Nat} {W W' : World} {ok : Nat → Prop} {u v : Value} {ys : List Int} (hv : (Kd.int .i64).R e W base ok v ys) (hk : Kept W W' (fun k => some k = u.ownBlock)) (hne : ∀ k, v.ownBlock = some k → some k ≠ u.ownBlock) : (Kd.int .i64).R e W' base ok v ys :=
  Kd.R_mono (Kd.R_step (Kd.R_tight rfl hv) (fun k hkv hlt => hk.2 k hlt (hne k hkv.symm))) (fun k hkv => hv.1 k hkv.symm)
theorem Own.keptU {e base : Nat} {w W W' : World} {L : List (Nat × Array Value × TypeId)} {ok : Nat → Prop} {u : Value} {ys : List Int} (h : Own w W L) (hv : (Kd.int .i64).R e W base ok u ys) (hk : Kept W W' (fun k => some k = u.ownBlock)) (hb : Below w.heap.size w W') (hne : ∀ x ∈ L, x.2.2 ≠ e) : Own w W' L :=
  ⟨hb, h.base, fun x hx => (hk.2 _ (h.lt x hx) (Kd.R_ne hv (h.blk x hx) (fun e' => hne x hx e'.symm))).trans (h.blk x hx), h.ne⟩
section
variable {P : Program} {ops : Array Oper} {rest : List Oper} {o : Oper} {a : Act} {Q : Exit → Act → World → Prop}
variable {w W : World} {L : List (Nat × Array Value × TypeId)}
theorem own_eputG {ti te g n cap : Nat} (hO : Own w W L) {ok : Nat → Prop} {xs : List (List Int)} {i : Nat} {oki ok2 : Nat → Prop} {u v : Value} {l : List Int} {base2 : Nat}
    (hH : Kd.H (Kd.slice ti (Kd.int .i64)) te W w.heap.size ok (.slice (some ⟨g, 0, none⟩) n cap) xs (i : Int) oki [u]) (hv : (Kd.int .i64).R ti W base2 ok2 v l) (hb2 : w.heap.size ≤ base2) (hin : ∀ k, v.ownBlock = some k → oki k)
    (hgd : o.guard = none) (hN : o.dst = none) {t : TypeId} {p x : Operand} (ho : o.op = .store t p x) (haddr : a.eval p = .pointer (some ⟨g, i, none⟩)) (hx : a.eval x = v) (ht : (P.info? t).map (·.size) = some 1) (hi : i < n) (hg0 : w.heap.size ≤ g) (hgt : ∃ cells, W.heap[g]? = some (.cells cells te (0, 0))) (hne : ∀ y ∈ L, y.2.2 ≠ te)
    (h : ∀ w1, Own w w1 L → Kd.S (Kd.slice ti (Kd.int .i64)) te w1 w.heap.size ok (.slice (some ⟨g, 0, none⟩) n cap) (xs.set i l) → W.grownBy w1 (some g) → wpList P ops Q rest a w1) : wpList P ops Q (o :: rest) a W := by
  obtain ⟨A_, c_, e_⟩ := Kd.R_slice hv
  have hvo : v.cells.toList = [v] := by rw [e_]; rfl
  have hone : ∀ q ∈ [v], q.oneCell' = true := by rw [e_]; simp [Value.oneCell']
  refine Kd.H_store (Kd.slice ti (Kd.int .i64)) (w0 := w) w.heap.size hN hgd t p x ho te (i : Int) 0 xs l v [v] [u] ok oki (fun k => some k = v.ownBlock) haddr (by rw [Int.toNat_natCast]; show i = i * 1 + 0; omega) hx hvo (by rw [ht]; rfl) hone hH (by omega) (by omega) (by show 0 + 1 ≤ 1; omega) (Kd.M_row (Kd.R_tight rfl (Kd.R_lower hv hb2))) (fun k hk => hin k hk.symm) hO.below ?_
  intro w1 hs hb hg
  rw [Int.toNat_natCast] at hs
  refine h w1 (hO.grown hg (fun k hk => ?_)) hs hg
  injection hk with hk
  subst hk
  refine ⟨hg0, fun y hy e => ?_⟩
  obtain ⟨cells, hc⟩ := hgt
  have := hO.blk y hy
  rw [e, hc] at this
  injection this with this
  injection this with _ this
  exact hne y hy this.symm
end
end Go.Proofs.Ytplcipjlkogadaa.H

namespace Go.Proofs.Ytplcipjlkogadaa.Q
open Go.RowKit Go.Proofs.Ytplcipjlkogadaa.P Go.Proofs.Ytplcipjlkogadaa.H Go.Proofs.YtplcipjlkogadaaW.PrintWords
structure Rel (n : Nat) (mem : Nat → Int → Prop) (xs : List (List Int)) : Prop where
  len : xs.length = n
  srt : ∀ b, b < n → Srt (xs.getD b [])
  mem : ∀ b, b < n → ∀ y, y ∈ xs.getD b [] ↔ mem b y
theorem Rel.congr {n : Nat} {m m' : Nat → Int → Prop} {xs : List (List Int)} (h : Rel n m xs) (e : ∀ b, b < n → ∀ y, m b y ↔ m' b y) : Rel n m' xs := ⟨h.len, h.srt, fun b hb y => (h.mem b hb y).trans (e b hb y)⟩
theorem Rel.nil (n : Nat) {m : Nat → Int → Prop} (e : ∀ b, b < n → ∀ y, ¬ m b y) : Rel n m (List.replicate n []) := by
  have he : ∀ b, (List.replicate n ([] : List Int)).getD b [] = [] := by
    intro b
    rw [List.getD_eq_getElem?_getD, List.getElem?_replicate]
    split <;> rfl
  exact ⟨by simp, fun b _ => by rw [he]; exact List.Pairwise.nil, fun b hb y => by rw [he]; simp [e b hb y]⟩
theorem getD_setL {xs : List (List Int)} {k b : Nat} {v : List Int} (hk : k < xs.length) : (xs.set k v).getD b [] = if b = k then v else xs.getD b [] := by
  by_cases e : b = k
  · subst e
    rw [if_pos rfl, List.getD_eq_getElem?_getD, List.getElem?_set_self hk]
    rfl
  · rw [if_neg e, List.getD_eq_getElem?_getD, List.getElem?_set_ne (fun h => e h.symm), List.getD_eq_getElem?_getD]
theorem Rel.put {n : Nat} {m : Nat → Int → Prop} {xs : List (List Int)} (h : Rel n m xs) {k : Nat} (hk : k < n) (x : Int) : Rel n (fun b y => m b y ∨ (b = k ∧ y = x)) (xs.set k (putL (xs.getD k []) x)) := by
  have hkl : k < xs.length := by rw [h.len]; exact hk
  refine ⟨by rw [List.length_set]; exact h.len, fun b hb => ?_, fun b hb y => ?_⟩
  · rw [getD_setL hkl]
    split
    · exact putL_srt _ _ (h.srt k hk)
    · exact h.srt b hb
  · rw [getD_setL hkl]
    by_cases e : b = k
    · subst e
      rw [if_pos rfl, putL_mem, h.mem b hb]
      simp
    · rw [if_neg e, h.mem b hb]
      simp [e]
theorem Rel.uniq {n : Nat} {m : Nat → Int → Prop} {xs ys : List (List Int)} (h : Rel n m xs) (h' : Rel n m ys) : xs = ys := by
  refine List.ext_getElem (by rw [h.len, h'.len]) (fun b h1 h2 => ?_)
  have hb : b < n := by rw [← h.len]; exact h1
  have e1 : xs.getD b [] = xs[b] := by rw [List.getD_eq_getElem?_getD, List.getElem?_eq_getElem h1]; rfl
  have e2 : ys.getD b [] = ys[b] := by rw [List.getD_eq_getElem?_getD, List.getElem?_eq_getElem h2]; rfl
  rw [← e1, ← e2]
  exact srt_ext (h.srt b hb) (h'.srt b hb) (fun y => (h.mem b hb y).trans (h'.mem b hb y).symm)
theorem Rel.len12 {n : Nat} {m : Nat → Int → Prop} {xs : List (List Int)} (h : Rel n m xs) (hm : ∀ b, b < n → ∀ y, m b y → 0 ≤ y ∧ y < 12) {b : Nat} (hb : b < n) : (xs.getD b []).length ≤ 12 := srt_len12 (h.srt b hb) (fun y hy => hm b hb y ((h.mem b hb y).1 hy))
theorem rel_mat (f : Nat → Nat → Bool) (n : Nat) : Rel n (fun b y => ∃ j : Nat, j < 12 ∧ y = (j : Int) ∧ f b j = true) ((matF f n).map (fun r => listTo r 12)) := by
  have he : ∀ b, b < n → ((matF f n).map (fun r => listTo r 12)).getD b [] = listTo (rowF (f b)) 12 := by
    intro b hb
    unfold matF
    rw [List.getD_eq_getElem?_getD, List.getElem?_map, List.getElem?_map, List.getElem?_range hb]
    rfl
  refine ⟨by rw [List.length_map, matF_len], fun b hb => by rw [he b hb]; exact listTo_srt _ _, fun b hb y => ?_⟩
  rw [he b hb, listTo_mem]
  constructor
  · rintro ⟨j, h1, h2, h3⟩
    exact ⟨j, h1, h2, by rwa [rowF_get h1] at h3⟩
  · rintro ⟨j, h1, h2, h3⟩
    exact ⟨j, h1, h2, by rwa [rowF_get h1]⟩
def domL (g : List (List Int)) : List (List Int) := (domF g).map (fun r => listTo r 12)
def domM (g : List (List Int)) (b : Nat) (y : Int) : Prop := (y ∈ listTo (reachF g 0 (-1)) 12) ∧ ((b : Int) ∈ listTo (reachF g 0 (-1)) 12) ∧ ¬ (b : Int) ∈ listTo (reachF g 0 y) 12
theorem reach_bit {g : List (List Int)} (hG : goodG g = true) (wo : Int) {j : Nat} (hj : j < 12) : (j : Int) ∈ listTo (reachF g 0 wo) 12 ↔ (reachF g 0 wo).getD j false = true := by
  rw [listTo_mem]
  constructor
  · rintro ⟨i, _, e, h⟩
    rwa [show j = i by omega]
  · intro h
    exact ⟨j, hj, rfl, h⟩
theorem domL_rel {g : List (List Int)} (hG : goodG g = true) : Rel g.length (domM g) (domL g) := by
  have hr := goodG_rows hG
  refine (rel_mat _ _).congr (fun b hb y => ?_)
  constructor
  · rintro ⟨j, h1, rfl, h2⟩
    unfold domV at h2
    simp only [Bool.and_eq_true, decide_eq_true_eq, Bool.not_eq_true'] at h2
    exact ⟨(reach_bit hG _ h1).2 h2.2.1, (reach_bit hG _ (by omega)).2 h2.2.2.1, fun h => by rw [reach_bit hG _ (by omega), h2.2.2.2] at h; cases h⟩
  · rintro ⟨h1, h2, h3⟩
    have hy := (listTo_reach hG y).1 h1
    have hyr := hy.rng hG (by decide) (by omega)
    refine ⟨y.toNat, by omega, by omega, ?_⟩
    have e : ((y.toNat : Nat) : Int) = y := by omega
    unfold domV
    simp only [Bool.and_eq_true, decide_eq_true_eq, Bool.not_eq_true']
    refine ⟨by omega, (reach_bit hG _ (by omega)).1 (by rw [e]; exact h1), (reach_bit hG _ (by omega)).1 h2, ?_⟩
    rw [e]
    cases hb2 : (reachF g 0 y).getD b false with
    | false => rfl
    | true => exact absurd ((reach_bit hG _ (by omega)).2 hb2) h3
def prdL (g : List (List Int)) : List (List Int) := (prdF g).map (fun r => listTo r 12)
def prdM (g : List (List Int)) (x : Nat) (y : Int) : Prop := (y ∈ listTo (reachF g 0 (-1)) 12) ∧ (x : Int) ∈ g.getD y.toNat []
theorem prdL_rel {g : List (List Int)} (hG : goodG g = true) : Rel g.length (prdM g) (prdL g) := by
  have hr := goodG_rows hG
  refine (rel_mat _ _).congr (fun x hx y => ?_)
  constructor
  · rintro ⟨j, h1, rfl, h2⟩
    unfold prdV at h2
    simp only [Bool.and_eq_true, decide_eq_true_eq] at h2
    exact ⟨(reach_bit hG _ h1).2 h2.2.2, by rw [Int.toNat_natCast]; exact h2.2.1⟩
  · rintro ⟨h1, h2⟩
    have hy := (listTo_reach hG y).1 h1
    have hyr := hy.rng hG (by decide) (by omega)
    refine ⟨y.toNat, by omega, by omega, ?_⟩
    unfold prdV
    simp only [Bool.and_eq_true, decide_eq_true_eq]
    exact ⟨by omega, h2, (reach_bit hG _ (by omega)).1 (by rw [show ((y.toNat : Nat) : Int) = y by omega]; exact h1)⟩
end Go.Proofs.Ytplcipjlkogadaa.Q

namespace Go.Proofs.Ytplcipjlkogadaa.H
open Go.RowKit Go.Proofs.YtplcipjlkogadaaW.PrintWords
def froE (g : List (List Int)) (x y p : Nat) : Bool := (decide (p < g.length) && prdV g y p) && ((decide (x < g.length) && domV g p x) && (decide (x = y) || !(decide (x < g.length) && domV g y x)))
def froV (g : List (List Int)) (x y : Nat) : Bool := decide (y < g.length) && (List.range 12).any (froE g x y)
def froF (g : List (List Int)) : List (List Bool) := matF (froV g) g.length
def froTo (g : List (List Int)) (x y p : Nat) : List (List Bool) := matF (fun a b => (decide (a < x) && froV g a b) || (decide (a = x) && ((decide (b < y) && froV g a b) || (decide (b = y) && (List.range p).any (froE g a b))))) g.length
theorem froTo_zero (g : List (List Int)) : froTo g 0 0 0 = List.replicate g.length none12 := by
  rw [← matF_zero]
  exact matF_congr (fun a _ b _ => by simp)
theorem froTo_last (g : List (List Int)) : froTo g g.length 0 0 = froF g := matF_congr (fun a ha b _ => by simp [ha])
theorem froTo_row (g : List (List Int)) (x : Nat) : froTo g x g.length 0 = froTo g (x + 1) 0 0 := by
  refine matF_congr (fun a ha b hb => ?_)
  by_cases h1 : a < x
  · simp [h1, show a < x + 1 by omega, show ¬ a = x by omega]
  · by_cases h2 : a = x
    · subst h2
      by_cases h3 : b < g.length
      · simp [h3]
      · simp [h3, froV]
    · simp [h1, h2, show ¬ a < x + 1 by omega]
theorem froTo_col (g : List (List Int)) (x y : Nat) (hy : y < g.length) : froTo g x y 12 = froTo g x (y + 1) 0 := by
  refine matF_congr (fun a ha b hb => ?_)
  by_cases h2 : a = x
  · subst h2
    by_cases h3 : b < y
    · simp [h3, show b < y + 1 by omega, show ¬ b = y by omega]
    · by_cases h4 : b = y
      · subst h4
        simp [froV, hy]
      · simp [h3, h4, show ¬ b < y + 1 by omega]
  · simp [h2]
theorem froTo_skip (g : List (List Int)) {x y p : Nat} (h : froE g x y p = false) : froTo g x y (p + 1) = froTo g x y p := by
  refine matF_congr (fun a ha b hb => ?_)
  rw [List.range_succ, List.any_append]
  by_cases e : a = x ∧ b = y
  · obtain ⟨rfl, rfl⟩ := e
    simp [h]
  · by_cases e1 : a = x
    · have e2 : ¬ b = y := fun h => e ⟨e1, h⟩
      simp [e2]
    · simp [e1]
theorem froTo_put (g : List (List Int)) {x y p : Nat} (hx : x < g.length) (h : froE g x y p = true) : (froTo g x y p).set x (((froTo g x y p).getD x []).set y true) = froTo g x y (p + 1) := by
  unfold froTo
  rw [matF_put true hx]
  refine matF_congr (fun a ha b hb => ?_)
  rw [List.range_succ, List.any_append]
  by_cases e : a = x ∧ b = y
  · obtain ⟨rfl, rfl⟩ := e
    rw [if_pos ⟨rfl, rfl⟩]
    simp [h]
  · rw [if_neg e]
    by_cases e1 : a = x
    · have e2 : ¬ b = y := fun h => e ⟨e1, h⟩
      simp [e2]
    · simp [e1]
theorem froTo_len (g : List (List Int)) (x y p : Nat) : (froTo g x y p).length = g.length := matF_len _ _
theorem froTo_mat (g : List (List Int)) (x y p : Nat) : Mat 12 (froTo g x y p) := matF_mat _ _
theorem froE_no (g : List (List Int)) {x y p : Nat} (hy : y < g.length) (hp : p < 12) (h : ((prdF g).getD y []).getD p false = false) : froE g x y p = false := by
  unfold prdF at h
  rw [matF_row hy, rowF_get hp] at h
  unfold froE
  rw [h, Bool.false_and]
theorem froE_yes (g : List (List Int)) {x y p : Nat} (hy : y < g.length) (hp : p < 12) (hx : x < 12) (h : ((prdF g).getD y []).getD p false = true) : p < g.length ∧ froE g x y p = (((domF g).getD p []).getD x false && (decide (x = y) || !((domF g).getD y []).getD x false)) := by
  unfold prdF at h
  rw [matF_row hy, rowF_get hp] at h
  have hpn : p < g.length := by
    simp only [Bool.and_eq_true, decide_eq_true_eq] at h
    exact h.1
  refine ⟨hpn, ?_⟩
  unfold froE domF
  rw [h, Bool.true_and, matF_row hy, matF_row hpn, rowF_get hx, rowF_get hx]
end Go.Proofs.Ytplcipjlkogadaa.H

namespace Go.Proofs.Ytplcipjlkogadaa.Q
open Go.RowKit Go.Proofs.Ytplcipjlkogadaa.P Go.Proofs.Ytplcipjlkogadaa.H Go.Proofs.YtplcipjlkogadaaW.PrintWords
theorem matL_mem (f : Nat → Nat → Bool) (n : Nat) {b : Nat} (hb : b < n) (y : Int) : y ∈ ((matF f n).map (fun r => listTo r 12)).getD b [] ↔ ∃ j : Nat, j < 12 ∧ y = (j : Int) ∧ f b j = true := (rel_mat f n).mem b hb y
def froP (g : List (List Int)) (x : Nat) (y p : Int) : Prop := (x : Int) ∈ (domL g).getD p.toNat [] ∧ ((x : Int) = y ∨ ¬ (x : Int) ∈ (domL g).getD y.toNat [])
def froM (g : List (List Int)) (x : Nat) (y : Int) : Prop := (0 ≤ y ∧ y < (g.length : Int)) ∧ ∃ p, p ∈ (prdL g).getD y.toNat [] ∧ froP g x y p
def froL (g : List (List Int)) : List (List Int) := (froF g).map (fun r => listTo r 12)
theorem prdL_mem (g : List (List Int)) {b : Nat} (hb : b < g.length) (y : Int) : y ∈ (prdL g).getD b [] ↔ ∃ j : Nat, j < 12 ∧ y = (j : Int) ∧ (decide (j < g.length) && prdV g b j) = true := matL_mem _ _ hb y
theorem domL_mem (g : List (List Int)) {b : Nat} (hb : b < g.length) (y : Int) : y ∈ (domL g).getD b [] ↔ ∃ j : Nat, j < 12 ∧ y = (j : Int) ∧ (decide (j < g.length) && domV g b j) = true := matL_mem _ _ hb y
theorem domL_bit (g : List (List Int)) {b j : Nat} (hb : b < g.length) (hj : j < 12) : (j : Int) ∈ (domL g).getD b [] ↔ (decide (j < g.length) && domV g b j) = true := by
  rw [domL_mem g hb]
  constructor
  · rintro ⟨i, _, e, h⟩
    rwa [show j = i by omega]
  · intro h
    exact ⟨j, hj, rfl, h⟩
theorem prdL_rng (g : List (List Int)) {b : Nat} (hb : b < g.length) {y : Int} (h : y ∈ (prdL g).getD b []) : 0 ≤ y ∧ y < (g.length : Int) := by
  obtain ⟨j, _, rfl, h2⟩ := (prdL_mem g hb y).1 h
  simp only [Bool.and_eq_true, decide_eq_true_eq] at h2
  omega
theorem froL_rel {g : List (List Int)} (hn : g.length ≤ 12) : Rel g.length (froM g) (froL g) := by
  refine (rel_mat _ _).congr (fun x hx y => ?_)
  constructor
  · rintro ⟨j, h1, rfl, h2⟩
    unfold froV froE at h2
    simp only [Bool.and_eq_true, decide_eq_true_eq, List.any_eq_true, List.mem_range, Bool.or_eq_true, Bool.not_eq_true'] at h2
    obtain ⟨h3, p, h4, ⟨h5, h6⟩, ⟨h7, h8⟩, h9⟩ := h2
    refine ⟨by omega, (p : Int), ?_, ?_, ?_⟩
    · rw [Int.toNat_natCast, prdL_mem g h3]
      exact ⟨p, h4, rfl, by simp [h5, h6]⟩
    · rw [Int.toNat_natCast, domL_bit g h5 (by omega)]
      simp [h7, h8]
    · rw [Int.toNat_natCast]
      rcases h9 with h9 | h9
      · exact .inl (by omega)
      · refine .inr (fun h => ?_)
        rw [domL_bit g h3 (by omega)] at h
        rw [h] at h9
        cases h9
  · rintro ⟨h0, p, h1, h2, h3⟩
    obtain ⟨k, rfl⟩ : ∃ k : Nat, y = (k : Int) := ⟨y.toNat, by omega⟩
    rw [Int.toNat_natCast] at h1 h3
    have hk : k < g.length := by omega
    obtain ⟨q, h4, rfl, h5⟩ := (prdL_mem g hk p).1 h1
    rw [Int.toNat_natCast] at h2
    simp only [Bool.and_eq_true, decide_eq_true_eq] at h5
    rw [domL_bit g h5.1 (by omega)] at h2
    refine ⟨k, by omega, rfl, ?_⟩
    unfold froV
    rw [Bool.and_eq_true]
    refine ⟨by simpa using hk, List.any_eq_true.2 ⟨q, List.mem_range.2 h4, ?_⟩⟩
    unfold froE
    rw [Bool.and_eq_true, Bool.and_eq_true, Bool.and_eq_true, Bool.or_eq_true]
    refine ⟨⟨by simpa using h5.1, h5.2⟩, h2, ?_⟩
    rcases h3 with h3 | h3
    · exact .inl (by simp; omega)
    · refine .inr ?_
      rw [domL_bit g hk (by omega)] at h3
      cases hv : (decide (x < g.length) && domV g k x) with
      | false => rfl
      | true => exact absurd hv h3
theorem domL_length (g : List (List Int)) : (domL g).length = g.length := by unfold domL domF; rw [List.length_map, matF_len]
theorem prdL_length (g : List (List Int)) : (prdL g).length = g.length := by unfold prdL prdF; rw [List.length_map, matF_len]
theorem domL_len12 {g : List (List Int)} (b : Nat) : ((domL g).getD b []).length ≤ 12 := by
  by_cases hb : b < g.length
  · refine srt_len12 ((rel_mat _ _).srt b hb) (fun y hy => ?_)
    obtain ⟨j, h, rfl, _⟩ := (domL_mem g hb y).1 hy
    omega
  · rw [List.getD_eq_getElem?_getD, List.getElem?_eq_none (by rw [domL_length]; omega)]
    decide
theorem prdL_len12 {g : List (List Int)} (b : Nat) : ((prdL g).getD b []).length ≤ 12 := by
  by_cases hb : b < g.length
  · refine srt_len12 ((rel_mat _ _).srt b hb) (fun y hy => ?_)
    obtain ⟨j, h, rfl, _⟩ := (prdL_mem g hb y).1 hy
    omega
  · rw [List.getD_eq_getElem?_getD, List.getElem?_eq_none (by rw [prdL_length]; omega)]
    decide
theorem froM_in {g : List (List Int)} (hG : goodG g = true) {b : Nat} {y : Int} (h : froM g b y) : (b : Int) ∈ listTo (reachF g 0 (-1)) 12 := by
  obtain ⟨h0, p, h1, h2, _⟩ := h
  have hp := prdL_rng g (show y.toNat < g.length by omega) h1
  exact (((domL_rel hG).mem p.toNat (by omega) _).1 h2).1
theorem froM_at {g : List (List Int)} {b y : Nat} (hy : y < g.length) : froM g b (y : Int) ↔ ∃ p, p ∈ (prdL g).getD y [] ∧ froP g b (y : Int) p := by
  unfold froM
  rw [Int.toNat_natCast]
  exact ⟨fun h => h.2, fun h => ⟨by omega, h⟩⟩
end Go.Proofs.Ytplcipjlkogadaa.Q

namespace Go.Proofs.Ytplcipjlkogadaa.H
open Go.RowKit Go.Proofs.YtplcipjlkogadaaW.PrintWords
def loopV (g : List (List Int)) (fr hd b : Nat) : Bool := decide (b = hd) || (reachF g (b : Int) (hd : Int)).getD fr false
def loopTo (g : List (List Int)) (fr hd k : Nat) : List Bool := rowF (fun b => decide (b < k) && loopV g fr hd b)
def loopF (g : List (List Int)) (fr hd : Nat) : List Bool := loopTo g fr hd g.length
theorem loopTo_len (g : List (List Int)) (fr hd k : Nat) : (loopTo g fr hd k).length = 12 := rowF_len _
theorem loopTo_zero (g : List (List Int)) (fr hd : Nat) : loopTo g fr hd 0 = none12 := by
  rw [← rowF_zero]
  exact rowF_congr (fun b _ => by simp)
theorem loopTo_put (g : List (List Int)) (fr hd : Nat) {k : Nat} {v : Bool} (hv : loopV g fr hd k = v) : (loopTo g fr hd k).set k v = loopTo g fr hd (k + 1) := by
  unfold loopTo
  rw [rowF_set]
  refine rowF_congr (fun b _ => ?_)
  by_cases e : b = k
  · subst e
    rw [if_pos rfl, hv]
    simp
  · rw [if_neg e]
    have h1 : decide (b < k + 1) = decide (b < k) := decide_eq_decide.2 (by omega)
    rw [h1]
inductive Bk (g : List (List Int)) (fr hd : Int) : Int → Prop
  | self : Bk g fr hd fr
  | back {k x : Int} : Bk g fr hd x → x ≠ hd → x ∈ g.getD k.toNat [] → 0 ≤ k → k < (g.length : Int) → Bk g fr hd k
theorem Rch.front {g : List (List Int)} {wo s x y : Int} (hs : s ≠ wo) (hx : x ∈ g.getD s.toNat []) (h : Rch g wo x y) : Rch g wo s y := by
  induction h with
  | here h => exact .on (.here hs) hx h
  | on _ h1 h2 ih => exact .on ih h1 h2
theorem Rch.bk {g : List (List Int)} (hG : goodG g = true) {fr hd b y : Int} (h0 : 0 ≤ b) (h1 : b < (g.length : Int)) (h : Rch g hd b y) : Bk g fr hd y → Bk g fr hd b := by
  induction h with
  | here h => exact id
  | on hx hy hw ih =>
    intro hb
    have := hx.rng hG h0 h1
    exact ih (.back hb hw hy this.1 this.2)
theorem Bk.rch {g : List (List Int)} {fr hd b : Int} (hf : fr ≠ hd) (h : Bk g fr hd b) : b ≠ hd → Rch g hd b fr := by
  induction h with
  | self => exact fun _ => .here hf
  | back hx hw hm _ _ ih => exact fun hk => (ih hw).front hk hm
theorem Bk.same {g : List (List Int)} {fr hd b : Int} (hf : fr = hd) (h : Bk g fr hd b) : b = fr := by
  induction h with
  | self => rfl
  | back hx hw hm _ _ ih => exact absurd (ih.trans hf) hw
theorem Bk.rng {g : List (List Int)} {fr hd b : Int} (h0 : 0 ≤ fr) (h1 : fr < (g.length : Int)) (h : Bk g fr hd b) : 0 ≤ b ∧ b < (g.length : Int) := by
  cases h with
  | self => exact ⟨h0, h1⟩
  | back _ _ _ h2 h3 => exact ⟨h2, h3⟩
theorem loopV_iff {g : List (List Int)} (hG : goodG g = true) {fr hd b : Nat} (hf : fr < g.length) (hb : b < g.length) : loopV g fr hd b = true ↔ (b = hd ∨ Bk g (fr : Int) (hd : Int) (b : Int)) := by
  have hr := goodG_rows hG
  unfold loopV
  rw [Bool.or_eq_true, decide_eq_true_eq, reach_iff hG (by omega) (by omega) (by omega)]
  constructor
  · rintro (h | h)
    · exact .inl h
    · exact .inr (h.bk hG (by omega) (by omega) .self)
  · rintro (h | h)
    · exact .inl h
    · by_cases e : b = hd
      · exact .inl e
      · by_cases e2 : fr = hd
        · have := h.same (by omega)
          exact .inl (by omega)
        · exact .inr (h.rch (by omega) (by omega))
end Go.Proofs.Ytplcipjlkogadaa.H

namespace Go.Proofs.Ytplcipjlkogadaa.P
open Go.RowKit Go.Proofs.YtplcipjlkogadaaW.PrintWords Go.Proofs.YtplcipjlkogadaaW.PrintLast Go.Proofs.YtplcipjlkogadaaW.PrintMore
attribute [local go_sem] max2_int min2_int max_two min_two max_three min_three max_four min_four
def laws_markIntS.l0 : Nat → List Int → Int → Int → Option (Int × List Int)
  | 0, _, _, _ => none
  | k + 1, x0, x1, x5 => if x5 < (x0.length : Int) then (if 0 ≤ x5 then (laws_markIntS.l0 k (x0.set (x5 : Int).toNat x1) (wrap64 (x1 + 1)) (wrap64 (x5 + 1))) else (none)) else (some (x1, x0))
def laws_markIntS.f (k : Nat) (l0 : List Int) (a1 : Int) : Option (Int × List Int) := laws_markIntS.l0 k l0 a1 0
theorem laws_markIntS.mono_l : ∀ k, (∀ y0 y1 y2, LeO (laws_markIntS.l0 k y0 y1 y2) (laws_markIntS.l0 (k + 1) y0 y1 y2))
  | 0 => fun _ _ _ r h => by simp [laws_markIntS.l0] at h
  | k + 1 => by
    have ih0 := laws_markIntS.mono_l k
    · intro y0 y1 y2
      unfold laws_markIntS.l0
      repeat' first
      | (with_reducible exact ih0 _ _ _)
      | (with_reducible exact LeO.refl _)
      | (with_reducible exact LeO.none _)
      | (with_reducible refine LeO.ite ?_ ?_)
      | (with_reducible refine LeO.bind ?_ (fun _ => ?_))
      | exact ih0 _ _ _
      | exact LeO.none _
      | refine LeO.ite ?_ ?_
      | refine LeO.bind ?_ (fun _ => ?_)
theorem laws_markIntS.mono : ∀ a0 a1 k, LeO (laws_markIntS.f k a0 a1) (laws_markIntS.f (k + 1) a0 a1) := by
  intro a0 a1 k
  have ih0 := laws_markIntS.mono_l k
  unfold laws_markIntS.f
  repeat' first
      | (with_reducible exact ih0 _ _ _)
      | (with_reducible exact LeO.refl _)
      | (with_reducible exact LeO.none _)
      | (with_reducible refine LeO.ite ?_ ?_)
      | (with_reducible refine LeO.bind ?_ (fun _ => ?_))
      | exact ih0 _ _ _
      | exact LeO.none _
      | refine LeO.ite ?_ ?_
      | refine LeO.bind ?_ (fun _ => ?_)
set_option maxHeartbeats 8000000 in
set_option maxRecDepth 100000 in
theorem laws_markIntS.calls (k : Nat) (P0_ : Nat → Prop) (u9000_ : Value) (l0 : List Int) (a1 : Int) (r1 : Int) (r2 : List Int) (w0 w : World) (hB : Below w0.heap.size w0 w) (ho0 : Kd.R (Kd.int .i64) 3 w w0.heap.size P0_ u9000_ l0) (h : laws_markIntS.f k l0 a1 = some (r1, r2)) :
    Calls Try.prog 24 #[u9000_, .int .i64 a1] w fun e w' => e = .returned (.int .i64 r1) ∧ Kd.R (Kd.int .i64) 3 w' w0.heap.size (fun k_ => (P0_ k_ ∨ w.heap.size ≤ k_)) u9000_ r2 ∧ Below w0.heap.size w0 w' ∧ Kept w w' (fun k_ => P0_ k_) := by
  have HO0 := Aside0.mk (show Kd.R (Kd.int .i64) 3 w w0.heap.size (fun k_ => (P0_ k_ ∨ w.heap.size ≤ k_)) u9000_ l0 from Kd.R_mono ho0 (fun k_ hk => (.inl hk)))
  have HK := Aside0.mk (Kept.refl w (fun k_ => P0_ k_))
  have HW0 := Aside0.mk hB.size
  have HB := Aside0.mk hB
  clear hB
  have H : (laws_markIntS.l0 k l0 a1 0) = some (r1, r2) := h
  clear h
  have H' := Aside0.mk H
  clear H
  go_enter Try.func24, Try.ntmps24
  go_wp2
  go_loopg [1, 5] k (fun kq v1 v5 w' => ∃ (x0_1 : List Int) (x1_1 : Int) (x5_1 : Int), v1 = .int .i64 x1_1 ∧ v5 = .int .i64 x5_1 ∧ Aside0 (laws_markIntS.l0 kq x0_1 x1_1 x5_1 = some (r1, r2)) ∧ Aside0 (kq ≤ k) ∧ Aside0 (Kd.R (Kd.int .i64) 3 w' w0.heap.size (fun k_ => (P0_ k_ ∨ w.heap.size ≤ k_)) u9000_ x0_1) ∧ Aside0 (Kept w w' (fun k_ => P0_ k_)) ∧ Aside0 (Below w0.heap.size w0 w'))
  case atStart => exact ⟨(l0), (a1), (0), (by first | rfl | (simp; done) | (simp [*]; done)), (by first | rfl | (simp; done) | (simp [*]; done)), H', ⟨Nat.le_refl _⟩, ⟨by (with_reducible repeat (first | apply Kd.R_alloc | apply Kd.R_drewN | apply Kd.R_drew)); exact HO0.out⟩, ⟨by repeat (first | (with_reducible first | exact HK.out | apply Kept.alloc | apply Kept.drewN | apply Kept.drew) | exact HK.out)⟩, ⟨by repeat (first | (with_reducible first | exact HB.out | apply below_alloc | apply pw_below_drewN | apply below_drew1) | exact HB.out)⟩⟩
  case round =>
    clear H'
    try clear c2
    try clear p2
    obtain ⟨x0_1, x1_1, x5_1, rfl, rfl, HA, HK1, HO_0, HK, HB⟩ := hrel
    cases gk with
    | zero => exact absurd HA.out (by simp [laws_markIntS.l0])
    | succ k1 =>
      have H := HA.out
      clear HA
      simp only [laws_markIntS.l0] at H
      by_cases c3 : x5_1 < (x0_1.length : Int)
      · rw [if_pos c3] at H
        have c3b0 : decide (x5_1 < (x0_1.length : Int)) = true := decide_eq_true c3
        clear c3
        by_cases c4 : 0 ≤ x5_1
        · rw [if_pos c4] at H
          have c4b0 : decide (0 ≤ x5_1) = true := decide_eq_true c4
          clear c4
          obtain ⟨y207, hy207⟩ : ∃ y_ : List Int, y_ = (x0_1.set (x5_1 : Int).toNat x1_1) := ⟨_, rfl⟩
          replace H : (laws_markIntS.l0 k1 y207 (wrap64 (x1_1 + 1)) (wrap64 (x5_1 + 1))) = some (r1, r2) := by first | (rw [hy207]; with_reducible exact H) | (have H2_ := (Option.bind_some _ _).symm.trans H; rw [hy207]; with_reducible exact H2_) | (have H2_ := (Option.bind_some _ _).symm.trans H; with_reducible exact H2_) | with_reducible exact H | (rw [hy207]; exact H) | exact H
          have Ny207 := Aside0.mk hy207
          clear hy207
          have H' := Aside0.mk H
          clear H
          obtain ⟨Ao6, co6, eo6⟩ := Kd.R_slice HO_0.out
          subst eo6
          have p5 : 0 ≤ (x5_1 : Int) := of_decide_eq_true (by first | (with_reducible assumption) | assumption)
          have q5 : (x5_1 : Int) < ((x0_1.length : Int) : Int) := of_decide_eq_true (by first | (with_reducible assumption) | assumption)
          obtain ⟨go5, co5, eo5, gb5, gl5, cl5, HG5⟩ := Kd.R_form HO_0.out (by omega)
          (first | cases eo5 | (injection eo5 with ea_ en_ ec_; (first | subst ea_ | (injection ea_ with ea_; subst ea_)); subst ec_; clear en_))
          have GB5 := Aside0.mk gb5
          have GG5 := Aside0.mk HG5
          clear gb5 gl5 HG5
          have HMgo5 := Aside0.mk (show (P0_ go5 ∨ w.heap.size ≤ go5) from (HO_0.out.1 _ rfl))
          obtain ⟨hx5_0, hf5_0⟩ := Kd.R_celln 0 HO_0.out (x5_1 : Int) p5 q5
          replace p5 := eq_true p5
          replace q5 := eq_true q5
          have HP7 := Kd.R_putg HO_0.out (x5_1 : Int) x1_1
          go_wp2_with (first | ((with_reducible refine gate_store (t := 3) (p := 15) rfl ?_); refine store_event (t := 3) (p := 15) (v := ?vo_w8) (w1 := (wr.setCell ⟨go5, (x5_1 : Int).toNat, none⟩ (.int .i64 x1_1))) ?hg ?ho ?hn ?hr ?_; (case ho => rfl); (case hg => rfl); (case hn => rfl); (case hr => first | (go_simp; done) | (go_simp; rfl)); intro w8 hw; have hg : wr.grownBy w8 (some go5) := (by rw [hw]; exact HP7.2); have hp_ : Kd.R (Kd.int .i64) 3 w8 w0.heap.size (fun k_ => (P0_ k_ ∨ w.heap.size ≤ k_)) (.slice (some ⟨go5, 0, none⟩) x0_1.length co6) y207 := (by rw [hw, Ny207.out]; exact HP7.1); clear HP7; have n0_ := Aside0.mk (hp_); have n1_ := Aside0.mk ((by rw [hw]; exact below_set (HB.out) GB5.out : Below w0.heap.size w0 w8)); have n2_ := Aside0.mk (Kept.of_grown (S := (fun k_ => P0_ k_)) hg (by repeat (first | (with_reducible first | exact HK.out | apply Kept.alloc | apply Kept.drewN | apply Kept.drew) | exact HK.out)) (fun k_ e_ => (HO_0.out.1 k_ e_))); clear HO_0; clear HB; clear HK; have HO_0 := n0_; have HB := n1_; have HK := n2_; clear n0_ n1_ n2_; clear hg hw hp_))
          go_roundg k1
          case measure => have := HK1.out; omega
          case rel => exact ⟨(y207), (wrap64 (x1_1 + 1)), (wrap64 (x5_1 + 1)), (by first | rfl | (simp; done) | (simp [*]; done)), (by first | rfl | (simp; done) | (simp [*]; done)), H', ⟨by have := HK1.out; omega⟩, ⟨by (with_reducible repeat (first | apply Kd.R_alloc | apply Kd.R_drewN | apply Kd.R_drew)); exact HO_0.out⟩, ⟨by repeat (first | (with_reducible first | exact HK.out | apply Kept.alloc | apply Kept.drewN | apply Kept.drew) | exact HK.out)⟩, ⟨by repeat (first | (with_reducible first | exact HB.out | apply below_alloc | apply pw_below_drewN | apply below_drew1) | exact HB.out)⟩⟩
        · rw [if_neg c4] at H
          exact absurd H (by simp)
      · rw [if_neg c3] at H
        have c3b0 : decide (x5_1 < (x0_1.length : Int)) = false := decide_eq_false c3
        clear c3
        simp only [Option.some.injEq, Prod.mk.injEq] at H
        obtain ⟨rfl, rfl⟩ := H
        obtain ⟨Ao9, co9, eo9⟩ := Kd.R_slice HO_0.out
        subst eo9
        go_wp2
        go_ret
        exact ⟨by first | rfl | (simp [errW_none, errW_some] <;> rfl) | (simp [*, errW_none, errW_some] <;> rfl), by (with_reducible repeat (first | apply Kd.R_alloc | apply Kd.R_drewN | apply Kd.R_drew)); exact HO_0.out, by repeat (first | (with_reducible first | exact HB.out | apply below_alloc | apply pw_below_drewN | apply below_drew1) | exact HB.out), by repeat (first | (with_reducible first | exact HK.out | apply Kept.alloc | apply Kept.drewN | apply Kept.drew) | exact HK.out)⟩
end Go.Proofs.Ytplcipjlkogadaa.P

namespace Go.Proofs.Ytplcipjlkogadaa.P
open Go.RowKit Go.Proofs.YtplcipjlkogadaaW.PrintWords Go.Proofs.YtplcipjlkogadaaW.PrintLast Go.Proofs.YtplcipjlkogadaaW.PrintMore
attribute [local go_sem] max2_int min2_int max_two min_two max_three min_three max_four min_four
theorem markI_ev (l : List Int) (a : Int) (ha : 0 ≤ a) (hn : a + l.length ≤ 4611686018427387904) : Ev (fun k => laws_markIntS.f k l a) (a + l.length, H.markI l a) := by
  have key : ∀ i, i ≤ l.length → Ev (fun k => laws_markIntS.l0 k ((H.markI l a).take i ++ l.drop i) (a + i) i) (a + l.length, H.markI l a) := by
    refine H.down ?_ ?_
    · refine Ev.step (f := fun _ => some (a + l.length, H.markI l a)) (fun k => ?_) (Ev.now _)
      have e1 : (H.markI l a).take l.length ++ l.drop l.length = H.markI l a := by rw [List.take_of_length_le (by rw [H.markI_len]; exact Nat.le_refl _), List.drop_length, List.append_nil]
      rw [e1]
      simp only [laws_markIntS.l0]
      rw [if_neg (by rw [H.markI_len]; omega)]
    · intro i hi ih
      refine Ev.step (fun k => ?_) ih
      have hl : ((H.markI l a).take i).length = i := by rw [List.length_take, H.markI_len]; omega
      simp only [laws_markIntS.l0]
      rw [if_pos (by rw [List.length_append, hl, List.length_drop]; omega), if_pos (by omega), H.w64 (by omega) (by omega), H.w64 (by omega) (by omega), Int.toNat_natCast]
      have e2 : ((H.markI l a).take i ++ l.drop i).set i (a + i) = (H.markI l a).take (i + 1) ++ l.drop (i + 1) := by
        rw [List.set_append_right _ _ (by omega), hl, Nat.sub_self, List.drop_eq_getElem_cons hi, List.set_cons_zero, List.take_add_one]
        have e3 : (H.markI l a)[i]? = some (a + i) := by
          unfold H.markI
          rw [List.getElem?_map, List.getElem?_range hi]
          rfl
        rw [e3, List.append_assoc]
        rfl
      rw [e2]
      congr 1 <;> push_cast <;> omega
  have h := key 0 (Nat.zero_le _)
  have e : (H.markI l a).take 0 ++ l.drop 0 = l := by simp
  rw [e] at h
  refine Ev.congr (fun k => ?_) h
  unfold laws_markIntS.f
  simp
set_option maxHeartbeats 8000000 in
set_option maxRecDepth 100000 in
theorem laws_markIntS.tame (lo up : Nat) (u : Value) (n : Nat) (a : Int) (w : World) (h : H.Room 3 w lo up u n) (ha : 0 ≤ a) (hn : a + n ≤ 4611686018427387904) :
    Calls Try.prog 24 #[u, .int .i64 a] w fun e w' => e = .returned (.int .i64 (a + n)) ∧ H.Tame 3 lo up w w' := by
  obtain ⟨A, c, rfl, hA⟩ := h
  by_cases h0 : 0 < n
  · obtain ⟨g, cs, rfl, h1, h2, h3, h4⟩ := hA h0
    have HB := Aside0.mk h3
    have H1 := Aside0.mk h1
    have H2 := Aside0.mk h2
    have H4 := Aside0.mk h4
    clear hA h1 h2 h3 h4
    go_enter Try.func24, Try.ntmps24
    go_wp2
    go_loopw [5, 1] (fun v5 v1 wr => ∃ (i : Nat) (cs' : Array Value), v5 = .int .i64 i ∧ v1 = .int .i64 (a + i) ∧ i ≤ n ∧ Aside0 (wr.heap[g]? = some (.cells cs' 3 (0, 0))) ∧ Aside0 (cs'.size = cs.size) ∧ Aside0 (H.Tame 3 lo up w wr)) (fun v5 _ _ => n - (intOf v5).toNat)
    case atStart => exact ⟨0, cs, rfl, by simp, Nat.zero_le _, HB, ⟨rfl⟩, ⟨H.Tame.refl _ _ _ _⟩⟩
    case round =>
      clear HB
      obtain ⟨i, cs', rfl, rfl, hi, HB, HS, HT⟩ := hrel
      by_cases hlt : i < n
      · have HI := Aside0.mk hlt
        have hlt' : (i : Int) < (n : Int) := by omega
        go_wp2_with ((with_reducible refine gate_store (t := 3) (p := 15) rfl ?_); refine H.mark_put rfl rfl rfl rfl HB.out rfl (by kernel_rfl) (by have := HI.out; have := H4.out; have := HS.out; omega) ?_; intro w_ cs2 hb_ hs_ hg_; replace HT := Aside0.mk (HT.out.trans (H.Tame.put hg_ HB.out hb_ hs_ H1.out H2.out)); replace HB := Aside0.mk hb_; replace HS := Aside0.mk (hs_.trans HS.out); clear hb_ hs_ hg_)
        go_roundw
        case rel => exact ⟨i + 1, _, by go_num, by first | go_num | (congr 1; push_cast; omega), by omega, HB, HS, HT⟩
        case measure => simp [intOf]; omega
      · have hE : i = n := by omega
        subst hE
        go_wp2
        go_ret
        exact ⟨rfl, HT.out⟩
  · obtain rfl : n = 0 := by omega
    go_enter Try.func24, Try.ntmps24
    go_wp2
    go_loopw [5, 1] (fun v5 v1 wr => v5 = .int .i64 0 ∧ v1 = .int .i64 a ∧ Aside0 (H.Tame 3 lo up w wr)) (fun v5 _ _ => 0)
    case atStart => exact ⟨rfl, rfl, ⟨H.Tame.refl _ _ _ _⟩⟩
    case round =>
      obtain ⟨rfl, rfl, HT⟩ := hrel
      go_wp2
      go_ret
      exact ⟨by simp, HT.out⟩
set_option maxHeartbeats 8000000 in
set_option maxRecDepth 100000 in
theorem laws_markIntSS.exact (v : Value) (xs : List (List Int)) (a : Int) (P0 : Nat → Prop) (w0 w : World) (hB : Below w0.heap.size w0 w) (hS : Kd.S (Kd.slice 3 (Kd.int .i64)) 31 w w0.heap.size P0 v xs) (ha : 0 ≤ a) (hn : a + H.total xs ≤ 4611686018427387904) :
    Calls Try.prog 34 #[v, .int .i64 a] w fun e w' => e = .returned (.int .i64 (a + H.total xs)) ∧ Kd.S (Kd.slice 3 (Kd.int .i64)) 31 w' w0.heap.size P0 v (H.markSS xs a) ∧ Below w0.heap.size w0 w' ∧ Kept w w' P0 := by
  by_cases h0 : 0 < xs.length
  · have hlx : xs.length ≤ 9223372036854775807 := by
      obtain ⟨A, c, e⟩ := Kd.S_slice hS
      subst e
      exact (Kd.S_reads' hS).2.2.2.1
    obtain ⟨g, cap, rfl, _, _, _⟩ := Kd.S_form hS h0
    have HB := Aside0.mk hB
    have HS := Aside0.mk hS
    clear hB hS
    go_enter Try.func34, Try.ntmps34
    go_wp2
    go_loopw [5, 1] (fun v5 v1 wr => ∃ i : Nat, v5 = .int .i64 i ∧ v1 = .int .i64 (a + H.total (xs.take i)) ∧ i ≤ xs.length ∧ Aside0 (Kd.S (Kd.slice 3 (Kd.int .i64)) 31 wr w0.heap.size P0 (.slice (some ⟨g, 0, none⟩) xs.length cap) (H.markTo xs a i)) ∧ Aside0 (Below w0.heap.size w0 wr) ∧ Aside0 (Kept w wr P0)) (fun v5 _ _ => xs.length - (intOf v5).toNat)
    case atStart => exact ⟨0, rfl, by simp [H.total], Nat.zero_le _, ⟨by simpa [H.markTo] using HS.out⟩, HB, ⟨Kept.refl _ _⟩⟩
    case round =>
      clear HB HS
      obtain ⟨i, rfl, rfl, hi, HS, HB, HK⟩ := hrel
      by_cases hlt : i < xs.length
      · obtain ⟨oki, c1, hcl, hM, hcc, hfr, hoki, hH⟩ := Kd.S_elem HS.out [] (i : Int) (by omega) (by omega)
        obtain ⟨u, rfl, hR⟩ := hM
        rw [Int.toNat_natCast] at hR hcc
        have hu := hcc 0 u rfl
        rw [show i * (Kd.slice 3 (Kd.int .i64)).sz + 0 = i from Nat.mul_one i] at hu
        rw [H.markTo_at xs a hlt] at hR
        have hst := H.markTo_step xs a hlt
        have hts := H.total_take_succ xs i hlt
        have htl := H.total_take_le xs (i + 1)
        obtain ⟨l, hl⟩ : ∃ l, xs.getD i [] = l := ⟨_, rfl⟩
        rw [hl] at hR hst hts
        have hb1 : 0 ≤ a + (H.total (xs.take i) : Int) := by omega
        obtain ⟨k, hk⟩ := Ev.rounds (markI_ev l (a + H.total (xs.take i)) hb1 (by omega))
        have HST := Aside0.mk hst
        have HTS := Aside0.mk hts
        have HR := Aside0.mk hR
        have HH := Aside0.mk hH
        have HOK := Aside0.mk hoki
        have HKK := Aside0.mk hk
        have hlt' : (i : Int) < (xs.length : Int) := by omega
        clear hcl hcc hfr hH hoki hst hts hl hk hR htl
        go_wp2_with (go_at_call 24; refine (laws_markIntS.calls k oki u l _ _ _ w0 wr HB.out HR.out HKK.out).mono ?_; rintro e w' ⟨rfl, hr', hb', hk'⟩; replace HS := Aside0.mk (H.S_marked HH.out HR.out hk' hr'); replace HK := Aside0.mk (HK.out.then_ hk' (fun k hk => .inl (HOK.out k hk).1)); replace HB := Aside0.mk hb'; clear hr' hb' hk' hu)
        go_roundw
        case rel => exact ⟨i + 1, by go_num, by rw [HTS.out]; congr 1; push_cast; omega, by omega, ⟨by have := HS.out; rw [Int.toNat_natCast, HST.out] at this; exact this⟩, HB, HK⟩
        case measure => simp [intOf]; omega
      · have hE : i = xs.length := by omega
        subst hE
        go_wp2
        go_ret
        exact ⟨by first | rfl | (rw [List.take_length]; rfl), by have := HS.out; rw [H.markTo, List.take_of_length_le (by rw [H.markSS_len]; exact Nat.le_refl _), List.drop_length, List.append_nil] at this; exact this, HB.out, HK.out⟩
  · obtain rfl : xs = [] := List.eq_nil_of_length_eq_zero (by omega)
    obtain ⟨A, c, rfl⟩ := Kd.S_slice hS
    have HB := Aside0.mk hB
    have HS := Aside0.mk hS
    clear hB hS
    go_enter Try.func34, Try.ntmps34
    go_wp2
    go_loopw [5, 1] (fun v5 v1 wr => v5 = .int .i64 0 ∧ v1 = .int .i64 a ∧ Aside0 (wr = w)) (fun v5 _ _ => 0)
    case atStart => exact ⟨rfl, rfl, ⟨rfl⟩⟩
    case round =>
      obtain ⟨rfl, rfl, HT⟩ := hrel
      go_wp2
      go_ret
      exact ⟨by simp [H.total], by rw [HT.out]; exact HS.out, by rw [HT.out]; exact HB.out, by rw [HT.out]; exact Kept.refl _ _⟩
set_option maxHeartbeats 8000000 in
set_option maxRecDepth 100000 in
theorem laws_markIntSS.tame (lo up : Nat) (v : Value) (m : Nat) (f : Nat → Nat) (a : Int) (w : World) (h : H.Rooms 3 31 1 w lo up v m f) (ha : 0 ≤ a) (hn : a + H.sumN f m ≤ 4611686018427387904) (hm : m ≤ 4611686018427387904) :
    Calls Try.prog 34 #[v, .int .i64 a] w fun e w' => e = .returned (.int .i64 (a + H.sumN f m)) ∧ H.Tame 3 lo up w w' := by
  obtain ⟨A, c, rfl, hA⟩ := h
  by_cases h0 : 0 < m
  · obtain ⟨g, cs, rfl, hb, hc⟩ := hA h0
    have HB := Aside0.mk hb
    have HC := Aside0.mk hc
    clear hA hb hc
    go_enter Try.func34, Try.ntmps34
    go_wp2
    go_loopw [5, 1] (fun v5 v1 wr => ∃ i : Nat, v5 = .int .i64 i ∧ v1 = .int .i64 (a + H.sumN f i) ∧ i ≤ m ∧ Aside0 (H.Tame 3 lo up w wr)) (fun v5 _ _ => m - (intOf v5).toNat)
    case atStart => exact ⟨0, rfl, by simp [H.sumN], Nat.zero_le _, ⟨H.Tame.refl _ _ _ _⟩⟩
    case round =>
      obtain ⟨i, rfl, rfl, hi, HT⟩ := hrel
      by_cases hlt : i < m
      · obtain ⟨u, h1, h2⟩ := HC.out i (by omega)
        have hu : wr.cell? ⟨g, i, none⟩ = some u := (blk_cell ((HT.out.kept _ _ _ HB.out (by decide)).trans HB.out) i).trans h1
        have H2 := Aside0.mk (h2.tame HT.out)
        have hs1 : H.sumN f (i + 1) = H.sumN f i + f i := rfl
        have hs2 := H.sumN_le f (show i + 1 ≤ m by omega)
        have HS1 := Aside0.mk hs1
        have hb1 : 0 ≤ a + (H.sumN f i : Int) := by omega
        have HB2 : Aside0 (a + (H.sumN f i : Int) + f i ≤ 4611686018427387904) := ⟨by omega⟩
        have hlt' : (i : Int) < (m : Int) := by omega
        clear h1 h2 hs1 hs2
        go_wp2_with (go_at_call 24; refine (laws_markIntS.tame lo up u (f i) _ wr H2.out hb1 HB2.out).mono ?_; rintro e w' ⟨rfl, ht⟩; replace HT := Aside0.mk (HT.out.trans ht); clear ht hu)
        go_roundw
        case rel => exact ⟨i + 1, by go_num, by rw [HS1.out]; congr 1; push_cast; omega, by omega, HT⟩
        case measure => simp [intOf]; omega
      · have hE : i = m := by omega
        subst hE
        go_wp2
        go_ret
        exact ⟨rfl, HT.out⟩
  · obtain rfl : m = 0 := by omega
    go_enter Try.func34, Try.ntmps34
    go_wp2
    go_loopw [5, 1] (fun v5 v1 wr => v5 = .int .i64 0 ∧ v1 = .int .i64 a ∧ Aside0 (H.Tame 3 lo up w wr)) (fun v5 _ _ => 0)
    case atStart => exact ⟨rfl, rfl, ⟨H.Tame.refl _ _ _ _⟩⟩
    case round =>
      obtain ⟨rfl, rfl, HT⟩ := hrel
      go_wp2
      go_ret
      exact ⟨by simp [H.sumN], HT.out⟩
end Go.Proofs.Ytplcipjlkogadaa.P

namespace Go.Proofs.Ytplcipjlkogadaa.P
open Go.RowKit Go.Proofs.YtplcipjlkogadaaW.PrintWords Go.Proofs.YtplcipjlkogadaaW.PrintLast Go.Proofs.YtplcipjlkogadaaW.PrintMore
attribute [local go_sem] max2_int min2_int max_two min_two max_three min_three max_four min_four
def laws_heldIntS.l0 : Nat → List Int → Int → Int → Option (Int)
  | 0, _, _, _ => none
  | k + 1, x0, x1, x5 => if x5 < (x0.length : Int) then (if 0 ≤ x5 then (if (rd x0 x5) = x1 then (laws_heldIntS.l0 k x0 (wrap64 (x1 + 1)) (wrap64 (x5 + 1))) else (some (-1))) else (none)) else (some x1)
def laws_heldIntS.f (k : Nat) (l0 : List Int) (a1 : Int) : Option (Int) := laws_heldIntS.l0 k l0 a1 0
theorem laws_heldIntS.mono_l : ∀ k, (∀ y0 y1 y2, LeO (laws_heldIntS.l0 k y0 y1 y2) (laws_heldIntS.l0 (k + 1) y0 y1 y2))
  | 0 => fun _ _ _ r h => by simp [laws_heldIntS.l0] at h
  | k + 1 => by
    have ih0 := laws_heldIntS.mono_l k
    · intro y0 y1 y2
      unfold laws_heldIntS.l0
      repeat' first
      | (with_reducible exact ih0 _ _ _)
      | (with_reducible exact LeO.refl _)
      | (with_reducible exact LeO.none _)
      | (with_reducible refine LeO.ite ?_ ?_)
      | (with_reducible refine LeO.bind ?_ (fun _ => ?_))
      | exact ih0 _ _ _
      | exact LeO.none _
      | refine LeO.ite ?_ ?_
      | refine LeO.bind ?_ (fun _ => ?_)
theorem laws_heldIntS.mono : ∀ a0 a1 k, LeO (laws_heldIntS.f k a0 a1) (laws_heldIntS.f (k + 1) a0 a1) := by
  intro a0 a1 k
  have ih0 := laws_heldIntS.mono_l k
  unfold laws_heldIntS.f
  repeat' first
      | (with_reducible exact ih0 _ _ _)
      | (with_reducible exact LeO.refl _)
      | (with_reducible exact LeO.none _)
      | (with_reducible refine LeO.ite ?_ ?_)
      | (with_reducible refine LeO.bind ?_ (fun _ => ?_))
      | exact ih0 _ _ _
      | exact LeO.none _
      | refine LeO.ite ?_ ?_
      | refine LeO.bind ?_ (fun _ => ?_)
set_option maxHeartbeats 8000000 in
set_option maxRecDepth 100000 in
theorem laws_heldIntS.calls (k : Nat) (A0 : Option Addr) (c0 : Nat) (l0 : List Int) (a1 : Int) (r : Int) (w : World) (hr0 : Kd.C (Kd.int .i64) w A0 l0.length l0) (hc0 : l0.length ≤ c0) (h : laws_heldIntS.f k l0 a1 = some r) :
    Calls Try.prog 25 #[.slice A0 l0.length c0, .int .i64 a1] w fun e w' => e = .returned (.int .i64 r) ∧ Drawn0 w w' := by
  have HR0 := Aside0.mk hr0
  have HC0 := Aside0.mk hc0
  clear hr0 hc0
  have H : (laws_heldIntS.l0 k l0 a1 0) = some r := h
  clear h
  have H' := Aside0.mk H
  clear H
  go_enter Try.func25, Try.ntmps25
  go_wp2
  go_loopg [1, 5] k (fun kq v1 v5 w' => ∃ (x1_1 : Int) (x5_1 : Int), v1 = .int .i64 x1_1 ∧ v5 = .int .i64 x5_1 ∧ Aside0 (laws_heldIntS.l0 kq l0 x1_1 x5_1 = some r) ∧ Aside0 (kq ≤ k) ∧ Drawn0 w w')
  case atStart => exact ⟨(a1), (0), (by first | rfl | (simp; done) | (simp [*]; done)), (by first | rfl | (simp; done) | (simp [*]; done)), H', ⟨Nat.le_refl _⟩, by repeat (first | exact Drawn0.refl _ | apply Drawn0.step)⟩
  case round =>
    clear H'
    try clear c2
    try clear p2
    obtain ⟨x1_1, x5_1, rfl, rfl, HA, HK1, ⟨m1, rfl⟩⟩ := hrel
    cases gk with
    | zero => exact absurd HA.out (by simp [laws_heldIntS.l0])
    | succ k1 =>
      have H := HA.out
      clear HA
      simp only [laws_heldIntS.l0] at H
      by_cases c3 : x5_1 < (l0.length : Int)
      · rw [if_pos c3] at H
        have c3b0 : decide (x5_1 < (l0.length : Int)) = true := decide_eq_true c3
        clear c3
        by_cases c4 : 0 ≤ x5_1
        · rw [if_pos c4] at H
          have c4b0 : decide (0 ≤ x5_1) = true := decide_eq_true c4
          clear c4
          by_cases c5 : (rd l0 x5_1) = x1_1
          · rw [if_pos c5] at H
            have c5b0 : ((rd l0 x5_1) == x1_1) = true := beq_iff_eq.mpr c5
            have c5b1 : ((rd l0 x5_1) != x1_1) = false := bne_eq_false_iff_eq.mpr c5
            clear c5
            have H' := Aside0.mk H
            clear H
            have p208 : 0 ≤ (x5_1 : Int) := of_decide_eq_true (by first | (with_reducible assumption) | assumption)
            have q208 : x5_1 < (l0.length : Int) := of_decide_eq_true (by first | (with_reducible assumption) | assumption)
            obtain ⟨ad208, e208, hx208_0⟩ := Kd.at_int HR0.out x5_1 p208 q208
            cases e208
            replace p208 := eq_true p208
            replace q208 := eq_true q208
            go_wp2
            go_roundg k1
            case measure => have := HK1.out; omega
            case rel => exact ⟨(wrap64 (x1_1 + 1)), (wrap64 (x5_1 + 1)), (by first | rfl | (simp; done) | (simp [*]; done)), (by first | rfl | (simp; done) | (simp [*]; done)), H', ⟨by have := HK1.out; omega⟩, by repeat (first | exact Drawn0.refl _ | apply Drawn0.step)⟩
          · rw [if_neg c5] at H
            have c5b0 : ((rd l0 x5_1) == x1_1) = false := beq_eq_false_iff_ne.mpr c5
            have c5b1 : ((rd l0 x5_1) != x1_1) = true := bne_iff_ne.mpr c5
            obtain rfl := Option.some.inj H
            have p208 : 0 ≤ (x5_1 : Int) := of_decide_eq_true (by first | (with_reducible assumption) | assumption)
            have q208 : x5_1 < (l0.length : Int) := of_decide_eq_true (by first | (with_reducible assumption) | assumption)
            obtain ⟨ad208, e208, hx208_0⟩ := Kd.at_int HR0.out x5_1 p208 q208
            cases e208
            replace p208 := eq_true p208
            replace q208 := eq_true q208
            go_wp2
            go_ret
            exact ⟨by first | rfl | (simp; done) | (simp [*]; done), by repeat (first | exact Drawn0.refl _ | apply Drawn0.step)⟩
        · rw [if_neg c4] at H
          exact absurd H (by simp)
      · rw [if_neg c3] at H
        have c3b0 : decide (x5_1 < (l0.length : Int)) = false := decide_eq_false c3
        clear c3
        obtain rfl := Option.some.inj H
        go_wp2
        go_ret
        exact ⟨by first | rfl | (simp; done) | (simp [*]; done), by repeat (first | exact Drawn0.refl _ | apply Drawn0.step)⟩
end Go.Proofs.Ytplcipjlkogadaa.P

namespace Go.Proofs.Ytplcipjlkogadaa.P
open Go.RowKit Go.Proofs.YtplcipjlkogadaaW.PrintWords Go.Proofs.YtplcipjlkogadaaW.PrintLast Go.Proofs.YtplcipjlkogadaaW.PrintMore
attribute [local go_sem] max2_int min2_int max_two min_two max_three min_three max_four min_four
def laws_heldIntSS.l0 : Nat → List (List Int) → Int → Int → Option (Int)
  | 0, _, _, _ => none
  | k + 1, x0, x1, x5 => if x5 < (x0.length : Int) then (if 0 ≤ x5 then ((laws_heldIntS.f k (rd_L1 x0 x5) x1).bind fun t275 => (if t275 < 0 then (some (-1)) else (laws_heldIntSS.l0 k x0 t275 (wrap64 (x5 + 1))))) else (none)) else (some x1)
def laws_heldIntSS.f (k : Nat) (l0 : List (List Int)) (a1 : Int) : Option (Int) := laws_heldIntSS.l0 k l0 a1 0
theorem laws_heldIntSS.mono_l : ∀ k, (∀ y0 y1 y2, LeO (laws_heldIntSS.l0 k y0 y1 y2) (laws_heldIntSS.l0 (k + 1) y0 y1 y2))
  | 0 => fun _ _ _ r h => by simp [laws_heldIntSS.l0] at h
  | k + 1 => by
    have ih0 := laws_heldIntSS.mono_l k
    · intro y0 y1 y2
      unfold laws_heldIntSS.l0
      repeat' first
      | (with_reducible exact ih0 _ _ _)
      | (with_reducible exact laws_heldIntS.mono _ _ _)
      | (with_reducible exact LeO.refl _)
      | (with_reducible exact LeO.none _)
      | (with_reducible refine LeO.ite ?_ ?_)
      | (with_reducible refine LeO.bind ?_ (fun _ => ?_))
      | exact ih0 _ _ _
      | exact laws_heldIntS.mono _ _ _
      | exact LeO.none _
      | refine LeO.ite ?_ ?_
      | refine LeO.bind ?_ (fun _ => ?_)
theorem laws_heldIntSS.mono : ∀ a0 a1 k, LeO (laws_heldIntSS.f k a0 a1) (laws_heldIntSS.f (k + 1) a0 a1) := by
  intro a0 a1 k
  have ih0 := laws_heldIntSS.mono_l k
  unfold laws_heldIntSS.f
  repeat' first
      | (with_reducible exact ih0 _ _ _)
      | (with_reducible exact laws_heldIntS.mono _ _ _)
      | (with_reducible exact LeO.refl _)
      | (with_reducible exact LeO.none _)
      | (with_reducible refine LeO.ite ?_ ?_)
      | (with_reducible refine LeO.bind ?_ (fun _ => ?_))
      | exact ih0 _ _ _
      | exact laws_heldIntS.mono _ _ _
      | exact LeO.none _
      | refine LeO.ite ?_ ?_
      | refine LeO.bind ?_ (fun _ => ?_)
set_option maxHeartbeats 8000000 in
set_option maxRecDepth 100000 in
theorem laws_heldIntSS.calls (k : Nat) (A0 : Option Addr) (c0 : Nat) (l0 : List (List Int)) (a1 : Int) (r : Int) (w : World) (hr0 : Kd.C (Kd.slice 3 (Kd.int .i64)) w A0 l0.length l0) (hc0 : l0.length ≤ c0) (h : laws_heldIntSS.f k l0 a1 = some r) :
    Calls Try.prog 35 #[.slice A0 l0.length c0, .int .i64 a1] w fun e w' => e = .returned (.int .i64 r) ∧ Drawn0 w w' := by
  have HR0 := Aside0.mk hr0
  have HC0 := Aside0.mk hc0
  clear hr0 hc0
  have H : (laws_heldIntSS.l0 k l0 a1 0) = some r := h
  clear h
  have H' := Aside0.mk H
  clear H
  go_enter Try.func35, Try.ntmps35
  go_wp2
  go_loopg [1, 5] k (fun kq v1 v5 w' => ∃ (x1_1 : Int) (x5_1 : Int), v1 = .int .i64 x1_1 ∧ v5 = .int .i64 x5_1 ∧ Aside0 (laws_heldIntSS.l0 kq l0 x1_1 x5_1 = some r) ∧ Aside0 (kq ≤ k) ∧ Drawn0 w w')
  case atStart => exact ⟨(a1), (0), (by first | rfl | (simp; done) | (simp [*]; done)), (by first | rfl | (simp; done) | (simp [*]; done)), H', ⟨Nat.le_refl _⟩, by repeat (first | exact Drawn0.refl _ | apply Drawn0.step)⟩
  case round =>
    clear H'
    try clear p2
    obtain ⟨x1_1, x5_1, rfl, rfl, HA, HK1, ⟨m1, rfl⟩⟩ := hrel
    cases gk with
    | zero => exact absurd HA.out (by simp [laws_heldIntSS.l0])
    | succ k1 =>
      have H := HA.out
      clear HA
      simp only [laws_heldIntSS.l0] at H
      by_cases c3 : x5_1 < (l0.length : Int)
      · rw [if_pos c3] at H
        have c3b0 : decide (x5_1 < (l0.length : Int)) = true := decide_eq_true c3
        clear c3
        by_cases c4 : 0 ≤ x5_1
        · rw [if_pos c4] at H
          have c4b0 : decide (0 ≤ x5_1) = true := decide_eq_true c4
          clear c4
          replace H := Option.bind_eq_some_iff.mp H
          obtain ⟨t275, A50, H⟩ := H
          replace H : (if t275 < 0 then (some (-1)) else (laws_heldIntSS.l0 k1 l0 t275 (wrap64 (x5_1 + 1)))) = some r := H
          have A5 := Aside0.mk A50
          clear A50
          by_cases c6 : t275 < 0
          · rw [if_pos c6] at H
            have c6b0 : decide (t275 < 0) = true := decide_eq_true c6
            clear c6
            obtain rfl := Option.some.inj H
            have p274 : 0 ≤ (x5_1 : Int) := of_decide_eq_true (by first | (with_reducible assumption) | assumption)
            have q274 : x5_1 < (l0.length : Int) := of_decide_eq_true (by first | (with_reducible assumption) | assumption)
            obtain ⟨ad274, A274_0, c274_0, e274, hx274_0, hl274_0, hi274_0⟩ := at_L1 HR0.out x5_1 p274 q274
            cases e274
            have HR274_0 := Aside0.mk hi274_0
            have HC274_0 := Aside0.mk hl274_0
            clear hi274_0 hl274_0
            replace p274 := eq_true p274
            replace q274 := eq_true q274
            go_wp2_with (first | ((with_reducible refine gate_callee (f := 25) rfl ?_); refine goesL_ (some 17) rfl rfl Try.func25 (by kernel_rfl) rfl #[.slice A274_0 (rd_L1 l0 x5_1).length c274_0, .int .i64 x1_1] rfl (by (try simp only [List.map_toArray, List.map_cons, List.map_nil]); first | done | rfl | (simp only [List.length_drop, List.length_take]; rfl)) ?_; (with_reducible refine (laws_heldIntS.calls k1 _ _ (rd_L1 l0 x5_1) x1_1 t275 _ ?side1 ?side2 A5.out).mono ?_); (case side1 => repeat (first | exact HR274_0.out | (with_reducible refine Kd.C_alloc ?_ _) | (with_reducible refine Kd.C_drewN ?_ _) | (with_reducible refine Kd.C_drew ?_))); (case side2 => exact HC274_0.out); rintro e w' ⟨rfl, ⟨nd, rfl⟩⟩; refine ⟨_, rfl, ?_⟩))
            go_ret
            exact ⟨by first | rfl | (simp; done) | (simp [*]; done), by repeat (first | exact Drawn0.refl _ | apply Drawn0.step)⟩
          · rw [if_neg c6] at H
            have c6b0 : decide (t275 < 0) = false := decide_eq_false c6
            clear c6
            have H' := Aside0.mk H
            clear H
            have p274 : 0 ≤ (x5_1 : Int) := of_decide_eq_true (by first | (with_reducible assumption) | assumption)
            have q274 : x5_1 < (l0.length : Int) := of_decide_eq_true (by first | (with_reducible assumption) | assumption)
            obtain ⟨ad274, A274_0, c274_0, e274, hx274_0, hl274_0, hi274_0⟩ := at_L1 HR0.out x5_1 p274 q274
            cases e274
            have HR274_0 := Aside0.mk hi274_0
            have HC274_0 := Aside0.mk hl274_0
            clear hi274_0 hl274_0
            replace p274 := eq_true p274
            replace q274 := eq_true q274
            go_wp2_with (first | ((with_reducible refine gate_callee (f := 25) rfl ?_); refine goesL_ (some 17) rfl rfl Try.func25 (by kernel_rfl) rfl #[.slice A274_0 (rd_L1 l0 x5_1).length c274_0, .int .i64 x1_1] rfl (by (try simp only [List.map_toArray, List.map_cons, List.map_nil]); first | done | rfl | (simp only [List.length_drop, List.length_take]; rfl)) ?_; (with_reducible refine (laws_heldIntS.calls k1 _ _ (rd_L1 l0 x5_1) x1_1 t275 _ ?side1 ?side2 A5.out).mono ?_); (case side1 => repeat (first | exact HR274_0.out | (with_reducible refine Kd.C_alloc ?_ _) | (with_reducible refine Kd.C_drewN ?_ _) | (with_reducible refine Kd.C_drew ?_))); (case side2 => exact HC274_0.out); rintro e w' ⟨rfl, ⟨nd, rfl⟩⟩; refine ⟨_, rfl, ?_⟩))
            go_roundg k1
            case measure => have := HK1.out; omega
            case rel => exact ⟨(t275), (wrap64 (x5_1 + 1)), (by first | rfl | (simp; done) | (simp [*]; done)), (by first | rfl | (simp; done) | (simp [*]; done)), H', ⟨by have := HK1.out; omega⟩, by repeat (first | exact Drawn0.refl _ | apply Drawn0.step)⟩
        · rw [if_neg c4] at H
          exact absurd H (by simp)
      · rw [if_neg c3] at H
        have c3b0 : decide (x5_1 < (l0.length : Int)) = false := decide_eq_false c3
        clear c3
        obtain rfl := Option.some.inj H
        go_wp2
        go_ret
        exact ⟨by first | rfl | (simp; done) | (simp [*]; done), by repeat (first | exact Drawn0.refl _ | apply Drawn0.step)⟩
end Go.Proofs.Ytplcipjlkogadaa.P

namespace Go.Proofs.Ytplcipjlkogadaa.Q
open Go.RowKit Go.Proofs.Ytplcipjlkogadaa.P Go.Proofs.Ytplcipjlkogadaa.H Go.Proofs.YtplcipjlkogadaaW.PrintWords
theorem markI_get (l : List Int) (a : Int) {i : Nat} (hi : i < l.length) : (markI l a).getD i 0 = a + i := by
  unfold markI
  rw [List.getD_eq_getElem?_getD, List.getElem?_map, List.getElem?_range hi]
  rfl
theorem heldI_ev (l : List Int) (a : Int) (ha : 0 ≤ a) (hn : a + l.length ≤ 4611686018427387904) : Ev (fun k => laws_heldIntS.f k (markI l a) a) (a + l.length) := by
  have key := down0 (n := l.length) (p := fun i => Ev (fun k => laws_heldIntS.l0 k (markI l a) (a + i) i) (a + l.length)) ?h0 ?hs
  · refine Ev.congr (fun k => ?_) key
    unfold laws_heldIntS.f
    simp
  case h0 =>
    refine Ev.step (f := fun _ => some (a + l.length)) (fun k => ?_) (Ev.now _)
    simp only [laws_heldIntS.l0]
    rw [if_neg (by rw [markI_len]; omega)]
  case hs =>
    intro i hi ih
    refine Ev.step (fun k => ?_) ih
    simp only [laws_heldIntS.l0]
    rw [if_pos (by rw [markI_len]; omega), if_pos (by omega)]
    have e : rd (markI l a) (i : Int) = a + i := by
      unfold rd
      rw [Int.toNat_natCast]
      exact markI_get l a hi
    rw [if_pos e, w64 (by omega) (by omega), w64 (by omega) (by omega), show ((i + 1 : Nat) : Int) = (i : Int) + 1 by omega, ← Int.add_assoc]
theorem total_small {g : List (List Int)} (h : Small g) : total g ≤ 1099511627776 := by
  have : ∀ (xs : List (List Int)), (∀ r ∈ xs, r.length ≤ 1048576) → total xs ≤ xs.length * 1048576 := by
    intro xs
    induction xs with
    | nil => intro _; simp [total]
    | cons x xs ih =>
      intro hx
      have h1 := ih (fun r hr => hx r (by simp [hr]))
      have h2 := hx x (by simp)
      rw [total, List.length_cons, Nat.succ_mul]
      omega
  have h1 := this g h.2
  have h2 := h.1
  have h3 : g.length * 1048576 ≤ 1048576 * 1048576 := Nat.mul_le_mul_right _ h2
  omega
theorem heldSS_ev : ∀ (xs : List (List Int)) (a : Int), 0 ≤ a → a + total xs ≤ 4611686018427387904 → xs.length ≤ 1048576 → Ev (fun k => laws_heldIntSS.f k (markSS xs a) a) (a + total xs) := by
  intro xs a ha hn hx
  have key := down (n := xs.length) (p := fun i => Ev (fun k => laws_heldIntSS.l0 k (markSS xs a) (a + total (xs.take i)) i) (a + total xs)) ?h0 ?hs 0 (Nat.zero_le _)
  · refine Ev.congr (fun k => ?_) key
    unfold laws_heldIntSS.f
    simp [total]
  case h0 =>
    refine Ev.step (f := fun _ => some (a + total xs)) (fun k => ?_) (Ev.now _)
    simp only [laws_heldIntSS.l0]
    rw [if_neg (by rw [markSS_len]; omega), List.take_length]
  case hs =>
    intro i hi ih
    have hts := total_take_succ xs i hi
    have htl := total_take_le xs (i + 1)
    have he : rd_L1 (markSS xs a) (i : Int) = markI (xs.getD i []) (a + total (xs.take i)) := by
      show (markSS xs a).getD i [] = _
      rw [List.getD_eq_getElem?_getD, markSS_at xs a i hi]
      rfl
    have h1 := heldI_ev (xs.getD i []) (a + total (xs.take i)) (by omega) (by omega)
    refine Ev.step (fun k => ?_) (h1.bind (f := fun k v => if v < 0 then some (-1) else laws_heldIntSS.l0 k (markSS xs a) v (wrap64 ((i : Int) + 1))) ?_)
    · simp only [laws_heldIntSS.l0]
      rw [if_pos (by rw [markSS_len]; omega), if_pos (by omega), he]
    · refine Ev.congr (fun k => by rw [if_neg (by omega), w64 (by omega) (by omega)]) ?_
      rw [hts] at ih
      refine Ev.congr (fun k => ?_) ih
      congr 1
      push_cast
      omega
end Go.Proofs.Ytplcipjlkogadaa.Q

namespace Go.Proofs.Ytplcipjlkogadaa.P
open Go.RowKit Go.Proofs.YtplcipjlkogadaaW.PrintWords Go.Proofs.YtplcipjlkogadaaW.PrintLast Go.Proofs.YtplcipjlkogadaaW.PrintMore
attribute [local go_sem] max2_int min2_int max_two min_two max_three min_three max_four min_four
set_option maxHeartbeats 8000000 in
set_option maxRecDepth 100000 in
theorem laws_markGraph.tame (lo up : Nat) (v : Value) (m : Nat) (f : Nat → Nat) (a : Int) (w : World) (h : H.Rooms 3 31 1 w lo up v m f) (ha : 0 ≤ a) (hn : a + H.sumN f m ≤ 4611686018427387904) (hm : m ≤ 4611686018427387904) :
    Calls Try.prog 23 #[.agg #[v], .int .i64 a] w fun e w' => e = .returned (.int .i64 (a + H.sumN f m)) ∧ H.Tame 3 lo up w w' := by
  have HR := Aside0.mk h
  have HO := Aside0.mk (H.Own.nil w)
  obtain ⟨A, c, rfl, _⟩ := h
  go_enter Try.func23, Try.ntmps23
  go_wp2_with (first | ((with_reducible refine gate_dst (N := 2) rfl ?_); refine H.own_box HO.out ?hg (N := 2) ?hd (cs := #[.slice A m c]) (t := 27) ?hr ?_; (case hd => rfl); (case hg => rfl); (case hr => first | (go_simp; done) | (go_simp; rfl)); intro gb w1 ho_ hb_; replace HO := Aside0.mk ho_; have hx := ho_.cell 0 rfl 0; have HT := Aside0.mk (H.Tame.of_below (ti := 3) (lo := lo) (hi := up) hb_); clear ho_ hb_) | (go_at_call 34; refine (laws_markIntSS.tame lo up _ m f a _ (HR.out.tame HT.out (by decide)) ha hn hm).mono ?_; rintro e w' ⟨rfl, ht⟩; replace HT := Aside0.mk (HT.out.trans ht); clear ht hx))
  go_ret
  exact ⟨rfl, HT.out⟩
end Go.Proofs.Ytplcipjlkogadaa.P

namespace Go.Proofs.Ytplcipjlkogadaa.P
open Go.RowKit Go.Proofs.YtplcipjlkogadaaW.PrintWords Go.Proofs.YtplcipjlkogadaaW.PrintLast Go.Proofs.YtplcipjlkogadaaW.PrintMore
attribute [local go_sem] max2_int min2_int max_two min_two max_three min_three max_four min_four
def spec_l10Dominators.f (l0_0 : List (List Int)) : Option (List (List Int)) := if H.goodG l0_0 then some (Q.domL l0_0) else none
theorem has_any (l : List Int) (hl : l.length ≤ 1048576) (A : Option Addr) (c : Nat) (x : Int) (W : World) (h : Kd.C (Kd.int .i64) W A l.length l) (hc : l.length ≤ c) : Calls Try.prog 65 #[.slice A l.length c, .int .i64 x] W fun e w' => e = .returned (.bool (decide (x ∈ l))) ∧ Drawn0 W w' := by
  obtain ⟨k, hk⟩ := Ev.rounds (Q.has_ev l x hl)
  exact spec_l1Has.calls k A c l x _ W h hc hk
theorem put_any (l : List Int) (hl : l.length ≤ 1048576) (x : Int) (u : Value) (ok : Nat → Prop) (w0 W : World) (hB : Below w0.heap.size w0 W) (h : Kd.R (Kd.int .i64) 3 W w0.heap.size ok u l) :
    Calls Try.prog 73 #[u, .int .i64 x] W fun e w' => ∃ v0_ : Value, e = .returned (v0_) ∧ Kd.R (Kd.int .i64) 3 w' w0.heap.size (fun k_ => (some k_ = u.ownBlock) ∨ W.heap.size ≤ k_) v0_ (Q.putL l x) ∧ Below w0.heap.size w0 w' ∧ Kept W w' (fun k_ => some k_ = u.ownBlock) := by
  obtain ⟨k, hk⟩ := Ev.rounds (Q.put_ev l x hl)
  exact spec_l1Put.calls k (fun k_ => some k_ = u.ownBlock) u l x _ w0 W hB (Kd.R_tight rfl h) hk
theorem reach_any {g : List (List Int)} (hG : H.goodG g = true) (A : Option Addr) (c : Nat) (wo : Int) (W : World) (h : Kd.C (Kd.slice 3 (Kd.int .i64)) W A g.length g) (hc : g.length ≤ c) :
    Calls Try.prog 60 #[.agg #[.slice A g.length c], .int .i64 wo] W fun e w' => ∃ v0_ : Value, e = .returned (v0_) ∧ Kd.R (Kd.int .i64) 3 w' W.heap.size (fun _ => True) v0_ (listTo (H.reachF g 0 wo) 12) ∧ Below W.heap.size W w' := by
  obtain ⟨k, hk⟩ := Ev.rounds (Q.specReach_ev hG wo)
  exact spec_l10Reach.calls k A c g wo _ W h hc hk
set_option maxHeartbeats 8000000 in
set_option maxRecDepth 100000 in
theorem spec_l10Dominators.calls (A0_0 : Option Addr) (c0_0 : Nat) (l0_0 : List (List Int)) (r : List (List Int)) (w : World) (hr0_0 : Kd.C (Kd.slice 3 (Kd.int .i64)) w A0_0 l0_0.length l0_0) (hc0_0 : l0_0.length ≤ c0_0) (h : spec_l10Dominators.f l0_0 = some r) :
    Calls Try.prog 64 #[.agg #[.slice A0_0 l0_0.length c0_0]] w fun e w' => ∃ v0_ : Value, e = .returned (v0_) ∧ Kd.S (Kd.slice 3 (Kd.int .i64)) 31 w' w.heap.size (fun _ => True) v0_ r ∧ Below w.heap.size w w' := by
  unfold spec_l10Dominators.f at h
  cases hG : H.goodG l0_0 with
  | false => rw [hG] at h; exact absurd h (by simp)
  | true =>
    rw [hG, if_pos rfl] at h
    obtain rfl := Option.some.inj h
    have hr := H.goodG_rows hG
    have hn1 : 1 ≤ l0_0.length := hr.1.1
    have hn2 : l0_0.length ≤ 12 := hr.1.2
    have HR0 := Aside0.mk hr0_0
    have HC0 := Aside0.mk hc0_0
    have HG := Aside0.mk hG
    have HO := Aside0.mk (H.Own.nil w)
    have HRE := Aside0.mk (fun (W : World) (hb : Below w.heap.size w W) (wo : Int) => reach_any hG A0_0 c0_0 wo W (Kd.C_below HR0.out hb) HC0.out)
    have HRL := Aside0.mk (fun wo => Q.listTo_small (H.reachF l0_0 0 wo))
    have HRIN := Aside0.mk (fun y (hy : y ∈ listTo (H.reachF l0_0 0 (-1)) 12) => ((Q.listTo_reach hG y).1 hy).rng hG (by decide) (by omega))
    clear hr0_0 hc0_0 hG h hr
    have hI : (Try.prog.info? 31).map (·.size) = some 1 := by kernel_rfl
    have HI := Aside0.mk hI
    clear hI
    obtain ⟨R, hR⟩ : ∃ R, listTo (H.reachF l0_0 0 (-1)) 12 = R := ⟨_, rfl⟩
    have HRS := Aside0.mk (HRL.out (-1))
    rw [hR] at HRIN HRS
    have HRD := Aside0.mk hR
    clear hR
    have hrs := HRS.out
    go_enter Try.func64, Try.ntmps64
    go_wp2_with (first | ((with_reducible refine gate_dst (N := 1) rfl ?_); refine H.own_box HO.out ?bxg (N := 1) ?bxd (cs := #[Value.slice A0_0 l0_0.length c0_0]) (t := 27) ?bxr ?_; (case bxd => rfl); (case bxg => rfl); (case bxr => first | (go_simp; done) | (go_simp; rfl)); intro gp w_ ho_ hb_; replace HO := Aside0.mk ho_; clear ho_ hb_) | ((with_reducible refine gate_dst (N := 10) rfl ?_); refine wpList_load_row rfl 27 (.tmp 1) rfl _ rfl 27 _ (0, 0) _ (HO.out.get 0 rfl) Try.underlying27 rfl (by kernel_rfl) ?_) | (go_at_call 60; refine (HRE.out _ HO.out.below (-1)).mono ?_; rw [HRD.out]; rintro e w' ⟨vr, rfl, hv, hb⟩; obtain ⟨AR, cR, rfl⟩ := Kd.R_slice hv; obtain ⟨N1, hN1⟩ : ∃ N1, w'.heap.size = N1 := ⟨_, rfl⟩; have HV := Aside0.mk (Kd.R_mono (ok' := fun k => k < N1) (H.R_upto (Kd.R_lower hv HO.out.size)) (fun k hk => hN1 ▸ hk.2)); have HN1 := Aside0.mk hN1; replace HO := Aside0.mk (HO.out.step hb); have hx1 := HO.out.cell 0 rfl 0; clear hv hb hN1) | ((with_reducible refine gate_dst (N := 15) rfl ?_); refine Kd.S_make (Kd.slice 3 (Kd.int .i64)) (w0 := _) _ 31 rfl (N := 15) rfl 22 _ _ rfl (l0_0.length : Int) rfl rfl Try.underlying22 (.slice none 0 0) 24 info31 rfl (by decide) (by omega) [] (ok := fun _ => True) (okp := fun _ => True) ⟨_, rfl, Kd.R_nil _ _ _ _ _⟩ (fun _ hk => hk) trivial (by omega) (by simp only [Int.toNat_natCast]; omega) (Below.refl _ _) (Nat.le_refl _) ?_; intro vs w_ ho_ hb_ hg_ hnew_; replace HV := Aside0.mk (Kd.R_below HV.out hb_); have HS := Aside0.mk (Kd.S_lower (Kd.S_mono (ok' := fun k => N1 ≤ k) (H.S_upto ho_) (fun k hk => by rw [← HN1.out]; exact hk.1)) HO.out.size); have HNW := Aside0.mk (show N1 ≤ w_.heap.size by rw [← HN1.out]; exact hb_.size); replace HO := Aside0.mk (HO.out.step hb_); clear ho_ hb_ hg_ hnew_ hx1 HN1))
    rw [Int.toNat_natCast] at HS
    obtain ⟨gs, cs, rfl, hgs0, _, _⟩ := Kd.S_form HS.out (by simp; omega)
    rw [List.length_replicate] at HS ⊢
    have HGS0 := Aside0.mk hgs0
    clear hgs0
    go_loopw [18] (fun v18 wr => ∃ (i : Nat) (xs : List (List Int)), v18 = .int .i64 i ∧ i ≤ R.length ∧ Aside0 (Kd.S (Kd.slice 3 (Kd.int .i64)) 31 wr w.heap.size (fun k => N1 ≤ k) (.slice (some ⟨gs, 0, none⟩) l0_0.length cs) xs) ∧ Aside0 (Q.Rel l0_0.length (fun b y => y ∈ R.take i ∧ (b : Int) ∈ R ∧ ¬ (b : Int) ∈ listTo (H.reachF l0_0 0 y) 12) xs) ∧ Aside0 ((Kd.int .i64).R 3 wr w.heap.size (fun k => k < N1) (.slice AR R.length cR) R) ∧ Aside0 (N1 ≤ wr.heap.size) ∧ Aside0 (H.Own w wr [(gp, #[Value.slice A0_0 l0_0.length c0_0], 27)])) (fun v18 _ => R.length - (intOf v18).toNat)
    case atStart => exact ⟨0, _, rfl, Nat.zero_le _, HS, ⟨Q.Rel.nil _ (fun b _ y h => by simp at h)⟩, HV, HNW, HO⟩
    case round =>
      clear HO HS HV HNW
      obtain ⟨i, xs, rfl, hi, HS, HREL, HV, HNW, HO⟩ := hrel
      by_cases hlt : i < R.length
      · obtain ⟨ad1, e1, hc1⟩ := Kd.at_int (Kd.R_reads' HV.out).2.2 (i : Int) (by omega) (by omega)
        subst e1
        rw [Int.toNat_natCast] at hc1
        have hd : rd R (i : Int) = R.getD i 0 := rfl
        rw [hd] at hc1
        have htk : R.take (i + 1) = R.take i ++ [R.getD i 0] := by rw [List.take_add_one, List.getElem?_eq_getElem hlt, List.getD_eq_getElem?_getD, List.getElem?_eq_getElem hlt]; rfl
        obtain ⟨d, hdd⟩ : ∃ d, R.getD i 0 = d := ⟨_, rfl⟩
        rw [hdd] at hc1 htk
        have HTK := Aside0.mk htk
        have hil : (i : Int) < (R.length : Int) := by omega
        obtain ⟨Wd, hWd⟩ : ∃ Wd, listTo (H.reachF l0_0 0 d) 12 = Wd := ⟨_, rfl⟩
        have HWL := HRL.out d
        rw [hWd] at HWL
        have HWD := Aside0.mk hWd
        have HWS := Aside0.mk HWL
        clear hd htk hdd HWL hWd
        go_wp2_with (first | ((with_reducible refine gate_dst (N := 22) rfl ?_); refine wpList_load_row rfl 27 (.tmp 1) rfl _ rfl 27 _ (0, 0) _ (HO.out.get 0 rfl) Try.underlying27 rfl (by kernel_rfl) ?_) | (go_at_call 60; refine (HRE.out _ HO.out.below d).mono ?_; rw [HWD.out]; rintro e w' ⟨vw, rfl, hv, hb⟩; obtain ⟨AW, cW, rfl⟩ := Kd.R_slice hv; have HW := Aside0.mk (Kd.R_lower hv HO.out.size); replace HS := Aside0.mk (Kd.S_elder' HS.out (Kd.R_base hv) hb); replace HV := Aside0.mk (Kd.R_below HV.out hb); replace HNW := Aside0.mk (Nat.le_trans HNW.out hb.size); replace HO := Aside0.mk (HO.out.step hb); clear hv hb hc1))
        go_loopw [27] (fun v27 wr => ∃ (j : Nat) (xs : List (List Int)), v27 = .int .i64 j ∧ j ≤ R.length ∧ Aside0 (Kd.S (Kd.slice 3 (Kd.int .i64)) 31 wr w.heap.size (fun k => N1 ≤ k ∧ some k ≠ (Value.slice AW Wd.length cW).ownBlock) (.slice (some ⟨gs, 0, none⟩) l0_0.length cs) xs) ∧ Aside0 (Q.Rel l0_0.length (fun b y => (y ∈ R.take i ∧ (b : Int) ∈ R ∧ ¬ (b : Int) ∈ listTo (H.reachF l0_0 0 y) 12) ∨ (y = d ∧ (b : Int) ∈ R.take j ∧ ¬ (b : Int) ∈ Wd)) xs) ∧ Aside0 ((Kd.int .i64).R 3 wr w.heap.size (fun k => k < N1) (.slice (some ad1) R.length cR) R) ∧ Aside0 ((Kd.int .i64).R 3 wr w.heap.size (fun _ => True) (.slice AW Wd.length cW) Wd) ∧ Aside0 (N1 ≤ wr.heap.size) ∧ Aside0 (H.Own w wr [(gp, #[Value.slice A0_0 l0_0.length c0_0], 27)])) (fun v27 _ => R.length - (intOf v27).toNat)
        case atStart => exact ⟨0, xs, rfl, Nat.zero_le _, HS, ⟨HREL.out.congr (fun b _ y => by simp)⟩, HV, HW, HNW, HO⟩
        case round =>
          clear HO HS HV HNW HREL HW
          obtain ⟨j, xs, rfl, hj, HS, HREL, HV, HW, HNW, HO⟩ := hrel
          by_cases hlt2 : j < R.length
          · obtain ⟨ad2, e2, hc2⟩ := Kd.at_int (Kd.R_reads' HV.out).2.2 (j : Int) (by omega) (by omega)
            injection e2 with e2
            subst e2
            rw [Int.toNat_natCast] at hc2
            have hd : rd R (j : Int) = R.getD j 0 := rfl
            rw [hd] at hc2
            have htk : R.take (j + 1) = R.take j ++ [R.getD j 0] := by rw [List.take_add_one, List.getElem?_eq_getElem hlt2, List.getD_eq_getElem?_getD, List.getElem?_eq_getElem hlt2]; rfl
            have hin := HRIN.out (R.getD j 0) (by rw [List.getD_eq_getElem?_getD, List.getElem?_eq_getElem hlt2]; exact List.getElem_mem hlt2)
            obtain ⟨k, hkk⟩ : ∃ k : Nat, R.getD j 0 = (k : Int) := ⟨(R.getD j 0).toNat, by omega⟩
            rw [hkk] at hc2 htk hin
            have HTK2 := Aside0.mk htk
            have hjl : (j : Int) < (R.length : Int) := by omega
            have hkn : (k : Int) < (l0_0.length : Int) := hin.2
            have HKN := Aside0.mk (show k < l0_0.length by omega)
            clear hd htk hkk hin
            obtain ⟨dd, hdd⟩ : ∃ dd, decide ((k : Int) ∈ Wd) = dd := ⟨_, rfl⟩
            have HDD := Aside0.mk hdd
            clear hdd
            cases dd with
            | true =>
              go_wp2_with (go_at_call 65; refine (has_any Wd HWS.out _ _ (k : Int) _ (Kd.R_reads' HW.out).2.2 (Kd.R_reads' HW.out).2.1).mono ?_; rw [HDD.out]; rintro e w2 ⟨rfl, hd⟩; replace HV := Aside0.mk (Kd.R_below HV.out hd.below); replace HW := Aside0.mk (Kd.R_below HW.out hd.below); replace HS := Aside0.mk (Kd.S_below HS.out hd.below); replace HNW := Aside0.mk (Nat.le_trans HNW.out hd.below.size); replace HO := Aside0.mk (HO.out.step hd.below); clear hd hc2)
              refine ⟨⟨j + 1, xs, by go_num, by omega, HS, ⟨HREL.out.congr (fun b _ y => by
                have hw := of_decide_eq_true HDD.out
                rw [HTK2.out, List.mem_append, List.mem_singleton]
                constructor
                · rintro (h | ⟨h1, h2, h3⟩)
                  · exact .inl h
                  · exact .inr ⟨h1, .inl h2, h3⟩
                · rintro (h | ⟨h1, h2 | h2, h3⟩)
                  · exact .inl h
                  · exact .inr ⟨h1, h2, h3⟩
                  · rw [h2] at h3
                    exact absurd hw h3)⟩, HV, HW, HNW, HO⟩, ?_⟩
              simp [intOf]
              omega
            | false =>
              obtain ⟨oki, u, hu, hRu, hoki, hH⟩ := H.S_holeG HS.out HKN.out
              have hgt := Kd.S_typed HS.out gs (by simp [Value.ownBlock])
              have HRU := Aside0.mk hRu
              have HOK := Aside0.mk hoki
              have HH := Aside0.mk hH
              have HGT := Aside0.mk hgt
              have HU := Aside0.mk hu
              have HXL := Aside0.mk (show (xs.getD k []).length ≤ 1048576 by
                have := HREL.out.len12 (fun b hb y h => by
                  have hy : y ∈ R := by
                    rcases h with h | h
                    · exact List.mem_of_mem_take h.1
                    · have := HTK.out
                      rw [h.1]
                      exact List.mem_of_mem_take (i := i + 1) (by rw [this]; simp)
                  have := HRIN.out y hy
                  omega) HKN.out
                omega)
              clear hRu hoki hH hgt hu HS
              go_wp2_with (first | (go_at_call 65; refine (has_any Wd HWS.out _ _ (k : Int) _ (Kd.R_reads' HW.out).2.2 (Kd.R_reads' HW.out).2.1).mono ?_; rw [HDD.out]; rintro e w2 ⟨rfl, hd⟩; replace HV := Aside0.mk (Kd.R_below HV.out hd.below); replace HW := Aside0.mk (Kd.R_below HW.out hd.below); replace HRU := Aside0.mk (Kd.R_below HRU.out hd.below); replace HH := Aside0.mk (Kd.H_below HH.out hd.below); replace HNW := Aside0.mk (Nat.le_trans HNW.out hd.below.size); replace HO := Aside0.mk (HO.out.step hd.below); have hu := pw_cell_below hd.below HU.out; replace HGT := Aside0.mk (HGT.out.imp (fun cells hc => blk_below hc hd.below)); clear hd hc2 HU) | (go_at_call 73; refine (put_any (xs.getD k []) HXL.out d u _ w _ HO.out.below HRU.out).mono ?_; rintro e w3 ⟨v0, rfl, hv0, hb, hk⟩; obtain ⟨A0, c0, rfl⟩ := Kd.R_slice hv0; have HIN : Aside0 (∀ k, (Value.slice A0 (Q.putL (xs.getD k []) d).length c0).ownBlock = some k → True) := ⟨fun _ _ => trivial⟩; clear HIN; have HV0 := Aside0.mk hv0; have HPU := Aside0.mk (fun k (hk : some k = u.ownBlock) => HOK.out k (HRU.out.1 k hk.symm)); have HWlt := Aside0.mk (Kd.R_lt HW.out); replace HH := Aside0.mk (H.hole_keptG HH.out hk (fun k hk => HRU.out.1 k hk.symm)); replace HV := Aside0.mk (H.R_keptB HV.out hk (fun k h1 h2 => by have a1 := HV.out.1 k h1; have a2 := (HPU.out k h2).1; omega)); replace HW := Aside0.mk (H.R_keptB HW.out hk (fun k h1 h2 => (HPU.out k h2).2 h1.symm)); replace HGT := Aside0.mk (HGT.out.imp (fun cells hc => (hk.2 gs (blk_lt hc) (Kd.R_ne HRU.out hc (by decide))).trans hc)); have HNW' := HNW; replace HNW := Aside0.mk (Nat.le_trans HNW.out hk.1); have HIN := Aside0.mk (fun k (h : (Value.slice A0 (Q.putL (xs.getD k []) d).length c0).ownBlock = some k) => trivial); clear HIN; replace HO := Aside0.mk (HO.out.keptU HRU.out hk hb (by simp)); clear hv0 hb hk hu) | ((with_reducible refine gate_store (t := 31) (p := 43) rfl ?_); refine H.own_eputG HO.out HH.out HV0.out (Nat.le_refl _) (fun q hq => by rcases HV0.out.1 q hq with h | h; exact .inl (HRU.out.1 q h.symm); exact .inr ⟨⟨Nat.le_trans HNW'.out h, fun e => by have := HWlt.out q e.symm; omega⟩, h⟩) rfl rfl rfl rfl rfl HI.out HKN.out HGS0.out HGT.out (by simp) ?_; intro w_ ho_ hs_ hg_; replace HV := Aside0.mk (Kd.R_over' (e' := 31) (v := .slice (some ⟨gs, 0, none⟩) 0 0) HV.out (fun q hq => by have : gs = q := (by simpa [Value.ownBlock] using hq); rw [← this]; exact HGT.out) (by decide) hg_); replace HW := Aside0.mk (Kd.R_over' (e' := 31) (v := .slice (some ⟨gs, 0, none⟩) 0 0) HW.out (fun q hq => by have : gs = q := (by simpa [Value.ownBlock] using hq); rw [← this]; exact HGT.out) (by decide) hg_); replace HNW := Aside0.mk (Nat.le_trans HNW.out hg_.size); have HS := Aside0.mk hs_; replace HO := Aside0.mk ho_; clear ho_ hs_ hg_))
              go_roundw
              case rel => exact ⟨j + 1, _, by go_num, by omega, HS, ⟨(HREL.out.put HKN.out d).congr (fun b _ y => by
                have hw := of_decide_eq_false HDD.out
                rw [HTK2.out, List.mem_append, List.mem_singleton]
                constructor
                · rintro ((h | ⟨h1, h2, h3⟩) | ⟨h1, h2⟩)
                  · exact .inl h
                  · exact .inr ⟨h1, .inl h2, h3⟩
                  · subst h1
                    exact .inr ⟨h2, .inr rfl, hw⟩
                · rintro (h | ⟨h1, h2 | h2, h3⟩)
                  · exact .inl (.inl h)
                  · exact .inl (.inr ⟨h1, h2, h3⟩)
                  · exact .inr ⟨by omega, h1⟩)⟩, HV, HW, HNW, HO⟩
              case measure => simp [intOf]; omega
          · have hE : j = R.length := by omega
            subst hE
            go_wp2
            go_roundw
            case rel => exact ⟨i + 1, xs, by go_num, by omega, ⟨Kd.S_mono HS.out (fun k hk => hk.1)⟩, ⟨HREL.out.congr (fun b _ y => by
              rw [HTK.out, List.mem_append, List.mem_singleton, List.take_length]
              constructor
              · rintro (h | ⟨h1, h2, h3⟩)
                · exact ⟨.inl h.1, h.2⟩
                · subst h1
                  exact ⟨.inr rfl, h2, by rw [HWD.out]; exact h3⟩
              · rintro ⟨h | h, h2, h3⟩
                · exact .inl ⟨h, h2, h3⟩
                · subst h
                  exact .inr ⟨rfl, h2, by rw [HWD.out] at h3; exact h3⟩)⟩, HV, HNW, HO⟩
            case measure => simp [intOf]; omega
      · have hE : i = R.length := by omega
        subst hE
        have hfin : xs = Q.domL l0_0 := by
          refine (HREL.out.congr (fun b _ y => ?_)).uniq (Q.domL_rel HG.out)
          unfold Q.domM
          rw [HRD.out, List.take_length]
        subst hfin
        go_wp2
        go_ret
        exact ⟨_, rfl, Kd.S_mono HS.out (fun _ _ => trivial), HO.out.below⟩
end Go.Proofs.Ytplcipjlkogadaa.P

namespace Go.Proofs.Ytplcipjlkogadaa.P
open Go.RowKit Go.Proofs.YtplcipjlkogadaaW.PrintWords Go.Proofs.YtplcipjlkogadaaW.PrintLast Go.Proofs.YtplcipjlkogadaaW.PrintMore
attribute [local go_sem] max2_int min2_int max_two min_two max_three min_three max_four min_four
mutual
def spec_LoopOf.j0 : Nat → Int → Int → Bool → List (List Int) → Option (List Int × Bool)
  | 0, _, _, _, _ => none
  | k + 1, x1, x2, x58, x313000 => if x58 = true then (some (([] : List Int), false)) else ((spec_l1Put.f k (([x2] : List Int)) x1).bind fun t324 => (spec_LoopOf.l0 k x2 t324 x313000))
def spec_LoopOf.l0 : Nat → Int → List Int → List (List Int) → Option (List Int × Bool)
  | 0, _, _, _ => none
  | k + 1, x2, x9, x313000 => spec_LoopOf.l1 k x2 x9 (x9.length : Int) x313000 (x313000.length : Int) 0 x313000
def spec_LoopOf.l1 : Nat → Int → List Int → Int → List (List Int) → Int → Int → List (List Int) → Option (List Int × Bool)
  | 0, _, _, _, _, _, _, _ => none
  | k + 1, x2, x9, x10, x66, x67, x68, x313000 => if x68 < x67 then (if 0 ≤ x68 then (if x68 < (x66.length : Int) then (spec_LoopOf.l2 k x2 x9 x10 x68 x66 x67 x68 (rd_L1 x66 x68) ((rd_L1 x66 x68).length : Int) 0 x313000) else (none)) else (none)) else (if (x9.length : Int) = x10 then (some (x9, true)) else (spec_LoopOf.l0 k x2 x9 x313000))
def spec_LoopOf.l2 : Nat → Int → List Int → Int → Int → List (List Int) → Int → Int → List Int → Int → Int → List (List Int) → Option (List Int × Bool)
  | 0, _, _, _, _, _, _, _, _, _, _, _ => none
  | k + 1, x2, x9, x10, x11, x66, x67, x68, x73, x74, x75, x313000 => if x75 < x74 then (if 0 ≤ x75 then (if x75 < (x73.length : Int) then (if (rd x73 x75) = x2 then (spec_LoopOf.l2 k x2 x9 x10 x11 x66 x67 x68 x73 x74 (wrap64 (x75 + 1)) x313000) else ((spec_l1Has.f k x9 (rd x73 x75)).bind fun t329 => (if t329 = true then ((spec_l1Put.f k x9 x11).bind fun t330 => (spec_LoopOf.l2 k x2 t330 x10 x11 x66 x67 x68 x73 x74 (wrap64 (x75 + 1)) x313000)) else (spec_LoopOf.l2 k x2 x9 x10 x11 x66 x67 x68 x73 x74 (wrap64 (x75 + 1)) x313000)))) else (none)) else (none)) else (spec_LoopOf.l1 k x2 x9 x10 x66 x67 (wrap64 (x68 + 1)) x313000)
end
def spec_LoopOf.f (k : Nat) (l0_0 : List (List Int)) (a1 : Int) (a2 : Int) : Option (List Int × Bool) := (spec_GoodGraph.f k l0_0).bind fun t313 => (if t313 = true then (if a1 < 0 then (spec_LoopOf.j0 k a1 a2 true l0_0) else (if a1 ≥ (l0_0.length : Int) then (spec_LoopOf.j0 k a1 a2 true l0_0) else (if a2 < 0 then (spec_LoopOf.j0 k a1 a2 true l0_0) else (if a2 ≥ (l0_0.length : Int) then (spec_LoopOf.j0 k a1 a2 true l0_0) else (if 0 ≤ a1 then (if a1 < (l0_0.length : Int) then ((spec_l1Has.f k (rd_L1 l0_0 a1) a2).bind fun t315 => (if t315 = true then ((spec_l10Dominators.f l0_0).bind fun t316 => (if a1 < (t316.length : Int) then ((spec_l1Has.f k (rd_L1 t316 a1) a2).bind fun t320 => (spec_LoopOf.j0 k a1 a2 (!t320) l0_0)) else (none))) else (spec_LoopOf.j0 k a1 a2 true l0_0))) else (none)) else (none)))))) else (spec_LoopOf.j0 k a1 a2 true l0_0))
theorem spec_LoopOf.mono_l : ∀ k, (∀ y0 y1 y2 y3, LeO (spec_LoopOf.j0 k y0 y1 y2 y3) (spec_LoopOf.j0 (k + 1) y0 y1 y2 y3)) ∧ (∀ y0 y1 y2, LeO (spec_LoopOf.l0 k y0 y1 y2) (spec_LoopOf.l0 (k + 1) y0 y1 y2)) ∧ (∀ y0 y1 y2 y3 y4 y5 y6, LeO (spec_LoopOf.l1 k y0 y1 y2 y3 y4 y5 y6) (spec_LoopOf.l1 (k + 1) y0 y1 y2 y3 y4 y5 y6)) ∧ (∀ y0 y1 y2 y3 y4 y5 y6 y7 y8 y9 y10, LeO (spec_LoopOf.l2 k y0 y1 y2 y3 y4 y5 y6 y7 y8 y9 y10) (spec_LoopOf.l2 (k + 1) y0 y1 y2 y3 y4 y5 y6 y7 y8 y9 y10))
  | 0 => ⟨fun _ _ _ _ r h => by simp [spec_LoopOf.j0] at h, fun _ _ _ r h => by simp [spec_LoopOf.l0] at h, fun _ _ _ _ _ _ _ r h => by simp [spec_LoopOf.l1] at h, fun _ _ _ _ _ _ _ _ _ _ _ r h => by simp [spec_LoopOf.l2] at h⟩
  | k + 1 => by
    obtain ⟨ih0, ih1, ih2, ih3⟩ := spec_LoopOf.mono_l k
    refine ⟨?_, ?_, ?_, ?_⟩
    · intro y0 y1 y2 y3
      unfold spec_LoopOf.j0
      repeat' first
      | (with_reducible exact ih0 _ _ _ _)
      | (with_reducible exact ih1 _ _ _)
      | (with_reducible exact ih2 _ _ _ _ _ _ _)
      | (with_reducible exact ih3 _ _ _ _ _ _ _ _ _ _ _)
      | (with_reducible exact spec_GoodGraph.mono _ _)
      | (with_reducible exact spec_l1Has.mono _ _ _)
      | (with_reducible exact spec_l1Put.mono _ _ _)
      | (with_reducible exact LeO.refl _)
      | (with_reducible exact LeO.none _)
      | (with_reducible refine LeO.ite ?_ ?_)
      | (with_reducible refine LeO.bind ?_ (fun _ => ?_))
      | exact ih0 _ _ _ _
      | exact ih1 _ _ _
      | exact ih2 _ _ _ _ _ _ _
      | exact ih3 _ _ _ _ _ _ _ _ _ _ _
      | exact spec_GoodGraph.mono _ _
      | exact spec_l1Has.mono _ _ _
      | exact spec_l1Put.mono _ _ _
      | exact LeO.none _
      | refine LeO.ite ?_ ?_
      | refine LeO.bind ?_ (fun _ => ?_)
    · intro y0 y1 y2
      unfold spec_LoopOf.l0
      repeat' first
      | (with_reducible exact ih0 _ _ _ _)
      | (with_reducible exact ih1 _ _ _)
      | (with_reducible exact ih2 _ _ _ _ _ _ _)
      | (with_reducible exact ih3 _ _ _ _ _ _ _ _ _ _ _)
      | (with_reducible exact spec_GoodGraph.mono _ _)
      | (with_reducible exact spec_l1Has.mono _ _ _)
      | (with_reducible exact spec_l1Put.mono _ _ _)
      | (with_reducible exact LeO.refl _)
      | (with_reducible exact LeO.none _)
      | (with_reducible refine LeO.ite ?_ ?_)
      | (with_reducible refine LeO.bind ?_ (fun _ => ?_))
      | exact ih0 _ _ _ _
      | exact ih1 _ _ _
      | exact ih2 _ _ _ _ _ _ _
      | exact ih3 _ _ _ _ _ _ _ _ _ _ _
      | exact spec_GoodGraph.mono _ _
      | exact spec_l1Has.mono _ _ _
      | exact spec_l1Put.mono _ _ _
      | exact LeO.none _
      | refine LeO.ite ?_ ?_
      | refine LeO.bind ?_ (fun _ => ?_)
    · intro y0 y1 y2 y3 y4 y5 y6
      unfold spec_LoopOf.l1
      repeat' first
      | (with_reducible exact ih0 _ _ _ _)
      | (with_reducible exact ih1 _ _ _)
      | (with_reducible exact ih2 _ _ _ _ _ _ _)
      | (with_reducible exact ih3 _ _ _ _ _ _ _ _ _ _ _)
      | (with_reducible exact spec_GoodGraph.mono _ _)
      | (with_reducible exact spec_l1Has.mono _ _ _)
      | (with_reducible exact spec_l1Put.mono _ _ _)
      | (with_reducible exact LeO.refl _)
      | (with_reducible exact LeO.none _)
      | (with_reducible refine LeO.ite ?_ ?_)
      | (with_reducible refine LeO.bind ?_ (fun _ => ?_))
      | exact ih0 _ _ _ _
      | exact ih1 _ _ _
      | exact ih2 _ _ _ _ _ _ _
      | exact ih3 _ _ _ _ _ _ _ _ _ _ _
      | exact spec_GoodGraph.mono _ _
      | exact spec_l1Has.mono _ _ _
      | exact spec_l1Put.mono _ _ _
      | exact LeO.none _
      | refine LeO.ite ?_ ?_
      | refine LeO.bind ?_ (fun _ => ?_)
    · intro y0 y1 y2 y3 y4 y5 y6 y7 y8 y9 y10
      unfold spec_LoopOf.l2
      repeat' first
      | (with_reducible exact ih0 _ _ _ _)
      | (with_reducible exact ih1 _ _ _)
      | (with_reducible exact ih2 _ _ _ _ _ _ _)
      | (with_reducible exact ih3 _ _ _ _ _ _ _ _ _ _ _)
      | (with_reducible exact spec_GoodGraph.mono _ _)
      | (with_reducible exact spec_l1Has.mono _ _ _)
      | (with_reducible exact spec_l1Put.mono _ _ _)
      | (with_reducible exact LeO.refl _)
      | (with_reducible exact LeO.none _)
      | (with_reducible refine LeO.ite ?_ ?_)
      | (with_reducible refine LeO.bind ?_ (fun _ => ?_))
      | exact ih0 _ _ _ _
      | exact ih1 _ _ _
      | exact ih2 _ _ _ _ _ _ _
      | exact ih3 _ _ _ _ _ _ _ _ _ _ _
      | exact spec_GoodGraph.mono _ _
      | exact spec_l1Has.mono _ _ _
      | exact spec_l1Put.mono _ _ _
      | exact LeO.none _
      | refine LeO.ite ?_ ?_
      | refine LeO.bind ?_ (fun _ => ?_)
theorem spec_LoopOf.mono : ∀ a0 a1 a2 k, LeO (spec_LoopOf.f k a0 a1 a2) (spec_LoopOf.f (k + 1) a0 a1 a2) := by
  intro a0 a1 a2 k
  obtain ⟨ih0, ih1, ih2, ih3⟩ := spec_LoopOf.mono_l k
  unfold spec_LoopOf.f
  repeat' first
      | (with_reducible exact ih0 _ _ _ _)
      | (with_reducible exact ih1 _ _ _)
      | (with_reducible exact ih2 _ _ _ _ _ _ _)
      | (with_reducible exact ih3 _ _ _ _ _ _ _ _ _ _ _)
      | (with_reducible exact spec_GoodGraph.mono _ _)
      | (with_reducible exact spec_l1Has.mono _ _ _)
      | (with_reducible exact spec_l1Put.mono _ _ _)
      | (with_reducible exact LeO.refl _)
      | (with_reducible exact LeO.none _)
      | (with_reducible refine LeO.ite ?_ ?_)
      | (with_reducible refine LeO.bind ?_ (fun _ => ?_))
      | exact ih0 _ _ _ _
      | exact ih1 _ _ _
      | exact ih2 _ _ _ _ _ _ _
      | exact ih3 _ _ _ _ _ _ _ _ _ _ _
      | exact spec_GoodGraph.mono _ _
      | exact spec_l1Has.mono _ _ _
      | exact spec_l1Put.mono _ _ _
      | exact LeO.none _
      | refine LeO.ite ?_ ?_
      | refine LeO.bind ?_ (fun _ => ?_)
set_option maxHeartbeats 8000000 in
set_option maxRecDepth 100000 in
theorem spec_LoopOf.calls (k : Nat) (A0_0 : Option Addr) (c0_0 : Nat) (l0_0 : List (List Int)) (a1 : Int) (a2 : Int) (r1 : List Int) (r2 : Bool) (w : World) (hr0_0 : Kd.C (Kd.slice 3 (Kd.int .i64)) w A0_0 l0_0.length l0_0) (hc0_0 : l0_0.length ≤ c0_0) (h : spec_LoopOf.f k l0_0 a1 a2 = some (r1, r2)) :
    Calls Try.prog 42 #[.agg #[.slice A0_0 l0_0.length c0_0], .int .i64 a1, .int .i64 a2] w fun e w' => ∃ v0_ : Value, e = .returned (.tuple #[v0_, .bool r2]) ∧ Kd.R (Kd.int .i64) 3 w' w.heap.size (fun _ => True) v0_ r1 ∧ Below w.heap.size w w' := by
  have hu27 := Try.underlying27
  have HR0_0 := Aside0.mk hr0_0
  have HC0_0 := Aside0.mk hc0_0
  clear hr0_0 hc0_0
  have HB := Aside0.mk (Below.refl w.heap.size w)
  have H : ((spec_GoodGraph.f k l0_0).bind fun t313 => (if t313 = true then (if a1 < 0 then (spec_LoopOf.j0 k a1 a2 true l0_0) else (if a1 ≥ (l0_0.length : Int) then (spec_LoopOf.j0 k a1 a2 true l0_0) else (if a2 < 0 then (spec_LoopOf.j0 k a1 a2 true l0_0) else (if a2 ≥ (l0_0.length : Int) then (spec_LoopOf.j0 k a1 a2 true l0_0) else (if 0 ≤ a1 then (if a1 < (l0_0.length : Int) then ((spec_l1Has.f k (rd_L1 l0_0 a1) a2).bind fun t315 => (if t315 = true then ((spec_l10Dominators.f l0_0).bind fun t316 => (if a1 < (t316.length : Int) then ((spec_l1Has.f k (rd_L1 t316 a1) a2).bind fun t320 => (spec_LoopOf.j0 k a1 a2 (!t320) l0_0)) else (none))) else (spec_LoopOf.j0 k a1 a2 true l0_0))) else (none)) else (none)))))) else (spec_LoopOf.j0 k a1 a2 true l0_0))) = some (r1, r2) := h
  clear h
  have HC4 := Aside0.mk H
  clear H
  go_enter Try.func42, Try.ntmps42
  go_upto_region 2 with (first | ((with_reducible refine gate_dst (N := 3) rfl ?_); refine box_event ?hg (N := 3) ?hd (cs := #[.slice A0_0 l0_0.length c0_0]) (t := 27) ?hr ?_; (case hd => rfl); (case hg => rfl); (case hr => first | (go_simp; done) | (go_simp; rfl)); intro gb312 hg w5 hbox hb; have n0_ := Aside0.mk (below_step (by repeat (first | (with_reducible first | exact HB.out | apply below_alloc | apply pw_below_drewN | apply below_drew1) | exact HB.out)) hb); have n1_ := Aside0.mk (hbox); have n2_ := Aside0.mk ((by rw [hg]; exact (below_size (by repeat (first | (with_reducible first | exact HB.out | apply below_alloc | apply pw_below_drewN | apply below_drew1) | exact HB.out))) : w.heap.size ≤ gb312)); have n3_ := Aside0.mk ((by rw [hg]; exact (below_size (by repeat (first | (with_reducible first | exact HB.out | apply below_alloc | apply pw_below_drewN | apply below_drew1) | exact HB.out))) : w.heap.size ≤ gb312)); clear HB; have HB := n0_; have BK312 := n1_; have GW312 := n2_; have GE312 := n3_; clear n0_ n1_ n2_ n3_; clear hb hbox hg; have hcz6_0 : w5.cell? ⟨gb312, 0, none⟩ = some (.slice A0_0 l0_0.length c0_0) := (blk_cell BK312.out 0).trans rfl; have hfz6_0 := blk_frozen BK312.out 0))
  (try simp only [Act.put, List.setIfInBounds_toArray, List.set_cons_zero, List.set_cons_succ])
  go_cut [58] (fun v58 wc => ∃ (kq : Nat) (x58_3 : Bool), v58 = .bool x58_3 ∧ Aside0 (spec_LoopOf.j0 kq a1 a2 x58_3 l0_0 = some (r1, r2)) ∧ Aside0 (kq ≤ k) ∧ Aside0 (wc.heap[gb312]? = some (.cells #[(.slice A0_0 l0_0.length c0_0)] 27 (0, 0))) ∧ Aside0 (Below w.heap.size w wc))
  case first =>
    have H := HC4.out
    clear HC4
    replace H := Option.bind_eq_some_iff.mp H
    obtain ⟨t313, A70, H⟩ := H
    replace H : (if t313 = true then (if a1 < 0 then (spec_LoopOf.j0 k a1 a2 true l0_0) else (if a1 ≥ (l0_0.length : Int) then (spec_LoopOf.j0 k a1 a2 true l0_0) else (if a2 < 0 then (spec_LoopOf.j0 k a1 a2 true l0_0) else (if a2 ≥ (l0_0.length : Int) then (spec_LoopOf.j0 k a1 a2 true l0_0) else (if 0 ≤ a1 then (if a1 < (l0_0.length : Int) then ((spec_l1Has.f k (rd_L1 l0_0 a1) a2).bind fun t315 => (if t315 = true then ((spec_l10Dominators.f l0_0).bind fun t316 => (if a1 < (t316.length : Int) then ((spec_l1Has.f k (rd_L1 t316 a1) a2).bind fun t320 => (spec_LoopOf.j0 k a1 a2 (!t320) l0_0)) else (none))) else (spec_LoopOf.j0 k a1 a2 true l0_0))) else (none)) else (none)))))) else (spec_LoopOf.j0 k a1 a2 true l0_0)) = some (r1, r2) := H
    have A7 := Aside0.mk A70
    clear A70
    by_cases c8 : t313 = true
    · subst c8
      have H1 : (if a1 < 0 then (spec_LoopOf.j0 k a1 a2 true l0_0) else (if a1 ≥ (l0_0.length : Int) then (spec_LoopOf.j0 k a1 a2 true l0_0) else (if a2 < 0 then (spec_LoopOf.j0 k a1 a2 true l0_0) else (if a2 ≥ (l0_0.length : Int) then (spec_LoopOf.j0 k a1 a2 true l0_0) else (if 0 ≤ a1 then (if a1 < (l0_0.length : Int) then ((spec_l1Has.f k (rd_L1 l0_0 a1) a2).bind fun t315 => (if t315 = true then ((spec_l10Dominators.f l0_0).bind fun t316 => (if a1 < (t316.length : Int) then ((spec_l1Has.f k (rd_L1 t316 a1) a2).bind fun t320 => (spec_LoopOf.j0 k a1 a2 (!t320) l0_0)) else (none))) else (spec_LoopOf.j0 k a1 a2 true l0_0))) else (none)) else (none)))))) = some (r1, r2) := by rw [if_pos rfl] at H; exact H
      clear H
      have H := H1
      clear H1
      by_cases c9 : a1 < 0
      · rw [if_pos c9] at H
        have c9b0 : decide (a1 < 0) = true := decide_eq_true c9
        clear c9
        (first | rw [c9b0] | (simp only [i64_w, i32_w]; rw [c9b0]) | skip)
        have H' := Aside0.mk H
        clear H
        have hcz10_0 : w5.cell? ⟨gb312, 0, none⟩ = some (.slice A0_0 l0_0.length c0_0) := (blk_cell BK312.out 0).trans rfl
        have hfz10_0 := blk_frozen BK312.out 0
        go_wp2_with (first | ((with_reducible refine gate_callee (f := 16) rfl ?_); refine goesL_ (some 19) rfl rfl Try.func16 (by kernel_rfl) rfl #[.agg #[.slice A0_0 l0_0.length c0_0]] rfl (by (try simp only [List.map_toArray, List.map_cons, List.map_nil]); first | done | rfl | (simp only [List.length_drop, List.length_take]; rfl)) ?_; (with_reducible refine (spec_GoodGraph.calls k _ _ l0_0 true _ ?side1 ?side2 A7.out).mono ?_); (case side1 => repeat (first | exact (Kd.C_below HR0_0.out HB.out) | (with_reducible refine Kd.C_alloc ?_ _) | (with_reducible refine Kd.C_drewN ?_ _) | (with_reducible refine Kd.C_drew ?_))); (case side2 => exact HC0_0.out); rintro e w11 ⟨rfl, hb⟩; refine ⟨_, rfl, ?_⟩; have n0_ := Aside0.mk (blk_below (g := gb312) (o := .cells #[.slice A0_0 l0_0.length c0_0] 27 (0, 0)) (by (with_reducible repeat (first | refine blk_drewN ?_ _ | refine blk_drew ?_ | refine blk_alloc ?_ _)); exact BK312.out) hb); have n1_ := Aside0.mk (below_step (by repeat (first | (with_reducible first | exact HB.out | apply below_alloc | apply pw_below_drewN | apply below_drew1 | refine below_set ?_ GE312.out) | exact HB.out)) hb); clear BK312; clear HB; have BK312 := n0_; have HB := n1_; clear n0_ n1_; (try clear hb); (try clear hb2); (try clear hk); (try clear hi)))
        go_meet
        case rel => exact ⟨_, (true), (by first | rfl | (simp; done) | (simp [*]; done)), H', ⟨by first | omega | exact Nat.le_refl _⟩, ⟨by (with_reducible repeat (first | refine blk_drewN ?_ _ | refine blk_drew ?_ | refine blk_alloc ?_ _)); exact BK312.out⟩, ⟨by repeat (first | (with_reducible first | exact HB.out | apply below_alloc | apply pw_below_drewN | apply below_drew1 | refine below_set ?_ GE312.out) | exact HB.out)⟩⟩
      · rw [if_neg c9] at H
        have c9b0 : decide (a1 < 0) = false := decide_eq_false c9
        clear c9
        (first | rw [c9b0] | (simp only [i64_w, i32_w]; rw [c9b0]) | skip)
        by_cases c12 : a1 ≥ (l0_0.length : Int)
        · rw [if_pos c12] at H
          have c12b0 : decide ((l0_0.length : Int) ≤ a1) = true := decide_eq_true c12
          clear c12
          have H' := Aside0.mk H
          clear H
          have hcz13_0 : w5.cell? ⟨gb312, 0, none⟩ = some (.slice A0_0 l0_0.length c0_0) := (blk_cell BK312.out 0).trans rfl
          have hfz13_0 := blk_frozen BK312.out 0
          go_wp2_with (first | ((with_reducible refine gate_callee (f := 16) rfl ?_); refine goesL_ (some 19) rfl rfl Try.func16 (by kernel_rfl) rfl #[.agg #[.slice A0_0 l0_0.length c0_0]] rfl (by (try simp only [List.map_toArray, List.map_cons, List.map_nil]); first | done | rfl | (simp only [List.length_drop, List.length_take]; rfl)) ?_; (with_reducible refine (spec_GoodGraph.calls k _ _ l0_0 true _ ?side1 ?side2 A7.out).mono ?_); (case side1 => repeat (first | exact (Kd.C_below HR0_0.out HB.out) | (with_reducible refine Kd.C_alloc ?_ _) | (with_reducible refine Kd.C_drewN ?_ _) | (with_reducible refine Kd.C_drew ?_))); (case side2 => exact HC0_0.out); rintro e w14 ⟨rfl, hb⟩; refine ⟨_, rfl, ?_⟩; have n0_ := Aside0.mk (blk_below (g := gb312) (o := .cells #[.slice A0_0 l0_0.length c0_0] 27 (0, 0)) (by (with_reducible repeat (first | refine blk_drewN ?_ _ | refine blk_drew ?_ | refine blk_alloc ?_ _)); exact BK312.out) hb); have n1_ := Aside0.mk (below_step (by repeat (first | (with_reducible first | exact HB.out | apply below_alloc | apply pw_below_drewN | apply below_drew1 | refine below_set ?_ GE312.out) | exact HB.out)) hb); clear BK312; clear HB; have BK312 := n0_; have HB := n1_; clear n0_ n1_; (try clear hb); (try clear hb2); (try clear hk); (try clear hi)))
          go_meet
          case rel => exact ⟨_, (true), (by first | rfl | (simp; done) | (simp [*]; done)), H', ⟨by first | omega | exact Nat.le_refl _⟩, ⟨by (with_reducible repeat (first | refine blk_drewN ?_ _ | refine blk_drew ?_ | refine blk_alloc ?_ _)); exact BK312.out⟩, ⟨by repeat (first | (with_reducible first | exact HB.out | apply below_alloc | apply pw_below_drewN | apply below_drew1 | refine below_set ?_ GE312.out) | exact HB.out)⟩⟩
        · rw [if_neg c12] at H
          have c12b0 : decide ((l0_0.length : Int) ≤ a1) = false := decide_eq_false c12
          clear c12
          by_cases c15 : a2 < 0
          · rw [if_pos c15] at H
            have c15b0 : decide (a2 < 0) = true := decide_eq_true c15
            clear c15
            have H' := Aside0.mk H
            clear H
            have hcz16_0 : w5.cell? ⟨gb312, 0, none⟩ = some (.slice A0_0 l0_0.length c0_0) := (blk_cell BK312.out 0).trans rfl
            have hfz16_0 := blk_frozen BK312.out 0
            go_wp2_with (first | ((with_reducible refine gate_callee (f := 16) rfl ?_); refine goesL_ (some 19) rfl rfl Try.func16 (by kernel_rfl) rfl #[.agg #[.slice A0_0 l0_0.length c0_0]] rfl (by (try simp only [List.map_toArray, List.map_cons, List.map_nil]); first | done | rfl | (simp only [List.length_drop, List.length_take]; rfl)) ?_; (with_reducible refine (spec_GoodGraph.calls k _ _ l0_0 true _ ?side1 ?side2 A7.out).mono ?_); (case side1 => repeat (first | exact (Kd.C_below HR0_0.out HB.out) | (with_reducible refine Kd.C_alloc ?_ _) | (with_reducible refine Kd.C_drewN ?_ _) | (with_reducible refine Kd.C_drew ?_))); (case side2 => exact HC0_0.out); rintro e w17 ⟨rfl, hb⟩; refine ⟨_, rfl, ?_⟩; have n0_ := Aside0.mk (blk_below (g := gb312) (o := .cells #[.slice A0_0 l0_0.length c0_0] 27 (0, 0)) (by (with_reducible repeat (first | refine blk_drewN ?_ _ | refine blk_drew ?_ | refine blk_alloc ?_ _)); exact BK312.out) hb); have n1_ := Aside0.mk (below_step (by repeat (first | (with_reducible first | exact HB.out | apply below_alloc | apply pw_below_drewN | apply below_drew1 | refine below_set ?_ GE312.out) | exact HB.out)) hb); clear BK312; clear HB; have BK312 := n0_; have HB := n1_; clear n0_ n1_; (try clear hb); (try clear hb2); (try clear hk); (try clear hi)))
            go_meet
            case rel => exact ⟨_, (true), (by first | rfl | (simp; done) | (simp [*]; done)), H', ⟨by first | omega | exact Nat.le_refl _⟩, ⟨by (with_reducible repeat (first | refine blk_drewN ?_ _ | refine blk_drew ?_ | refine blk_alloc ?_ _)); exact BK312.out⟩, ⟨by repeat (first | (with_reducible first | exact HB.out | apply below_alloc | apply pw_below_drewN | apply below_drew1 | refine below_set ?_ GE312.out) | exact HB.out)⟩⟩
          · rw [if_neg c15] at H
            have c15b0 : decide (a2 < 0) = false := decide_eq_false c15
            clear c15
            by_cases c18 : a2 ≥ (l0_0.length : Int)
            · rw [if_pos c18] at H
              have c18b0 : decide ((l0_0.length : Int) ≤ a2) = true := decide_eq_true c18
              clear c18
              have H' := Aside0.mk H
              clear H
              have hcz19_0 : w5.cell? ⟨gb312, 0, none⟩ = some (.slice A0_0 l0_0.length c0_0) := (blk_cell BK312.out 0).trans rfl
              have hfz19_0 := blk_frozen BK312.out 0
              go_wp2_with (first | ((with_reducible refine gate_callee (f := 16) rfl ?_); refine goesL_ (some 19) rfl rfl Try.func16 (by kernel_rfl) rfl #[.agg #[.slice A0_0 l0_0.length c0_0]] rfl (by (try simp only [List.map_toArray, List.map_cons, List.map_nil]); first | done | rfl | (simp only [List.length_drop, List.length_take]; rfl)) ?_; (with_reducible refine (spec_GoodGraph.calls k _ _ l0_0 true _ ?side1 ?side2 A7.out).mono ?_); (case side1 => repeat (first | exact (Kd.C_below HR0_0.out HB.out) | (with_reducible refine Kd.C_alloc ?_ _) | (with_reducible refine Kd.C_drewN ?_ _) | (with_reducible refine Kd.C_drew ?_))); (case side2 => exact HC0_0.out); rintro e w20 ⟨rfl, hb⟩; refine ⟨_, rfl, ?_⟩; have n0_ := Aside0.mk (blk_below (g := gb312) (o := .cells #[.slice A0_0 l0_0.length c0_0] 27 (0, 0)) (by (with_reducible repeat (first | refine blk_drewN ?_ _ | refine blk_drew ?_ | refine blk_alloc ?_ _)); exact BK312.out) hb); have n1_ := Aside0.mk (below_step (by repeat (first | (with_reducible first | exact HB.out | apply below_alloc | apply pw_below_drewN | apply below_drew1 | refine below_set ?_ GE312.out) | exact HB.out)) hb); clear BK312; clear HB; have BK312 := n0_; have HB := n1_; clear n0_ n1_; (try clear hb); (try clear hb2); (try clear hk); (try clear hi)))
              go_meet
              case rel => exact ⟨_, (true), (by first | rfl | (simp; done) | (simp [*]; done)), H', ⟨by first | omega | exact Nat.le_refl _⟩, ⟨by (with_reducible repeat (first | refine blk_drewN ?_ _ | refine blk_drew ?_ | refine blk_alloc ?_ _)); exact BK312.out⟩, ⟨by repeat (first | (with_reducible first | exact HB.out | apply below_alloc | apply pw_below_drewN | apply below_drew1 | refine below_set ?_ GE312.out) | exact HB.out)⟩⟩
            · rw [if_neg c18] at H
              have c18b0 : decide ((l0_0.length : Int) ≤ a2) = false := decide_eq_false c18
              clear c18
              by_cases c21 : 0 ≤ a1
              · rw [if_pos c21] at H
                have c21b0 : decide (0 ≤ a1) = true := decide_eq_true c21
                clear c21
                by_cases c22 : a1 < (l0_0.length : Int)
                · rw [if_pos c22] at H
                  have c22b0 : decide (a1 < (l0_0.length : Int)) = true := decide_eq_true c22
                  clear c22
                  replace H := Option.bind_eq_some_iff.mp H
                  obtain ⟨t315, A230, H⟩ := H
                  replace H : (if t315 = true then ((spec_l10Dominators.f l0_0).bind fun t316 => (if a1 < (t316.length : Int) then ((spec_l1Has.f k (rd_L1 t316 a1) a2).bind fun t320 => (spec_LoopOf.j0 k a1 a2 (!t320) l0_0)) else (none))) else (spec_LoopOf.j0 k a1 a2 true l0_0)) = some (r1, r2) := H
                  have A23 := Aside0.mk A230
                  clear A230
                  by_cases c24 : t315 = true
                  · subst c24
                    have H1 : ((spec_l10Dominators.f l0_0).bind fun t316 => (if a1 < (t316.length : Int) then ((spec_l1Has.f k (rd_L1 t316 a1) a2).bind fun t320 => (spec_LoopOf.j0 k a1 a2 (!t320) l0_0)) else (none))) = some (r1, r2) := by rw [if_pos rfl] at H; exact H
                    clear H
                    have H := H1
                    clear H1
                    replace H := Option.bind_eq_some_iff.mp H
                    obtain ⟨t316, A250, H⟩ := H
                    replace H : (if a1 < (t316.length : Int) then ((spec_l1Has.f k (rd_L1 t316 a1) a2).bind fun t320 => (spec_LoopOf.j0 k a1 a2 (!t320) l0_0)) else (none)) = some (r1, r2) := H
                    have A25 := Aside0.mk A250
                    clear A250
                    by_cases c26 : a1 < (t316.length : Int)
                    · rw [if_pos c26] at H
                      have c26b0 : decide (a1 < (t316.length : Int)) = true := decide_eq_true c26
                      clear c26
                      replace H := Option.bind_eq_some_iff.mp H
                      obtain ⟨t320, A270, H⟩ := H
                      replace H : (spec_LoopOf.j0 k a1 a2 (!t320) l0_0) = some (r1, r2) := H
                      have A27 := Aside0.mk A270
                      clear A270
                      have H' := Aside0.mk H
                      clear H
                      have hcz28_0 : w5.cell? ⟨gb312, 0, none⟩ = some (.slice A0_0 l0_0.length c0_0) := (blk_cell BK312.out 0).trans rfl
                      have hfz28_0 := blk_frozen BK312.out 0
                      go_wp2_with (first | ((with_reducible refine gate_callee (f := 16) rfl ?_); refine goesL_ (some 19) rfl rfl Try.func16 (by kernel_rfl) rfl #[.agg #[.slice A0_0 l0_0.length c0_0]] rfl (by (try simp only [List.map_toArray, List.map_cons, List.map_nil]); first | done | rfl | (simp only [List.length_drop, List.length_take]; rfl)) ?_; (with_reducible refine (spec_GoodGraph.calls k _ _ l0_0 true _ ?side1 ?side2 A7.out).mono ?_); (case side1 => repeat (first | exact (Kd.C_below HR0_0.out HB.out) | (with_reducible refine Kd.C_alloc ?_ _) | (with_reducible refine Kd.C_drewN ?_ _) | (with_reducible refine Kd.C_drew ?_))); (case side2 => exact HC0_0.out); rintro e w29 ⟨rfl, hb⟩; refine ⟨_, rfl, ?_⟩; have n0_ := Aside0.mk (blk_below (g := gb312) (o := .cells #[.slice A0_0 l0_0.length c0_0] 27 (0, 0)) (by (with_reducible repeat (first | refine blk_drewN ?_ _ | refine blk_drew ?_ | refine blk_alloc ?_ _)); exact BK312.out) hb); have n1_ := Aside0.mk (below_step (by repeat (first | (with_reducible first | exact HB.out | apply below_alloc | apply pw_below_drewN | apply below_drew1 | refine below_set ?_ GE312.out) | exact HB.out)) hb); clear BK312; clear HB; have BK312 := n0_; have HB := n1_; clear n0_ n1_; (try clear hb); (try clear hb2); (try clear hk); (try clear hi); have hcz30_0 : w29.cell? ⟨gb312, 0, none⟩ = some (.slice A0_0 l0_0.length c0_0) := (blk_cell BK312.out 0).trans rfl; have hfz30_0 := blk_frozen BK312.out 0; have p314 : 0 ≤ (a1 : Int) := of_decide_eq_true (by first | (with_reducible assumption) | assumption); have q314 : a1 < (l0_0.length : Int) := of_decide_eq_true (by first | (with_reducible assumption) | assumption); obtain ⟨ad314, A314_0, c314_0, e314, hx314_0, hl314_0, hi314_0⟩ := at_L1 HR0_0.out a1 p314 q314; cases e314; replace hx314_0 := (HB.out.cell (World.block_lt_of_cell? w _ hx314_0)).trans hx314_0; have HR314_0 := Aside0.mk hi314_0; have HC314_0 := Aside0.mk hl314_0; clear hi314_0 hl314_0; replace p314 := eq_true p314; replace q314 := eq_true q314) | (go_at_call 65; (with_reducible refine (spec_l1Has.calls k _ _ (rd_L1 l0_0 a1) a2 true _ ?side1 ?side2 A23.out).mono ?_); (case side1 => repeat (first | exact (Kd.C_below HR314_0.out HB.out) | (with_reducible refine Kd.C_alloc ?_ _) | (with_reducible refine Kd.C_drewN ?_ _) | (with_reducible refine Kd.C_drew ?_))); (case side2 => exact HC314_0.out); rintro e w' ⟨rfl, ⟨nd, rfl⟩⟩) | (go_at_call 64; (with_reducible refine (spec_l10Dominators.calls _ _ l0_0 t316 _ ?side1 ?side2 A25.out).mono ?_); (case side1 => repeat (first | exact (Kd.C_below HR0_0.out (by repeat (first | (with_reducible first | exact HB.out | apply below_alloc | apply pw_below_drewN | apply below_drew1 | refine below_set ?_ GE312.out) | exact HB.out))) | (with_reducible refine Kd.C_alloc ?_ _) | (with_reducible refine Kd.C_drewN ?_ _) | (with_reducible refine Kd.C_drew ?_))); (case side2 => exact HC0_0.out); rintro e w31 ⟨v317, rfl, ho0, hb⟩; have n0_ := Aside0.mk (Kd.S_lower ho0 (below_size (by repeat (first | (with_reducible first | exact HB.out | apply below_alloc | apply pw_below_drewN | apply below_drew1 | refine below_set ?_ GE312.out) | exact HB.out)))); have n1_ := Aside0.mk (blk_below (g := gb312) (o := .cells #[.slice (some ad314) l0_0.length c0_0] 27 (0, 0)) (by (with_reducible repeat (first | refine blk_drewN ?_ _ | refine blk_drew ?_ | refine blk_alloc ?_ _)); exact BK312.out) hb); have n2_ := Aside0.mk (below_step (by repeat (first | (with_reducible first | exact HB.out | apply below_alloc | apply pw_below_drewN | apply below_drew1 | refine below_set ?_ GE312.out) | exact HB.out)) hb); clear BK312; clear HB; have HO318 := n0_; have BK312 := n1_; have HB := n2_; clear n0_ n1_ n2_; (try clear hb); (try clear hb2); (try clear hk); (try clear hi); (try clear ho0); obtain ⟨Ao32, co32, eo32⟩ := Kd.S_slice HO318.out; subst eo32; have p319 : 0 ≤ (a1 : Int) := of_decide_eq_true (by first | (with_reducible assumption) | assumption); have q319 : a1 < (t316.length : Int) := of_decide_eq_true (by first | (with_reducible assumption) | assumption); obtain ⟨ad319, A319_0, c319_0, e319, hx319_0, hl319_0, hi319_0⟩ := at_L1 (Kd.S_reads' HO318.out).2.2 a1 p319 q319; cases e319; obtain ⟨ce319, hce319, hMe319, hcc319⟩ := Kd.S_get HO318.out [] a1 p319 (by first | exact q319 | exact of_decide_eq_true (by first | (with_reducible assumption) | assumption) | (have e_ := (Kd.S_reads' HO318.out).1; omega)); obtain ⟨ve319_0, rfl, ge319_0⟩ := hMe319; have hv319_0 := hcc319 0 _ rfl; rw [Nat.add_zero, show ((Kd.slice 3 (Kd.int .i64))).sz = 1 from rfl, Nat.mul_one] at hv319_0; replace hv319_0 := Option.some.inj (hv319_0.symm.trans hx319_0); rw [hv319_0] at ge319_0; have HL319_0 := Aside0.mk (show Kd.R (Kd.int .i64) 3 _ _ _ _ (rd_L1 t316 a1) from ge319_0); clear hv319_0 ge319_0; clear hcc319 hce319; have HR319_0 := Aside0.mk hi319_0; have HC319_0 := Aside0.mk hl319_0; clear hi319_0 hl319_0; replace p319 := eq_true p319; replace q319 := eq_true q319) | (go_at_call 65; (with_reducible refine (spec_l1Has.calls k _ _ (rd_L1 t316 a1) a2 t320 _ ?side1 ?side2 A27.out).mono ?_); (case side1 => repeat (first | exact (by repeat (first | (with_reducible exact HR319_0.out) | (with_reducible refine Kd.C_alloc ?_ _) | (with_reducible refine Kd.C_drewN ?_ _) | (with_reducible refine Kd.C_drew ?_) | exact HR319_0.out)) | (with_reducible refine Kd.C_alloc ?_ _) | (with_reducible refine Kd.C_drewN ?_ _) | (with_reducible refine Kd.C_drew ?_))); (case side2 => exact HC319_0.out); rintro e w' ⟨rfl, ⟨nd, rfl⟩⟩))
                      go_meet
                      case rel => exact ⟨_, (!t320), (by first | rfl | (simp; done) | (simp [*]; done)), H', ⟨by first | omega | exact Nat.le_refl _⟩, ⟨by (with_reducible repeat (first | refine blk_drewN ?_ _ | refine blk_drew ?_ | refine blk_alloc ?_ _)); exact BK312.out⟩, ⟨by repeat (first | (with_reducible first | exact HB.out | apply below_alloc | apply pw_below_drewN | apply below_drew1 | refine below_set ?_ GE312.out) | exact HB.out)⟩⟩
                    · rw [if_neg c26] at H
                      exact absurd H (by simp)
                  · replace c24 := Bool.eq_false_iff.mpr c24
                    subst c24
                    have H1 : (spec_LoopOf.j0 k a1 a2 true l0_0) = some (r1, r2) := by rw [if_neg (show ¬ (false = true) by decide)] at H; exact H
                    clear H
                    have H := H1
                    clear H1
                    have H' := Aside0.mk H
                    clear H
                    have hcz33_0 : w5.cell? ⟨gb312, 0, none⟩ = some (.slice A0_0 l0_0.length c0_0) := (blk_cell BK312.out 0).trans rfl
                    have hfz33_0 := blk_frozen BK312.out 0
                    go_wp2_with (first | ((with_reducible refine gate_callee (f := 16) rfl ?_); refine goesL_ (some 19) rfl rfl Try.func16 (by kernel_rfl) rfl #[.agg #[.slice A0_0 l0_0.length c0_0]] rfl (by (try simp only [List.map_toArray, List.map_cons, List.map_nil]); first | done | rfl | (simp only [List.length_drop, List.length_take]; rfl)) ?_; (with_reducible refine (spec_GoodGraph.calls k _ _ l0_0 true _ ?side1 ?side2 A7.out).mono ?_); (case side1 => repeat (first | exact (Kd.C_below HR0_0.out HB.out) | (with_reducible refine Kd.C_alloc ?_ _) | (with_reducible refine Kd.C_drewN ?_ _) | (with_reducible refine Kd.C_drew ?_))); (case side2 => exact HC0_0.out); rintro e w34 ⟨rfl, hb⟩; refine ⟨_, rfl, ?_⟩; have n0_ := Aside0.mk (blk_below (g := gb312) (o := .cells #[.slice A0_0 l0_0.length c0_0] 27 (0, 0)) (by (with_reducible repeat (first | refine blk_drewN ?_ _ | refine blk_drew ?_ | refine blk_alloc ?_ _)); exact BK312.out) hb); have n1_ := Aside0.mk (below_step (by repeat (first | (with_reducible first | exact HB.out | apply below_alloc | apply pw_below_drewN | apply below_drew1 | refine below_set ?_ GE312.out) | exact HB.out)) hb); clear BK312; clear HB; have BK312 := n0_; have HB := n1_; clear n0_ n1_; (try clear hb); (try clear hb2); (try clear hk); (try clear hi); have hcz35_0 : w34.cell? ⟨gb312, 0, none⟩ = some (.slice A0_0 l0_0.length c0_0) := (blk_cell BK312.out 0).trans rfl; have hfz35_0 := blk_frozen BK312.out 0; have p314 : 0 ≤ (a1 : Int) := of_decide_eq_true (by first | (with_reducible assumption) | assumption); have q314 : a1 < (l0_0.length : Int) := of_decide_eq_true (by first | (with_reducible assumption) | assumption); obtain ⟨ad314, A314_0, c314_0, e314, hx314_0, hl314_0, hi314_0⟩ := at_L1 HR0_0.out a1 p314 q314; cases e314; replace hx314_0 := (HB.out.cell (World.block_lt_of_cell? w _ hx314_0)).trans hx314_0; have HR314_0 := Aside0.mk hi314_0; have HC314_0 := Aside0.mk hl314_0; clear hi314_0 hl314_0; replace p314 := eq_true p314; replace q314 := eq_true q314) | (go_at_call 65; (with_reducible refine (spec_l1Has.calls k _ _ (rd_L1 l0_0 a1) a2 false _ ?side1 ?side2 A23.out).mono ?_); (case side1 => repeat (first | exact (Kd.C_below HR314_0.out HB.out) | (with_reducible refine Kd.C_alloc ?_ _) | (with_reducible refine Kd.C_drewN ?_ _) | (with_reducible refine Kd.C_drew ?_))); (case side2 => exact HC314_0.out); rintro e w' ⟨rfl, ⟨nd, rfl⟩⟩))
                    go_meet
                    case rel => exact ⟨_, (true), (by first | rfl | (simp; done) | (simp [*]; done)), H', ⟨by first | omega | exact Nat.le_refl _⟩, ⟨by (with_reducible repeat (first | refine blk_drewN ?_ _ | refine blk_drew ?_ | refine blk_alloc ?_ _)); exact BK312.out⟩, ⟨by repeat (first | (with_reducible first | exact HB.out | apply below_alloc | apply pw_below_drewN | apply below_drew1 | refine below_set ?_ GE312.out) | exact HB.out)⟩⟩
                · rw [if_neg c22] at H
                  exact absurd H (by simp)
              · rw [if_neg c21] at H
                exact absurd H (by simp)
    · replace c8 := Bool.eq_false_iff.mpr c8
      subst c8
      have H1 : (spec_LoopOf.j0 k a1 a2 true l0_0) = some (r1, r2) := by rw [if_neg (show ¬ (false = true) by decide)] at H; exact H
      clear H
      have H := H1
      clear H1
      have H' := Aside0.mk H
      clear H
      have hcz36_0 : w5.cell? ⟨gb312, 0, none⟩ = some (.slice A0_0 l0_0.length c0_0) := (blk_cell BK312.out 0).trans rfl
      have hfz36_0 := blk_frozen BK312.out 0
      go_wp2_with (first | ((with_reducible refine gate_callee (f := 16) rfl ?_); refine goesL_ (some 19) rfl rfl Try.func16 (by kernel_rfl) rfl #[.agg #[.slice A0_0 l0_0.length c0_0]] rfl (by (try simp only [List.map_toArray, List.map_cons, List.map_nil]); first | done | rfl | (simp only [List.length_drop, List.length_take]; rfl)) ?_; (with_reducible refine (spec_GoodGraph.calls k _ _ l0_0 false _ ?side1 ?side2 A7.out).mono ?_); (case side1 => repeat (first | exact (Kd.C_below HR0_0.out HB.out) | (with_reducible refine Kd.C_alloc ?_ _) | (with_reducible refine Kd.C_drewN ?_ _) | (with_reducible refine Kd.C_drew ?_))); (case side2 => exact HC0_0.out); rintro e w37 ⟨rfl, hb⟩; refine ⟨_, rfl, ?_⟩; have n0_ := Aside0.mk (blk_below (g := gb312) (o := .cells #[.slice A0_0 l0_0.length c0_0] 27 (0, 0)) (by (with_reducible repeat (first | refine blk_drewN ?_ _ | refine blk_drew ?_ | refine blk_alloc ?_ _)); exact BK312.out) hb); have n1_ := Aside0.mk (below_step (by repeat (first | (with_reducible first | exact HB.out | apply below_alloc | apply pw_below_drewN | apply below_drew1 | refine below_set ?_ GE312.out) | exact HB.out)) hb); clear BK312; clear HB; have BK312 := n0_; have HB := n1_; clear n0_ n1_; (try clear hb); (try clear hb2); (try clear hk); (try clear hi)))
      go_meet
      case rel => exact ⟨_, (true), (by first | rfl | (simp; done) | (simp [*]; done)), H', ⟨by first | omega | exact Nat.le_refl _⟩, ⟨by (with_reducible repeat (first | refine blk_drewN ?_ _ | refine blk_drew ?_ | refine blk_alloc ?_ _)); exact BK312.out⟩, ⟨by repeat (first | (with_reducible first | exact HB.out | apply below_alloc | apply pw_below_drewN | apply below_drew1 | refine below_set ?_ GE312.out) | exact HB.out)⟩⟩
  case rest =>
    clear HC4
    try clear c1
    try clear c2
    try clear p2
    try clear c3
    try clear p3
    try clear q3
    try clear hx3
    try clear c4
    try clear c8
    try clear c9
    try clear c9b0
    try clear c12
    try clear c12b0
    try clear c15
    try clear c15b0
    try clear c16
    try clear c18
    try clear c18b0
    try clear c21
    try clear c21b0
    try clear c22
    try clear c22b0
    try clear c24
    try clear c26
    try clear c26b0
    try clear c31
    try clear p31
    try clear q31
    try clear hx31
    try clear hcz10_0
    try clear hcz13_0
    try clear hcz16_0
    try clear hcz19_0
    try clear hcz28_0
    try clear hcz30_0
    try clear hcz33_0
    try clear hcz35_0
    try clear hcz36_0
    try clear hcz6_0
    try clear hfz10_0
    try clear hfz13_0
    try clear hfz16_0
    try clear hfz19_0
    try clear hfz28_0
    try clear hfz30_0
    try clear hfz33_0
    try clear hfz35_0
    try clear hfz36_0
    try clear hfz6_0
    try clear hx314_0
    try clear hx319_0
    try clear p314
    try clear p319
    try clear q314
    try clear q319
    obtain ⟨kq, x58_3, rfl, HA, HJ3, BK312, HB⟩ := hcut
    cases kq with
    | zero => exact absurd HA.out (by simp [spec_LoopOf.j0])
    | succ kj3 =>
      have H := HA.out
      clear HA
      simp only [spec_LoopOf.j0] at H
      by_cases c38 : x58_3 = true
      · subst c38
        have H1 : (some (([] : List Int), false)) = some (r1, r2) := by rw [if_pos rfl] at H; exact H
        clear H
        have H := H1
        clear H1
        simp only [Option.some.injEq, Prod.mk.injEq] at H
        obtain ⟨rfl, rfl⟩ := H
        go_wp2
        go_ret2
        exact ⟨_, by first | rfl | (simp [errW_none, errW_some] <;> rfl) | (simp [*, errW_none, errW_some] <;> rfl), by first | exact Kd.R_nil _ _ _ _ _ | exact Kd.N_nil _ _ _ _ _ | exact Kd.V_nil _ _ _ _ _ | exact Kd.Q_nil _ _ _ _ _ | exact Kd.S_nil _ _ _ _ _, by repeat (first | (with_reducible first | exact HB.out | apply below_alloc | apply pw_below_drewN | apply below_drew1 | refine below_set ?_ GE312.out) | exact HB.out)⟩
      · replace c38 := Bool.eq_false_iff.mpr c38
        subst c38
        have H1 : ((spec_l1Put.f kj3 (([a2] : List Int)) a1).bind fun t324 => (spec_LoopOf.l0 kj3 a2 t324 l0_0)) = some (r1, r2) := by rw [if_neg (show ¬ (false = true) by decide)] at H; exact H
        clear H
        have H := H1
        clear H1
        obtain ⟨y321, hy321⟩ : ∃ y_ : List Int, y_ = (([a2] : List Int)) := ⟨_, rfl⟩
        replace H : ((spec_l1Put.f kj3 y321 a1).bind fun t324 => (spec_LoopOf.l0 kj3 a2 t324 l0_0)) = some (r1, r2) := by first | (rw [hy321]; with_reducible exact H) | (have H2_ := (Option.bind_some _ _).symm.trans H; rw [hy321]; with_reducible exact H2_) | (have H2_ := (Option.bind_some _ _).symm.trans H; with_reducible exact H2_) | with_reducible exact H | (rw [hy321]; exact H) | exact H
        have Ny321 := Aside0.mk hy321
        clear hy321
        replace H := Option.bind_eq_some_iff.mp H
        obtain ⟨t324, A390, H⟩ := H
        replace H : (spec_LoopOf.l0 kj3 a2 t324 l0_0) = some (r1, r2) := H
        have A39 := Aside0.mk A390
        clear A390
        have H' := Aside0.mk H
        clear H
        go_wp2_with (first | ((with_reducible refine gate_dst (N := 60) rfl ?_); refine Kd.R_lit (Kd.int .i64) _ 3 ?hg (N := 60) ?hd (xs := ([a2] : List Int)) (inner := [.int .i64 a2]) (ok := fun _ => True) (okp := fun _ => True) ?hr ?hp (fun _ hk => hk) trivial (Below.refl _ _) (Nat.le_refl _) (by simp) ?_; (case hd => rfl); (case hg => rfl); (case hr => first | (go_simp; done) | (go_simp; rfl)); (case hp => exact (Reps.one (show Kd.M (Kd.int .i64) _ _ _ a2 [.int .i64 a2] from rfl) (Reps.none _ _))); intro v322 w40 ho41 hb hg_ hnew_; clear hg_ hnew_; (first | rw [← Ny321.out] at ho41 | (simp only [Int.reduceToNat] at ho41; rw [← Ny321.out] at ho41)); have n0_ := Aside0.mk (Kd.R_lower ho41 (below_size (by repeat (first | (with_reducible first | exact HB.out | apply below_alloc | apply pw_below_drewN | apply below_drew1 | refine below_set ?_ GE312.out) | exact HB.out)))); have n1_ := Aside0.mk (blk_below (g := gb312) (o := .cells #[.slice A0_0 l0_0.length c0_0] 27 (0, 0)) (by (with_reducible repeat (first | refine blk_drewN ?_ _ | refine blk_drew ?_ | refine blk_alloc ?_ _)); exact BK312.out) hb); have n2_ := Aside0.mk (below_step (by repeat (first | (with_reducible first | exact HB.out | apply below_alloc | apply pw_below_drewN | apply below_drew1 | refine below_set ?_ GE312.out) | exact HB.out)) hb); clear BK312; clear HB; have HO323 := n0_; have BK312 := n1_; have HB := n2_; clear n0_ n1_ n2_; clear hb ho41; obtain ⟨Ao42, co42, eo42⟩ := Kd.R_slice HO323.out; subst eo42) | ((with_reducible refine gate_callee (f := 73) rfl ?_); refine goesL_ (some 62) rfl rfl Try.func73 (by kernel_rfl) rfl #[.slice Ao42 y321.length co42, .int .i64 a1] rfl (by (try simp only [List.map_toArray, List.map_cons, List.map_nil]); first | done | rfl | (simp only [List.length_drop, List.length_take]; rfl)) ?_; (with_reducible refine (spec_l1Put.calls kj3 (fun k_ => some k_ = (.slice Ao42 y321.length co42 : Value).ownBlock) (.slice Ao42 y321.length co42) y321 a1 t324 w _ ?side1 ?side2 A39.out).mono ?_); (case side1 => repeat (first | (with_reducible first | exact HB.out | apply below_alloc | apply pw_below_drewN | apply below_drew1 | refine below_set ?_ GE312.out) | exact HB.out)); (case side2 => exact Kd.R_tight rfl HO323.out); rintro e w43 ⟨v325, rfl, ho0, hb, hkp⟩; refine ⟨_, rfl, ?_⟩; have n0_ := Aside0.mk (blk_kept (by (with_reducible repeat (first | refine blk_drewN ?_ _ | refine blk_drew ?_ | refine blk_alloc ?_ _)); exact BK312.out) hkp (fun hs_ => (fun e_ => (Kd.R_ne HO323.out BK312.out (by decide)) e_) hs_)); have n1_ := Aside0.mk (Kd.R_mono (ok' := fun k_ => True) ho0 (fun k_ hk_ => trivial)); have n2_ := Aside0.mk (hb); clear BK312; clear HB; clear HO323; have BK312 := n0_; have HO326 := n1_; have HB := n2_; clear n0_ n1_ n2_; (try clear hb); (try clear hkp); (try clear ho0)))
        go_loopg [9] kj3 (fun kq v9 w' => ∃ (x9_2 : List Int), Aside0 (spec_LoopOf.l0 kq a2 x9_2 l0_0 = some (r1, r2)) ∧ Aside0 (kq ≤ kj3) ∧ Aside0 (Kd.R (Kd.int .i64) 3 w' w.heap.size (fun _ => True) v9 x9_2) ∧ Aside0 (w'.heap[gb312]? = some (.cells #[(.slice A0_0 l0_0.length c0_0)] 27 (0, 0))) ∧ Aside0 (Below w.heap.size w w'))
        case atStart => exact ⟨(t324), H', ⟨Nat.le_refl _⟩, ⟨by (with_reducible repeat (first | apply Kd.R_alloc | apply Kd.R_drewN | apply Kd.R_drew)); exact HO326.out⟩, ⟨by (with_reducible repeat (first | refine blk_drewN ?_ _ | refine blk_drew ?_ | refine blk_alloc ?_ _)); exact BK312.out⟩, ⟨by repeat (first | (with_reducible first | exact HB.out | apply below_alloc | apply pw_below_drewN | apply below_drew1 | refine below_set ?_ GE312.out) | exact HB.out)⟩⟩
        case round =>
          clear H'
          try clear c1
          try clear c2
          try clear p2
          try clear c3
          try clear p3
          try clear q3
          try clear hx3
          try clear c4
          try clear c7
          try clear c8
          try clear c9
          try clear c9b0
          try clear c12
          try clear c12b0
          try clear c15
          try clear c15b0
          try clear c16
          try clear c18
          try clear c18b0
          try clear c21
          try clear c21b0
          try clear c22
          try clear c22b0
          try clear c24
          try clear c26
          try clear c26b0
          try clear c31
          try clear p31
          try clear q31
          try clear hx31
          try clear c38
          try clear c42
          try clear hcz10_0
          try clear hcz13_0
          try clear hcz16_0
          try clear hcz19_0
          try clear hcz28_0
          try clear hcz30_0
          try clear hcz33_0
          try clear hcz35_0
          try clear hcz36_0
          try clear hcz6_0
          try clear hfz10_0
          try clear hfz13_0
          try clear hfz16_0
          try clear hfz19_0
          try clear hfz28_0
          try clear hfz30_0
          try clear hfz33_0
          try clear hfz35_0
          try clear hfz36_0
          try clear hfz6_0
          try clear hx314_0
          try clear hx319_0
          try clear p2
          try clear p3
          try clear p31
          try clear p314
          try clear p319
          try clear q3
          try clear q31
          try clear q314
          try clear q319
          obtain ⟨x9_2, HA, HK2, HO_9, BK312, HB⟩ := hrel
          cases gk with
          | zero => exact absurd HA.out (by simp [spec_LoopOf.l0])
          | succ k2 =>
            have H := HA.out
            clear HA
            simp only [spec_LoopOf.l0] at H
            have H' := Aside0.mk H
            clear H
            obtain ⟨Ao44, co44, eo44⟩ := Kd.R_slice HO_9.out
            subst eo44
            have hcz45_0 : wr.cell? ⟨gb312, 0, none⟩ = some (.slice A0_0 l0_0.length c0_0) := (blk_cell BK312.out 0).trans rfl
            have hfz45_0 := blk_frozen BK312.out 0
            go_wp2
            go_loopg [9, 68] k2 (fun kq v9 v68 w' => ∃ (x9_3 : List Int) (x68_3 : Int), v68 = .int .i64 x68_3 ∧ Aside0 (spec_LoopOf.l1 kq a2 x9_3 (x9_2.length : Int) l0_0 (l0_0.length : Int) x68_3 l0_0 = some (r1, r2)) ∧ Aside0 (kq ≤ k2) ∧ Aside0 (Kd.R (Kd.int .i64) 3 w' w.heap.size (fun _ => True) v9 x9_3) ∧ Aside0 (w'.heap[gb312]? = some (.cells #[(.slice A0_0 l0_0.length c0_0)] 27 (0, 0))) ∧ Aside0 (Below w.heap.size w w'))
            case atStart => exact ⟨(x9_2), (0), (by first | rfl | (simp; done) | (simp [*]; done)), H', ⟨Nat.le_refl _⟩, ⟨by (with_reducible repeat (first | apply Kd.R_alloc | apply Kd.R_drewN | apply Kd.R_drew)); exact HO_9.out⟩, ⟨by (with_reducible repeat (first | refine blk_drewN ?_ _ | refine blk_drew ?_ | refine blk_alloc ?_ _)); exact BK312.out⟩, ⟨by repeat (first | (with_reducible first | exact HB.out | apply below_alloc | apply pw_below_drewN | apply below_drew1 | refine below_set ?_ GE312.out) | exact HB.out)⟩⟩
            case round =>
              clear H'
              try clear c1
              try clear c2
              try clear p2
              try clear c3
              try clear p3
              try clear q3
              try clear hx3
              try clear c4
              try clear c7
              try clear c8
              try clear c9
              try clear c9b0
              try clear c12
              try clear c12b0
              try clear c15
              try clear c15b0
              try clear c16
              try clear c18
              try clear c18b0
              try clear c21
              try clear c21b0
              try clear c22
              try clear c22b0
              try clear c24
              try clear c26
              try clear c26b0
              try clear c31
              try clear p31
              try clear q31
              try clear hx31
              try clear c38
              try clear c42
              try clear hcz10_0
              try clear hcz13_0
              try clear hcz16_0
              try clear hcz19_0
              try clear hcz28_0
              try clear hcz30_0
              try clear hcz33_0
              try clear hcz35_0
              try clear hcz36_0
              try clear hcz45_0
              try clear hcz6_0
              try clear hfz10_0
              try clear hfz13_0
              try clear hfz16_0
              try clear hfz19_0
              try clear hfz28_0
              try clear hfz30_0
              try clear hfz33_0
              try clear hfz35_0
              try clear hfz36_0
              try clear hfz45_0
              try clear hfz6_0
              try clear hx314_0
              try clear hx319_0
              try clear p2
              try clear p3
              try clear p31
              try clear p314
              try clear p319
              try clear q3
              try clear q31
              try clear q314
              try clear q319
              obtain ⟨x9_3, x68_3, rfl, HA, HK3, HO_9, BK312, HB⟩ := hrel
              cases gk with
              | zero => exact absurd HA.out (by simp [spec_LoopOf.l1])
              | succ k3 =>
                have H := HA.out
                clear HA
                simp only [spec_LoopOf.l1] at H
                by_cases c46 : x68_3 < (l0_0.length : Int)
                · rw [if_pos c46] at H
                  have c46b0 : decide (x68_3 < (l0_0.length : Int)) = true := decide_eq_true c46
                  clear c46
                  by_cases c47 : 0 ≤ x68_3
                  · rw [if_pos c47] at H
                    have c47b0 : decide (0 ≤ x68_3) = true := decide_eq_true c47
                    clear c47
                    by_cases c48 : x68_3 < (l0_0.length : Int)
                    · rw [if_pos c48] at H
                      have c48b0 : decide (x68_3 < (l0_0.length : Int)) = true := decide_eq_true c48
                      clear c48
                      have H' := Aside0.mk H
                      clear H
                      have p327 : 0 ≤ (x68_3 : Int) := of_decide_eq_true (by first | (with_reducible assumption) | assumption)
                      have q327 : x68_3 < (l0_0.length : Int) := of_decide_eq_true (by first | (with_reducible assumption) | assumption)
                      obtain ⟨ad327, A327_0, c327_0, e327, hx327_0, hl327_0, hi327_0⟩ := at_L1 HR0_0.out x68_3 p327 q327
                      cases e327
                      replace hx327_0 := (HB.out.cell (World.block_lt_of_cell? w _ hx327_0)).trans hx327_0
                      have HR327_0 := Aside0.mk hi327_0
                      have HC327_0 := Aside0.mk hl327_0
                      clear hi327_0 hl327_0
                      replace p327 := eq_true p327
                      replace q327 := eq_true q327
                      go_wp2
                      go_loopg [9, 75] k3 (fun kq v9 v75 w' => ∃ (x9_4 : List Int) (x75_4 : Int), v75 = .int .i64 x75_4 ∧ Aside0 (spec_LoopOf.l2 kq a2 x9_4 (x9_2.length : Int) x68_3 l0_0 (l0_0.length : Int) x68_3 (rd_L1 l0_0 x68_3) ((rd_L1 l0_0 x68_3).length : Int) x75_4 l0_0 = some (r1, r2)) ∧ Aside0 (kq ≤ k3) ∧ Aside0 (Kd.R (Kd.int .i64) 3 w' w.heap.size (fun _ => True) v9 x9_4) ∧ Aside0 (w'.heap[gb312]? = some (.cells #[(.slice (some ad327) l0_0.length c0_0)] 27 (0, 0))) ∧ Aside0 (Below w.heap.size w w'))
                      case atStart => exact ⟨(x9_3), (0), (by first | rfl | (simp; done) | (simp [*]; done)), H', ⟨Nat.le_refl _⟩, ⟨by (with_reducible repeat (first | apply Kd.R_alloc | apply Kd.R_drewN | apply Kd.R_drew)); exact HO_9.out⟩, ⟨by (with_reducible repeat (first | refine blk_drewN ?_ _ | refine blk_drew ?_ | refine blk_alloc ?_ _)); exact BK312.out⟩, ⟨by repeat (first | (with_reducible first | exact HB.out | apply below_alloc | apply pw_below_drewN | apply below_drew1 | refine below_set ?_ GE312.out) | exact HB.out)⟩⟩
                      case round =>
                        clear H'
                        try clear c1
                        try clear c2
                        try clear p2
                        try clear c3
                        try clear p3
                        try clear q3
                        try clear hx3
                        try clear c4
                        try clear c7
                        try clear c8
                        try clear c9
                        try clear c9b0
                        try clear c12
                        try clear c12b0
                        try clear c15
                        try clear c15b0
                        try clear c16
                        try clear c18
                        try clear c18b0
                        try clear c21
                        try clear c21b0
                        try clear c22
                        try clear c22b0
                        try clear c24
                        try clear c26
                        try clear c26b0
                        try clear c31
                        try clear p31
                        try clear q31
                        try clear hx31
                        try clear c32
                        try clear p32
                        try clear q32
                        try clear hx32
                        try clear c38
                        try clear c42
                        try clear c46
                        try clear c46b0
                        try clear c47
                        try clear c47b0
                        try clear c48
                        try clear c48b0
                        try clear hcz10_0
                        try clear hcz13_0
                        try clear hcz16_0
                        try clear hcz19_0
                        try clear hcz28_0
                        try clear hcz30_0
                        try clear hcz33_0
                        try clear hcz35_0
                        try clear hcz36_0
                        try clear hcz45_0
                        try clear hcz6_0
                        try clear hfz10_0
                        try clear hfz13_0
                        try clear hfz16_0
                        try clear hfz19_0
                        try clear hfz28_0
                        try clear hfz30_0
                        try clear hfz33_0
                        try clear hfz35_0
                        try clear hfz36_0
                        try clear hfz45_0
                        try clear hfz6_0
                        try clear hx314_0
                        try clear hx319_0
                        try clear hx327_0
                        try clear p2
                        try clear p3
                        try clear p31
                        try clear p314
                        try clear p319
                        try clear p327
                        try clear q3
                        try clear q31
                        try clear q314
                        try clear q319
                        try clear q327
                        obtain ⟨x9_4, x75_4, rfl, HA, HK4, HO_9, BK312, HB⟩ := hrel
                        cases gk with
                        | zero => exact absurd HA.out (by simp [spec_LoopOf.l2])
                        | succ k4 =>
                          have H := HA.out
                          clear HA
                          simp only [spec_LoopOf.l2] at H
                          by_cases c49 : x75_4 < ((rd_L1 l0_0 x68_3).length : Int)
                          · rw [if_pos c49] at H
                            have c49b0 : decide (x75_4 < ((rd_L1 l0_0 x68_3).length : Int)) = true := decide_eq_true c49
                            clear c49
                            by_cases c50 : 0 ≤ x75_4
                            · rw [if_pos c50] at H
                              have c50b0 : decide (0 ≤ x75_4) = true := decide_eq_true c50
                              clear c50
                              by_cases c51 : x75_4 < ((rd_L1 l0_0 x68_3).length : Int)
                              · rw [if_pos c51] at H
                                have c51b0 : decide (x75_4 < ((rd_L1 l0_0 x68_3).length : Int)) = true := decide_eq_true c51
                                clear c51
                                by_cases c52 : (rd (rd_L1 l0_0 x68_3) x75_4) = a2
                                · rw [if_pos c52] at H
                                  have c52b0 : ((rd (rd_L1 l0_0 x68_3) x75_4) == a2) = true := beq_iff_eq.mpr c52
                                  have c52b1 : ((rd (rd_L1 l0_0 x68_3) x75_4) != a2) = false := bne_eq_false_iff_eq.mpr c52
                                  clear c52
                                  have H' := Aside0.mk H
                                  clear H
                                  have p328 : 0 ≤ (x75_4 : Int) := of_decide_eq_true (by first | (with_reducible assumption) | assumption)
                                  have q328 : x75_4 < ((rd_L1 l0_0 x68_3).length : Int) := of_decide_eq_true (by first | (with_reducible assumption) | assumption)
                                  obtain ⟨ad328, e328, hx328_0⟩ := Kd.at_int HR327_0.out x75_4 p328 q328
                                  cases e328
                                  replace hx328_0 := (HB.out.cell (World.block_lt_of_cell? w _ hx328_0)).trans hx328_0
                                  replace p328 := eq_true p328
                                  replace q328 := eq_true q328
                                  go_wp2
                                  go_roundg k4
                                  case measure => have := HJ3.out; have := HK2.out; have := HK3.out; have := HK4.out; omega
                                  case rel => exact ⟨(x9_4), (wrap64 (x75_4 + 1)), (by first | rfl | (simp; done) | (simp [*]; done)), H', ⟨by have := HJ3.out; have := HK2.out; have := HK3.out; have := HK4.out; omega⟩, ⟨by (with_reducible repeat (first | apply Kd.R_alloc | apply Kd.R_drewN | apply Kd.R_drew)); exact HO_9.out⟩, ⟨by (with_reducible repeat (first | refine blk_drewN ?_ _ | refine blk_drew ?_ | refine blk_alloc ?_ _)); exact BK312.out⟩, ⟨by repeat (first | (with_reducible first | exact HB.out | apply below_alloc | apply pw_below_drewN | apply below_drew1 | refine below_set ?_ GE312.out) | exact HB.out)⟩⟩
                                · rw [if_neg c52] at H
                                  have c52b0 : ((rd (rd_L1 l0_0 x68_3) x75_4) == a2) = false := beq_eq_false_iff_ne.mpr c52
                                  have c52b1 : ((rd (rd_L1 l0_0 x68_3) x75_4) != a2) = true := bne_iff_ne.mpr c52
                                  replace H := Option.bind_eq_some_iff.mp H
                                  obtain ⟨t329, A530, H⟩ := H
                                  replace H : (if t329 = true then ((spec_l1Put.f k4 x9_4 x68_3).bind fun t330 => (spec_LoopOf.l2 k4 a2 t330 (x9_2.length : Int) x68_3 l0_0 (l0_0.length : Int) x68_3 (rd_L1 l0_0 x68_3) ((rd_L1 l0_0 x68_3).length : Int) (wrap64 (x75_4 + 1)) l0_0)) else (spec_LoopOf.l2 k4 a2 x9_4 (x9_2.length : Int) x68_3 l0_0 (l0_0.length : Int) x68_3 (rd_L1 l0_0 x68_3) ((rd_L1 l0_0 x68_3).length : Int) (wrap64 (x75_4 + 1)) l0_0)) = some (r1, r2) := H
                                  have A53 := Aside0.mk A530
                                  clear A530
                                  by_cases c54 : t329 = true
                                  · subst c54
                                    have H1 : ((spec_l1Put.f k4 x9_4 x68_3).bind fun t330 => (spec_LoopOf.l2 k4 a2 t330 (x9_2.length : Int) x68_3 l0_0 (l0_0.length : Int) x68_3 (rd_L1 l0_0 x68_3) ((rd_L1 l0_0 x68_3).length : Int) (wrap64 (x75_4 + 1)) l0_0)) = some (r1, r2) := by rw [if_pos rfl] at H; exact H
                                    clear H
                                    have H := H1
                                    clear H1
                                    replace H := Option.bind_eq_some_iff.mp H
                                    obtain ⟨t330, A550, H⟩ := H
                                    replace H : (spec_LoopOf.l2 k4 a2 t330 (x9_2.length : Int) x68_3 l0_0 (l0_0.length : Int) x68_3 (rd_L1 l0_0 x68_3) ((rd_L1 l0_0 x68_3).length : Int) (wrap64 (x75_4 + 1)) l0_0) = some (r1, r2) := H
                                    have A55 := Aside0.mk A550
                                    clear A550
                                    have H' := Aside0.mk H
                                    clear H
                                    have p328 : 0 ≤ (x75_4 : Int) := of_decide_eq_true (by first | (with_reducible assumption) | assumption)
                                    have q328 : x75_4 < ((rd_L1 l0_0 x68_3).length : Int) := of_decide_eq_true (by first | (with_reducible assumption) | assumption)
                                    obtain ⟨ad328, e328, hx328_0⟩ := Kd.at_int HR327_0.out x75_4 p328 q328
                                    cases e328
                                    replace hx328_0 := (HB.out.cell (World.block_lt_of_cell? w _ hx328_0)).trans hx328_0
                                    replace p328 := eq_true p328
                                    replace q328 := eq_true q328
                                    obtain ⟨Ao56, co56, eo56⟩ := Kd.R_slice HO_9.out
                                    subst eo56
                                    go_wp2_with (first | (go_at_call 65; (with_reducible refine (spec_l1Has.calls k4 _ _ x9_4 (rd (rd_L1 l0_0 x68_3) x75_4) true _ ?side1 ?side2 A53.out).mono ?_); (case side1 => repeat (first | exact (Kd.R_reads' HO_9.out).2.2 | (with_reducible refine Kd.C_alloc ?_ _) | (with_reducible refine Kd.C_drewN ?_ _) | (with_reducible refine Kd.C_drew ?_))); (case side2 => exact (Kd.R_reads' HO_9.out).2.1); rintro e w' ⟨rfl, ⟨nd, rfl⟩⟩) | ((with_reducible refine gate_callee (f := 73) rfl ?_); refine goesL_ (some 89) rfl rfl Try.func73 (by kernel_rfl) rfl #[.slice Ao56 x9_4.length co56, .int .i64 x68_3] rfl (by (try simp only [List.map_toArray, List.map_cons, List.map_nil]); first | done | rfl | (simp only [List.length_drop, List.length_take]; rfl)) ?_; (with_reducible refine (spec_l1Put.calls k4 (fun k_ => some k_ = (.slice Ao56 x9_4.length co56 : Value).ownBlock) (.slice Ao56 x9_4.length co56) x9_4 x68_3 t330 w _ ?side1 ?side2 A55.out).mono ?_); (case side1 => repeat (first | (with_reducible first | exact HB.out | apply below_alloc | apply pw_below_drewN | apply below_drew1 | refine below_set ?_ GE312.out) | exact HB.out)); (case side2 => exact Kd.R_tight rfl HO_9.out); rintro e w57 ⟨v331, rfl, ho0, hb, hkp⟩; refine ⟨_, rfl, ?_⟩; have n0_ := Aside0.mk (blk_kept (by (with_reducible repeat (first | refine blk_drewN ?_ _ | refine blk_drew ?_ | refine blk_alloc ?_ _)); exact BK312.out) hkp (fun hs_ => (fun e_ => (Kd.R_ne HO_9.out BK312.out (by decide)) e_) hs_)); have n1_ := Aside0.mk (Kd.R_mono (ok' := fun k_ => True) ho0 (fun k_ hk_ => trivial)); have n2_ := Aside0.mk (hb); clear BK312; clear HB; clear HO_9; have BK312 := n0_; have HO332 := n1_; have HB := n2_; clear n0_ n1_ n2_; (try clear hb); (try clear hkp); (try clear ho0)))
                                    go_roundg k4
                                    case measure => have := HJ3.out; have := HK2.out; have := HK3.out; have := HK4.out; omega
                                    case rel => exact ⟨(t330), (wrap64 (x75_4 + 1)), (by first | rfl | (simp; done) | (simp [*]; done)), H', ⟨by have := HJ3.out; have := HK2.out; have := HK3.out; have := HK4.out; omega⟩, ⟨by (with_reducible repeat (first | apply Kd.R_alloc | apply Kd.R_drewN | apply Kd.R_drew)); exact HO332.out⟩, ⟨by (with_reducible repeat (first | refine blk_drewN ?_ _ | refine blk_drew ?_ | refine blk_alloc ?_ _)); exact BK312.out⟩, ⟨by repeat (first | (with_reducible first | exact HB.out | apply below_alloc | apply pw_below_drewN | apply below_drew1 | refine below_set ?_ GE312.out) | exact HB.out)⟩⟩
                                  · replace c54 := Bool.eq_false_iff.mpr c54
                                    subst c54
                                    have H1 : (spec_LoopOf.l2 k4 a2 x9_4 (x9_2.length : Int) x68_3 l0_0 (l0_0.length : Int) x68_3 (rd_L1 l0_0 x68_3) ((rd_L1 l0_0 x68_3).length : Int) (wrap64 (x75_4 + 1)) l0_0) = some (r1, r2) := by rw [if_neg (show ¬ (false = true) by decide)] at H; exact H
                                    clear H
                                    have H := H1
                                    clear H1
                                    have H' := Aside0.mk H
                                    clear H
                                    have p328 : 0 ≤ (x75_4 : Int) := of_decide_eq_true (by first | (with_reducible assumption) | assumption)
                                    have q328 : x75_4 < ((rd_L1 l0_0 x68_3).length : Int) := of_decide_eq_true (by first | (with_reducible assumption) | assumption)
                                    obtain ⟨ad328, e328, hx328_0⟩ := Kd.at_int HR327_0.out x75_4 p328 q328
                                    cases e328
                                    replace hx328_0 := (HB.out.cell (World.block_lt_of_cell? w _ hx328_0)).trans hx328_0
                                    replace p328 := eq_true p328
                                    replace q328 := eq_true q328
                                    obtain ⟨Ao58, co58, eo58⟩ := Kd.R_slice HO_9.out
                                    subst eo58
                                    go_wp2_with (first | (go_at_call 65; (with_reducible refine (spec_l1Has.calls k4 _ _ x9_4 (rd (rd_L1 l0_0 x68_3) x75_4) false _ ?side1 ?side2 A53.out).mono ?_); (case side1 => repeat (first | exact (Kd.R_reads' HO_9.out).2.2 | (with_reducible refine Kd.C_alloc ?_ _) | (with_reducible refine Kd.C_drewN ?_ _) | (with_reducible refine Kd.C_drew ?_))); (case side2 => exact (Kd.R_reads' HO_9.out).2.1); rintro e w' ⟨rfl, ⟨nd, rfl⟩⟩))
                                    go_roundg k4
                                    case measure => have := HJ3.out; have := HK2.out; have := HK3.out; have := HK4.out; omega
                                    case rel => exact ⟨(x9_4), (wrap64 (x75_4 + 1)), (by first | rfl | (simp; done) | (simp [*]; done)), H', ⟨by have := HJ3.out; have := HK2.out; have := HK3.out; have := HK4.out; omega⟩, ⟨by (with_reducible repeat (first | apply Kd.R_alloc | apply Kd.R_drewN | apply Kd.R_drew)); exact HO_9.out⟩, ⟨by (with_reducible repeat (first | refine blk_drewN ?_ _ | refine blk_drew ?_ | refine blk_alloc ?_ _)); exact BK312.out⟩, ⟨by repeat (first | (with_reducible first | exact HB.out | apply below_alloc | apply pw_below_drewN | apply below_drew1 | refine below_set ?_ GE312.out) | exact HB.out)⟩⟩
                              · rw [if_neg c51] at H
                                exact absurd H (by simp)
                            · rw [if_neg c50] at H
                              exact absurd H (by simp)
                          · rw [if_neg c49] at H
                            have c49b0 : decide (x75_4 < ((rd_L1 l0_0 x68_3).length : Int)) = false := decide_eq_false c49
                            clear c49
                            have H' := Aside0.mk H
                            clear H
                            go_wp2
                            go_roundg k4
                            case measure => have := HJ3.out; have := HK2.out; have := HK3.out; have := HK4.out; omega
                            case rel => exact ⟨(x9_4), (wrap64 (x68_3 + 1)), (by first | rfl | (simp; done) | (simp [*]; done)), H', ⟨by have := HJ3.out; have := HK2.out; have := HK3.out; have := HK4.out; omega⟩, ⟨by (with_reducible repeat (first | apply Kd.R_alloc | apply Kd.R_drewN | apply Kd.R_drew)); exact HO_9.out⟩, ⟨by (with_reducible repeat (first | refine blk_drewN ?_ _ | refine blk_drew ?_ | refine blk_alloc ?_ _)); exact BK312.out⟩, ⟨by repeat (first | (with_reducible first | exact HB.out | apply below_alloc | apply pw_below_drewN | apply below_drew1 | refine below_set ?_ GE312.out) | exact HB.out)⟩⟩
                    · rw [if_neg c48] at H
                      exact absurd H (by simp)
                  · rw [if_neg c47] at H
                    exact absurd H (by simp)
                · rw [if_neg c46] at H
                  have c46b0 : decide (x68_3 < (l0_0.length : Int)) = false := decide_eq_false c46
                  clear c46
                  by_cases c59 : (x9_3.length : Int) = (x9_2.length : Int)
                  · rw [if_pos c59] at H
                    have c59b0 : ((x9_3.length : Int) == (x9_2.length : Int)) = true := beq_iff_eq.mpr c59
                    have c59b1 : ((x9_3.length : Int) != (x9_2.length : Int)) = false := bne_eq_false_iff_eq.mpr c59
                    have c59b2 : (x9_3.length == x9_2.length) = true := by first | simpa using c59 | (simp at c59 ⊢; omega)
                    clear c59
                    simp only [Option.some.injEq, Prod.mk.injEq] at H
                    obtain ⟨rfl, rfl⟩ := H
                    obtain ⟨Ao60, co60, eo60⟩ := Kd.R_slice HO_9.out
                    subst eo60
                    go_wp2
                    go_ret2
                    exact ⟨_, by first | rfl | (simp [errW_none, errW_some] <;> rfl) | (simp [*, errW_none, errW_some] <;> rfl), by (with_reducible repeat (first | apply Kd.R_alloc | apply Kd.R_drewN | apply Kd.R_drew)); exact HO_9.out, by repeat (first | (with_reducible first | exact HB.out | apply below_alloc | apply pw_below_drewN | apply below_drew1 | refine below_set ?_ GE312.out) | exact HB.out)⟩
                  · rw [if_neg c59] at H
                    have c59b0 : ((x9_3.length : Int) == (x9_2.length : Int)) = false := beq_eq_false_iff_ne.mpr c59
                    have c59b1 : ((x9_3.length : Int) != (x9_2.length : Int)) = true := bne_iff_ne.mpr c59
                    have c59b2 : (x9_3.length == x9_2.length) = false := by first | simpa using c59 | (simp at c59 ⊢; omega)
                    have H' := Aside0.mk H
                    clear H
                    obtain ⟨Ao61, co61, eo61⟩ := Kd.R_slice HO_9.out
                    subst eo61
                    go_wp2
                    go_roundg k3
                    case measure => have := HJ3.out; have := HK2.out; have := HK3.out; omega
                    case rel => exact ⟨(x9_3), H', ⟨by have := HJ3.out; have := HK2.out; have := HK3.out; omega⟩, ⟨by (with_reducible repeat (first | apply Kd.R_alloc | apply Kd.R_drewN | apply Kd.R_drew)); exact HO_9.out⟩, ⟨by (with_reducible repeat (first | refine blk_drewN ?_ _ | refine blk_drew ?_ | refine blk_alloc ?_ _)); exact BK312.out⟩, ⟨by repeat (first | (with_reducible first | exact HB.out | apply below_alloc | apply pw_below_drewN | apply below_drew1 | refine below_set ?_ GE312.out) | exact HB.out)⟩⟩
end Go.Proofs.Ytplcipjlkogadaa.P

namespace Go.Proofs.Ytplcipjlkogadaa.P
open Go.RowKit Go.Proofs.YtplcipjlkogadaaW.PrintWords Go.Proofs.YtplcipjlkogadaaW.PrintLast Go.Proofs.YtplcipjlkogadaaW.PrintMore
attribute [local go_sem] max2_int min2_int max_two min_two max_three min_three max_four min_four
theorem run_idx12 (w : World) (bs : List Bool) (hb : bs.length = 12) (j : Nat) (hj : j < 12) : (Instr.index 64 (.agg (H.bcells bs)) (.int .i64 (j : Int))).run Try.prog w = .ok (.bool (bs.getD j false)) w := by
  have h0 : (0 : Int) ≤ (j : Int) := by omega
  have h1 : (j : Int) < ((12 : Nat) : Int) := by omega
  have hi : (Try.prog.info? 4).map (·.size) = some 1 := by kernel_rfl
  obtain ⟨i, hq, hs⟩ := Option.map_eq_some_iff.1 hi
  unfold H.bcells
  simp [Instr.index, run_underlying Try.underlying64, run_underlying Try.underlying4, asIntOf, h0, h1, part, isAgg, sizeOf, typeInfo, hq, hs, Sem.run_bind, go_sem]
  obtain ⟨v, hv⟩ : ∃ v, bs[j]? = some v := ⟨_, List.getElem?_eq_getElem (by omega)⟩
  rw [if_pos hj, hv]
  rfl
theorem madeCells12 (n : Nat) : madeCells #[.bool false, .bool false, .bool false, .bool false, .bool false, .bool false, .bool false, .bool false, .bool false, .bool false, .bool false, .bool false] (n * 12) = H.bcells (List.replicate n H.none12).flatten := by
  unfold H.none12
  rw [List.flatten_replicate_replicate]
  apply Array.ext
  · rw [size_madeCells, H.bcells_size, List.length_replicate]
  · intro i h1 h2
    have h3 : i % 12 < 12 := Nat.mod_lt _ (by decide)
    have e : ∀ k, k < 12 → (#[Value.bool false, .bool false, .bool false, .bool false, .bool false, .bool false, .bool false, .bool false, .bool false, .bool false, .bool false, .bool false] : Array Value)[k]! = .bool false := by
      intro k hk
      match k, hk with
      | 0, _ | 1, _ | 2, _ | 3, _ | 4, _ | 5, _ | 6, _ | 7, _ | 8, _ | 9, _ | 10, _ | 11, _ => rfl
    simp only [madeCells, H.bcells, Array.getElem_map, Array.getElem_range, List.getElem_toArray, List.getElem_map, List.getElem_replicate]
    exact e _ h3
theorem make_sets (W : World) (n : Nat) (hn : n ≤ 1048576) : (Instr.makeSlice 69 (.int .i64 (n : Int)) (.int .i64 (n : Int))).run Try.prog W = .ok (.slice (some ⟨W.heap.size, 0, none⟩) n n) (W.alloc (.cells (H.bcells (List.replicate n H.none12).flatten) 64)) := by
  have hi : (Try.prog.info? 64).map (fun i => (i.zero, i.size, i.bytes)) = some (some (.agg #[.bool false, .bool false, .bool false, .bool false, .bool false, .bool false, .bool false, .bool false, .bool false, .bool false, .bool false, .bool false]), 12, 12) := by kernel_rfl
  obtain ⟨i, hq, hs⟩ := Option.map_eq_some_iff.1 hi
  simp only [Prod.mk.injEq] at hs
  have h := run_make (P := Try.prog) W 69 64 i _ Try.underlying69 hq hs.1 .i64 .i64 (n : Int) (n : Int) (by omega) (by omega) (by rw [hs.2.2]; omega) (by omega)
  rw [h, hs.2.1, Int.toNat_natCast]
  simp only [Value.cells]
  rw [madeCells12]
theorem visits_drop (wo : Int) (row : List Int) (s : List Bool × List Int) {i : Nat} (hi : i < row.length) : H.visits wo (row.drop i) s = H.visits wo (row.drop (i + 1)) (H.visit wo s (row.getD i 0)) := by
  rw [List.drop_eq_getElem_cons hi, List.getD_eq_getElem?_getD, List.getElem?_eq_getElem hi]
  rfl
set_option maxHeartbeats 8000000 in
set_option maxRecDepth 100000 in
theorem impl_reach.calls (p : Addr) (A0 : Option Addr) (c0 : Nat) (g : List (List Int)) (s wo : Int) (w : World) (hp0 : w.cell? p = some (.slice A0 g.length c0)) (hr0 : Kd.C (Kd.slice 3 (Kd.int .i64)) w A0 g.length g) (hG : H.goodG g = true) (h0 : 0 ≤ s) (h1 : s < (g.length : Int)) :
    Calls Try.prog 61 #[.pointer (some p), .int .i64 s, .int .i64 wo] w fun e w' => e = .returned (.agg (H.bcells (H.reachF g s wo))) ∧ Below w.heap.size w w' := by
  have hn0 := hr0.2.1
  have hr := H.goodG_rows hG
  have h12 : s < 12 := by omega
  have HP0 := Aside0.mk hp0
  have HR0 := Aside0.mk hr0
  have HG := Aside0.mk hG
  have HROW := Aside0.mk (H.goodG_row hG)
  have HLL := Aside0.mk hr.1
  have HI := Aside0.mk (show (Try.prog.info? 64).map (·.size) = some 12 by kernel_rfl)
  have HN := Aside0.mk (show H.none12.length = 12 from rfl)
  have HO := Aside0.mk (H.Own.nil w)
  have HB1 := Aside0.mk (show H.bcells H.none12 = #[.bool false, .bool false, .bool false, .bool false, .bool false, .bool false, .bool false, .bool false, .bool false, .bool false, .bool false, .bool false] from rfl)
  clear hp0 hr0 hr
  by_cases hs : s = wo
  · subst hs
    have hR : H.reachF g s s = H.none12 := by unfold H.reachF; rw [if_pos rfl]
    rw [hR]
    clear hR hG
    go_enter Try.func61, Try.ntmps61
    go_wp2_with (first | ((with_reducible refine gate_dst (N := 6) rfl ?_); refine H.own_box HO.out ?bxg (N := 6) ?bxd (cs := H.bcells H.none12) (t := 64) ?bxr ?_; (case bxd => rfl); (case bxg => rfl); (case bxr => first | (go_simp; done) | (go_simp; rfl)); intro ga w_ ho_ hb_; replace HO := Aside0.mk ho_; clear ho_ hb_) | ((with_reducible refine gate_dst (N := 7) rfl ?_); refine H.own_box HO.out ?bxg (N := 7) ?bxd (cs := H.bcells H.none12) (t := 64) ?bxr ?_; (case bxd => rfl); (case bxg => rfl); (case bxr => first | (go_simp; done) | (go_simp; rfl)); intro gb w_ ho_ hb_; replace HO := Aside0.mk ho_; clear ho_ hb_) | ((with_reducible refine gate_store (t := 64) (p := 7) rfl ?_); refine H.own_ball HO.out 1 (bs' := H.none12) rfl rfl rfl rfl rfl rfl HI.out rfl ?_; intro w_ ho_ hg_; replace HO := Aside0.mk ho_; clear ho_ hg_) | ((with_reducible refine gate_dst (N := 15) rfl ?_); refine wpList_load_row rfl 64 (.tmp 7) rfl _ rfl 64 _ (0, 0) _ (HO.out.get 1 rfl) Try.underlying64 rfl HI.out ?_) | ((with_reducible refine gate_store (t := 64) (p := 6) rfl ?_); refine H.own_ball HO.out 0 (bs' := H.none12) rfl rfl rfl rfl rfl rfl HI.out rfl ?_; intro w_ ho_ hg_; replace HO := Aside0.mk ho_; clear ho_ hg_))
    (try simp only [Exit.inBlock, Exit.then])
    refine bodyPost_ret (results_cell_row rfl _ _ ga _ (H.bcells H.none12) (0, 0) _ rfl (HO.out.get 0 rfl) Try.underlying64 rfl HI.out) rfl ?_
    exact ⟨rfl, HO.out.below⟩
  · obtain ⟨hb, _⟩ := H.reach_some hG h0 h1 hs
    have hst := H.srch_start g h0 h12 hs
    generalize H.reachF g s wo = R at hb
    have HBF := Aside0.mk hb
    have HST := Aside0.mk hst
    have hsb : (s == wo) = false := beq_eq_false_iff_ne.2 hs
    obtain ⟨s0, rfl⟩ : ∃ k : Nat, s = (k : Int) := ⟨s.toNat, by omega⟩
    have hs0 : s0 < 12 := by omega
    have HS0 := Aside0.mk hs0
    clear hb hst hG hs
    go_enter Try.func61, Try.ntmps61
    go_wp2_with (first | ((with_reducible refine gate_dst (N := 6) rfl ?_); refine H.own_box HO.out ?bxg (N := 6) ?bxd (cs := H.bcells H.none12) (t := 64) ?bxr ?_; (case bxd => rfl); (case bxg => rfl); (case bxr => first | (go_simp; done) | (go_simp; rfl)); intro ga w_ ho_ hb_; replace HO := Aside0.mk ho_; clear ho_ hb_) | ((with_reducible refine gate_dst (N := 7) rfl ?_); refine H.own_box HO.out ?bxg (N := 7) ?bxd (cs := H.bcells H.none12) (t := 64) ?bxr ?_; (case bxd => rfl); (case bxg => rfl); (case bxr => first | (go_simp; done) | (go_simp; rfl)); intro gb w_ ho_ hb_; replace HO := Aside0.mk ho_; clear ho_ hb_) | ((with_reducible refine gate_store (t := 64) (p := 7) rfl ?_); refine H.own_ball HO.out 1 (bs' := H.none12) rfl rfl rfl rfl rfl rfl HI.out rfl ?_; intro w_ ho_ hg_; replace HO := Aside0.mk ho_; clear ho_ hg_) | ((with_reducible refine gate_store (t := 4) (p := 17) rfl ?_); refine H.own_bput HO.out 1 rfl rfl rfl rfl rfl rfl (by kernel_rfl) (by rw [HN.out]; exact HS0.out) ?_; intro w_ ho_ hg_; replace HO := Aside0.mk ho_; clear ho_ hg_) | ((with_reducible refine gate_dst (N := 19) rfl ?_); refine Kd.R_lit (Kd.int .i64) (w0 := w) w.heap.size 3 ?hg (N := 19) ?hd (xs := [(s0 : Int)]) (inner := [.int .i64 (s0 : Int)]) (ok := fun _ => True) (okp := fun _ => True) ?hr ?hp (fun _ hk => hk) trivial HO.out.below HO.out.size (by simp) ?_; (case hd => rfl); (case hg => rfl); (case hr => first | (go_simp; done) | (go_simp; rfl)); (case hp => exact Reps.snoc (Reps.none _ _) rfl rfl); intro v8 w_ ho_ hb_ hg_ hnew_; replace HO := Aside0.mk (HO.out.grown hg_ (fun k hk => by cases hk)); have HQ := Aside0.mk (Kd.Q_of_R ho_); clear ho_ hb_ hg_ hnew_))
    rw [Int.toNat_natCast] at HBF HST
    have hoff0 : H.off (H.none12.set s0 true) + 1 = 12 := (H.off_set (by rw [HN.out]; exact HS0.out) (H.none12_get s0)).trans rfl
    have HOF := Aside0.mk (show ([(s0 : Int)]).length + H.off (H.none12.set s0 true) ≤ 12 by simp only [List.length_cons, List.length_nil]; omega)
    have HTY := Aside0.mk (show ∀ y ∈ [(s0 : Int)], 0 ≤ y ∧ y < (g.length : Int) from fun y hy => by rw [List.mem_singleton.1 hy]; exact ⟨h0, h1⟩)
    clear hoff0
    go_loopg [8] 14 (fun kq v8 wr => ∃ (todo : List Int) (out : List Bool), Aside0 (H.bfs g wo kq todo out = some R) ∧ Aside0 (kq ≤ 14) ∧ Aside0 (out.length = 12) ∧ Aside0 (∀ y ∈ todo, 0 ≤ y ∧ y < (g.length : Int)) ∧ Aside0 (todo.length + H.off out ≤ 12) ∧ Aside0 ((Kd.int .i64).Q 3 wr w.heap.size (fun _ => True) v8 todo) ∧ Aside0 (H.Own w wr [(ga, H.bcells H.none12, 64), (gb, H.bcells out, 64)]))
    case atStart => exact ⟨[(s0 : Int)], _, HBF, ⟨Nat.le_refl _⟩, ⟨HST.out.len⟩, HTY, HOF, HQ, HO⟩
    case round =>
      clear HO HQ HBF HST HOF HTY
      obtain ⟨todo, out, HA, HK, HOL, HTY, HOF, HQ, HO⟩ := hrel
      cases gk with
      | zero => exact absurd HA.out (by simp [H.bfs])
      | succ k1 =>
        cases todo with
        | nil =>
          have hA := Option.some.inj HA.out
          subst hA
          obtain ⟨Aq, cq, rfl, _⟩ := Kd.Q_slice HQ.out
          go_wp2_with (first | ((with_reducible refine gate_dst (N := 55) rfl ?_); refine wpList_load_row rfl 64 (.tmp 7) rfl _ rfl 64 _ (0, 0) _ (HO.out.get 1 rfl) Try.underlying64 rfl (by rw [H.bcells_size, HOL.out]; exact HI.out) ?_) | ((with_reducible refine gate_store (t := 64) (p := 6) rfl ?_); refine H.own_ball HO.out 0 (bs' := out) rfl rfl rfl rfl rfl rfl HI.out HOL.out ?_; intro w_ ho_ hg_; replace HO := Aside0.mk ho_; clear ho_ hg_))
          (try simp only [Exit.inBlock, Exit.then])
          refine bodyPost_ret (results_cell_row rfl _ _ ga _ (H.bcells out) (0, 0) _ rfl (HO.out.get 0 rfl) Try.underlying64 rfl (by rw [H.bcells_size, HOL.out]; exact HI.out)) rfl ?_
          exact ⟨rfl, HO.out.below⟩
        | cons x todo =>
          have hA := HA.out
          simp only [H.bfs] at hA
          have hx := HTY.out x (by simp)
          obtain ⟨x0, rfl⟩ : ∃ k : Nat, x = (k : Int) := ⟨x.toNat, by omega⟩
          rw [Int.toNat_natCast] at hA
          obtain ⟨ad, A1, c1, e1, hc0, hc1, hc2⟩ := at_L1 HR0.out (x0 : Int) (by omega) (by omega)
          subst e1
          rw [Int.toNat_natCast] at hc0
          have hrd : rd_L1 g (x0 : Int) = g.getD x0 [] := rfl
          have hrow := HROW.out x0
          rw [hrd] at hc0 hc1 hc2
          generalize g.getD x0 [] = row at hA hc0 hc1 hc2 hrow
          have hrl := hc2.2.1
          have hxp := HO.out.old HP0.out
          have hxr := HO.out.old hc0
          obtain ⟨gq, oq, cq, rfl, _, _, _⟩ := Kd.Q_form HQ.out (by simp)
          have hnp : (0 : Int) < (((x0 : Int) :: todo).length : Int) := by simp only [List.length_cons]; omega
          generalize hnq : ((x0 : Int) :: todo).length = nq at HQ hnp ⊢
          clear hnq
          have hnb : decide (0 < nq) = true := decide_eq_true (by omega)
          have hxq := (Kd.Q_cell 0 HQ.out 0 (by decide) (by omega)).1
          rw [show rdOf 0 ((x0 : Int) :: todo) 0 = (x0 : Int) from rfl, show oq + (0 : Int).toNat = oq from rfl] at hxq
          have HA' := Aside0.mk hA
          have HC2 := Aside0.mk hc2
          have HRR := Aside0.mk hrow
          have hx0 : (0 : Int) ≤ (x0 : Int) := by omega
          have hx1 : (x0 : Int) < (g.length : Int) := hx.2
          clear hA hc0 hc1 hc2 hrd hrow HA hx
          go_wp2
          go_quiet (fail)
          generalize hq_ : World.drewN wr _ = wq; have hd_ : Drawn0 wr wq := ⟨_, hq_.symm⟩; clear hq_; replace HO := Aside0.mk (HO.out.drawn hd_); replace HQ := Aside0.mk (Kd.Q_below HQ.out hd_.below); clear hd_
          clear hxp hxr hxq
          go_wp2
          go_loopw [35, 8] (fun v35 v8 wr => ∃ (i : Nat) (out2 : List Bool) (todo2 : List Int), v35 = .int .i64 i ∧ i ≤ row.length ∧ Aside0 (H.visits wo (row.drop i) (out2, todo2) = H.visits wo row (out, (x0 : Int) :: todo)) ∧ Aside0 (out2.length = 12) ∧ Aside0 (1 ≤ todo2.length ∧ ∀ y ∈ todo2, 0 ≤ y ∧ y < (g.length : Int)) ∧ Aside0 (todo2.length + H.off out2 ≤ 12) ∧ Aside0 ((Kd.int .i64).Q 3 wr w.heap.size (fun _ => True) v8 todo2) ∧ Aside0 (H.Own w wr [(ga, H.bcells H.none12, 64), (gb, H.bcells out2, 64)])) (fun v35 _ _ => row.length - (intOf v35).toNat)
          case atStart => exact ⟨0, out, _, rfl, Nat.zero_le _, ⟨by rw [List.drop_zero]⟩, HOL, ⟨⟨by simp, HTY.out⟩⟩, HOF, HQ, HO⟩
          case round =>
            clear HO HQ HOF HTY HOL
            obtain ⟨i, out2, todo2, rfl, hi, HV, HOL, HTY, HOF, HQ, HO⟩ := hrel
            by_cases hlt : i < row.length
            · have hv := HV.out
              rw [visits_drop wo row _ hlt] at hv
              obtain ⟨ad2, e2, hcb⟩ := Kd.at_int HC2.out (i : Int) (by omega) (by omega)
              subst e2
              rw [Int.toNat_natCast] at hcb
              have hby := HRR.out (row.getD i 0) (by rw [List.getD_eq_getElem?_getD, List.getElem?_eq_getElem hlt]; exact List.getElem_mem hlt)
              have hrd2 : rd row (i : Int) = row.getD i 0 := rfl
              rw [hrd2] at hcb
              generalize row.getD i 0 = y at hv hcb hby
              obtain ⟨y0, rfl⟩ : ∃ k : Nat, y = (k : Int) := ⟨y.toNat, by omega⟩
              have hy12 : y0 < 12 := by have := HLL.out.2; omega
              have hcx := HO.out.old hcb
              have hcy := HO.out.bat 1 rfl (j := y0) (by rw [HOL.out]; exact hy12)
              have hy12' : (y0 : Int) < 12 := by omega
              have HY := Aside0.mk hy12
              have HYG := Aside0.mk hby
              have hil : (i : Int) < (row.length : Int) := by omega
              clear hcb hrd2 hby hy12
              cases hb : out2.getD y0 false with
              | true =>
                have hv2 : H.visit wo (out2, todo2) (y0 : Int) = (out2, todo2) := by
                  unfold H.visit
                  rw [if_neg (by rw [Int.toNat_natCast, hb]; simp)]
                rw [hv2] at hv
                rw [hb] at hcy
                have HV' := Aside0.mk hv
                clear hv hv2 hb HV
                go_wp2
                go_roundw
                case rel => exact ⟨i + 1, out2, todo2, by go_num, by omega, HV', HOL, HTY, HOF, HQ, HO⟩
                case measure => simp [intOf]; omega
              | false =>
                rw [hb] at hcy
                by_cases hw : (y0 : Int) = wo
                · have hv2 : H.visit wo (out2, todo2) (y0 : Int) = (out2, todo2) := by
                    unfold H.visit
                    rw [if_neg (fun h => h.2 hw)]
                  rw [hv2] at hv
                  have HV' := Aside0.mk hv
                  have hne : ((y0 : Int) != wo) = false := by rw [hw]; simp
                  clear hv hv2 hb HV hw
                  go_wp2
                  go_roundw
                  case rel => exact ⟨i + 1, out2, todo2, by go_num, by omega, HV', HOL, HTY, HOF, HQ, HO⟩
                  case measure => simp [intOf]; omega
                · have hv2 : H.visit wo (out2, todo2) (y0 : Int) = (out2.set y0 true, todo2 ++ [(y0 : Int)]) := by
                    unfold H.visit
                    rw [if_pos ⟨by rw [Int.toNat_natCast]; exact hb, hw⟩, Int.toNat_natCast]
                  rw [hv2] at hv
                  have hoff := H.off_set (bs := out2) (j := y0) (by rw [HOL.out]; exact HY.out) hb
                  have HV' := Aside0.mk hv
                  have hne : ((y0 : Int) != wo) = true := bne_iff_ne.2 hw
                  have HOF' := Aside0.mk (show (todo2 ++ [(y0 : Int)]).length + H.off (out2.set y0 true) ≤ 12 by rw [List.length_append]; have := HOF.out; simp only [List.length_cons, List.length_nil]; omega)
                  have HTY' := Aside0.mk (show 1 ≤ (todo2 ++ [(y0 : Int)]).length ∧ ∀ y ∈ todo2 ++ [(y0 : Int)], 0 ≤ y ∧ y < (g.length : Int) from ⟨by simp, fun y hy => by
                    rcases List.mem_append.1 hy with e | e
                    · exact HTY.out.2 y e
                    · rw [List.mem_singleton.1 e]; exact HYG.out⟩)
                  clear hv hv2 hb HV hw hoff
                  go_wp2_with (first | ((with_reducible refine gate_store (t := 4) (p := 49) rfl ?_); refine H.own_bput HO.out 1 rfl rfl rfl rfl rfl rfl (by kernel_rfl) (by rw [HOL.out]; exact HY.out) ?_; intro w_ ho_ hg_; replace HQ := Aside0.mk (HO.out.keepQ 1 rfl HQ.out hg_ (by decide)); clear hcy; replace HO := Aside0.mk ho_; clear ho_ hg_) | ((with_reducible refine gate_builtin (b := .append) (xs := #[.tmp 50, .tmp 52]) rfl ?_); at_builtin; refine Kd.Q_append (Kd.int .i64) (w0 := w) w.heap.size rfl (.tmp 50) (.tmp 52) 31 3 (.int .i64 0) 8 rfl Try.underlying31 info3 rfl (by decide) (by omega) u8 todo2 (y0 : Int) [.int .i64 (y0 : Int)] (fun _ => True) (fun _ => False) rfl rfl ?aP (fun _ hk => hk.elim) ?aF ?aO ?aB ?aS ?aL ?_; (case aP => exact rfl); (case aF => exact fun _ _ => trivial); (case aO => exact HQ.out); (case aB => exact HO.out.below); (case aS => exact HO.out.size); (case aL => have := HOF.out; omega); intro v1 w_ ho_ hb_ hg_ hat_; replace HO := Aside0.mk (HO.out.rowQ HQ.out (Nat.le_refl _) hg_ (by simp)); replace HQ := Aside0.mk ho_; clear ho_ hb_ hg_ hat_))
                  go_roundw
                  case rel => exact ⟨i + 1, _, _, by go_num, by omega, HV', ⟨by rw [List.length_set]; exact HOL.out⟩, HTY', HOF', HQ, HO⟩
                  case measure => simp [intOf]; omega
            · have hv := HV.out
              rw [List.drop_of_length_le (by omega)] at hv
              have hA := HA'.out
              rw [← hv] at hA
              have HA := Aside0.mk (show H.bfs g wo k1 (todo2.drop 1) out2 = some R from hA)
              have h2 := HTY.out.1
              clear hv hA HV HA'
              obtain ⟨gq2, oq2, cq2, rfl, _, _, _⟩ := Kd.Q_form HQ.out (by omega)
              obtain ⟨ti, hti, hz⟩ := Option.map_eq_some_iff.1 info3
              simp only [Prod.mk.injEq] at hz
              have hq := Kd.Q_drop (k := 1) HQ.out h2
              have hcut : ∀ W : World, (Instr.slice 31 (.slice (some ⟨gq2, oq2, none⟩) todo2.length cq2) (some (.int .i64 1)) none none).run Try.prog W = .ok (.slice (if cq2 = 1 then some ⟨gq2, oq2, none⟩ else (some (⟨gq2, oq2, none⟩ : Addr)).map (·.add (1 * (Kd.int .i64).sz))) (todo2.length - 1) (cq2 - 1)) W := cut_from 31 3 .i64 Try.underlying31 hti 1 hz.2.1 _ _ _ 1 (by decide) (by omega)
              generalize (if cq2 = 1 then some ⟨gq2, oq2, none⟩ else (some (⟨gq2, oq2, none⟩ : Addr)).map (·.add (1 * (Kd.int .i64).sz))) = A2 at hq hcut
              have HQ2 := Aside0.mk hq
              clear hq hti hz HQ
              go_wp2
              go_roundg k1
              case measure => have := HK.out; omega
              case rel => exact ⟨todo2.drop 1, out2, HA, ⟨by have := HK.out; omega⟩, HOL, ⟨fun y hy => HTY.out.2 y (List.mem_of_mem_drop hy)⟩, ⟨by have := HOF.out; rw [List.length_drop]; omega⟩, HQ2, HO⟩
end Go.Proofs.Ytplcipjlkogadaa.P
