import Derived.Test.YtplcipjlkogadaaMFnExactIsStrict1
import Derived.Test.YtplcipjlkogadaaMFnExactIsStrict2
set_option linter.unusedVariables false
set_option linter.unusedSimpArgs false
namespace Go.Proofs.Ytplcipjlkogadaa.Q
open Go.RowKit Go.Proofs.Ytplcipjlkogadaa.P Go.Proofs.Ytplcipjlkogadaa.H Go.Proofs.YtplcipjlkogadaaW.PrintWords
theorem srt_sub_len : ∀ {b a : List Int}, Srt a → Srt b → (∀ y ∈ a, y ∈ b) → a.length ≤ b.length ∧ (a.length = b.length → a = b)
  | [], a, _, _, h => by
    have : a = [] := List.eq_nil_iff_forall_not_mem.2 (fun y hy => by have := h y hy; simp at this)
    subst this
    simp
  | y :: b, [], _, _, _ => by simp
  | y :: b, x :: a, ha, hb, h => by
    have ha' := List.pairwise_cons.1 ha
    have hb' := List.pairwise_cons.1 hb
    by_cases e : x = y
    · subst e
      have ih := srt_sub_len (b := b) (a := a) ha'.2 hb'.2 (fun z hz => by
        rcases List.mem_cons.1 (h z (by simp [hz])) with e | e
        · have := ha'.1 z hz; omega
        · exact e)
      refine ⟨by simp only [List.length_cons]; omega, fun hl => ?_⟩
      rw [ih.2 (by simp only [List.length_cons] at hl; omega)]
    · have hx : x ∈ b := by
        rcases List.mem_cons.1 (h x (by simp)) with e2 | e2
        · exact absurd e2 e
        · exact e2
      have hxy := hb'.1 x hx
      have ih := srt_sub_len (b := b) (a := x :: a) ha hb'.2 (fun z hz => by
        rcases List.mem_cons.1 (h z hz) with e2 | e2
        · rcases List.mem_cons.1 hz with e3 | e3
          · omega
          · have := ha'.1 z e3; omega
        · exact e2)
      have := ih.1
      exact ⟨by simp only [List.length_cons] at *; omega, fun hl => by simp only [List.length_cons] at *; omega⟩
theorem listTo_mem (bs : List Bool) (n : Nat) (y : Int) : y ∈ listTo bs n ↔ ∃ j, j < n ∧ y = (j : Int) ∧ bs.getD j false = true := by
  unfold listTo
  simp only [List.mem_map, List.mem_filter, List.mem_range]
  constructor
  · rintro ⟨j, ⟨h1, h2⟩, rfl⟩
    exact ⟨j, h1, rfl, h2⟩
  · rintro ⟨j, h1, rfl, h2⟩
    exact ⟨j, ⟨h1, h2⟩, rfl⟩
theorem listTo_srt (bs : List Bool) : ∀ n, Srt (listTo bs n)
  | 0 => by simp [listTo, Srt]
  | n + 1 => by
    rw [listTo_step]
    split
    · unfold Srt
      rw [List.pairwise_append]
      refine ⟨listTo_srt bs n, by simp, fun x hx y hy => ?_⟩
      obtain ⟨j, h1, rfl, _⟩ := (listTo_mem bs n x).1 hx
      rw [List.mem_singleton.1 hy]
      omega
    · exact listTo_srt bs n
theorem srt_len12 {l : List Int} (h : Srt l) (hb : ∀ y ∈ l, 0 ≤ y ∧ y < 12) : l.length ≤ 12 := by
  have h1 := srt_sub_len (b := (List.range 12).map (fun j : Nat => (j : Int))) h (by unfold Srt; decide) (fun y hy => by
    have := hb y hy
    exact List.mem_map.2 ⟨y.toNat, List.mem_range.2 (by omega), by omega⟩)
  have := h1.1
  simpa using this
theorem goodG_small {g : List (List Int)} (hG : goodG g = true) : Small g := by
  have hr := goodG_rows hG
  refine ⟨by omega, fun l hl => ?_⟩
  have h := hG
  unfold goodG at h
  simp only [Bool.and_eq_true, decide_eq_true_eq, List.all_eq_true] at h
  have hs : Srt l := by
    have hu := h.2 l hl
    refine List.pairwise_iff_getElem.2 ?_
    have hstep : ∀ j, j + 1 < l.length → l.getD j 0 < l.getD (j + 1) 0 := by
      intro j hj
      have h1 := of_decide_eq_true hu (j + 1) hj (Nat.zero_le _)
      unfold upAt at h1
      simp only [Bool.and_eq_true, Bool.or_eq_true, decide_eq_true_eq] at h1
      rcases h1.2 with h2 | h2
      · omega
      · exact h2
    intro i j hi hj hij
    have : ∀ d, i + d + 1 < l.length → l.getD i 0 < l.getD (i + d + 1) 0 := by
      intro d
      induction d with
      | zero => intro h; exact hstep i h
      | succ d ih => intro h; exact Int.lt_trans (ih (by omega)) (hstep (i + d + 1) h)
    have := this (j - i - 1) (by omega)
    rw [show i + (j - i - 1) + 1 = j by omega, List.getD_eq_getElem?_getD, List.getElem?_eq_getElem hi, List.getD_eq_getElem?_getD, List.getElem?_eq_getElem hj] at this
    exact this
  have := srt_len12 hs (fun y hy => by have := hr.2 l hl y hy; omega)
  omega
theorem mem12 {g : List (List Int)} (hG : goodG g = true) {wo y : Int} (h : Rch g wo 0 y) : 0 ≤ y ∧ y < 12 := by
  have hr := goodG_rows hG
  have := h.rng hG (by decide) (by omega)
  omega
structure Snd (g : List (List Int)) (wo : Int) (acc : List Int) : Prop where
  srt : Srt acc
  snd : ∀ y ∈ acc, Rch g wo 0 y
theorem Snd.len {g : List (List Int)} {wo : Int} {acc : List Int} (hG : goodG g = true) (h : Snd g wo acc) : acc.length ≤ 12 := srt_len12 h.srt (fun y hy => mem12 hG (h.snd y hy))
theorem Snd.put {g : List (List Int)} {wo y : Int} {acc : List Int} (h : Snd g wo acc) (hy : Rch g wo 0 y) : Snd g wo (putL acc y) := ⟨putL_srt y acc h.srt, fun z hz => by
  rcases (putL_mem y acc z).1 hz with e | e
  · exact h.snd z e
  · rw [e]; exact hy⟩
theorem reach_row {g : List (List Int)} (hG : goodG g = true) {wo : Int} {i : Nat} (hi : i < g.length) (n0 : Int) (row : List Int) (hrow : row = g.getD i []) (hx : Rch g wo 0 (i : Int)) :
    ∀ (d m : Nat) (acc : List Int), m + d = row.length → Snd g wo acc → ∃ acc', Snd g wo acc' ∧ (∀ y ∈ acc, y ∈ acc') ∧ (∀ y ∈ row.drop m, y ≠ wo → y ∈ acc') ∧
      ∀ r, Ev (fun k => spec_l10Reach.l1 k wo acc' n0 g (g.length : Int) ((i : Int) + 1) g) r → Ev (fun k => spec_l10Reach.l2 k wo acc n0 g (g.length : Int) (i : Int) row (row.length : Int) (m : Int) g) r := by
  have hr := goodG_rows hG
  intro d
  induction d with
  | zero =>
    intro m acc hm h
    refine ⟨acc, h, fun _ h => h, fun y hy => by rw [List.drop_of_length_le (by omega)] at hy; simp at hy, fun r hr => ?_⟩
    refine Ev.step (fun k => ?_) hr
    simp only [spec_l10Reach.l2]
    rw [if_neg (by omega), w64 (by omega) (by omega)]
  | succ d ih =>
    intro m acc hm h
    have hml : m < row.length := by omega
    have hsm := (goodG_small hG).at hi
    rw [← hrow] at hsm
    have hdrop := drop_eq hml
    have hval : rd row (m : Int) = row.getD m 0 := rfl
    have hmem : row.getD m 0 ∈ row := by
      rw [List.getD_eq_getElem?_getD, List.getElem?_eq_getElem hml]
      exact List.getElem_mem hml
    by_cases e : row.getD m 0 = wo
    · obtain ⟨acc', h1, h2, h3, h4⟩ := ih (m + 1) acc (by omega) h
      refine ⟨acc', h1, h2, fun y hy hw => ?_, fun r hr => ?_⟩
      · rw [hdrop] at hy
        rcases List.mem_cons.1 hy with q | q
        · exact absurd (q.trans e) hw
        · exact h3 y q hw
      · refine Ev.step (fun k => ?_) (h4 r hr)
        simp only [spec_l10Reach.l2]
        rw [if_pos (by omega), if_pos (by omega), if_pos (by omega), hval, if_pos e, w64 (by omega) (by omega)]
        rfl
    · have hry : Rch g wo 0 (row.getD m 0) := .on hx (by rw [Int.toNat_natCast, ← hrow]; exact hmem) e
      obtain ⟨acc', h1, h2, h3, h4⟩ := ih (m + 1) (putL acc (row.getD m 0)) (by omega) (h.put hry)
      refine ⟨acc', h1, fun y hy => h2 y ((putL_mem _ _ _).2 (.inl hy)), fun y hy hw => ?_, fun r hr => ?_⟩
      · rw [hdrop] at hy
        rcases List.mem_cons.1 hy with q | q
        · exact h2 y ((putL_mem _ _ _).2 (.inr q))
        · exact h3 y q hw
      · have hh := h4 r hr
        rw [show ((m + 1 : Nat) : Int) = (m : Int) + 1 from rfl] at hh
        refine Ev.step (fun k => ?_) ((put_ev acc (row.getD m 0) (by have := h.len hG; omega)).bind (f := fun k v => spec_l10Reach.l2 k wo v n0 g (g.length : Int) (i : Int) row (row.length : Int) ((m : Int) + 1) g) hh)
        simp only [spec_l10Reach.l2]
        rw [if_pos (by omega), if_pos (by omega), if_pos (by omega), hval, if_neg e, w64 (by omega) (by omega)]
theorem reach_pass {g : List (List Int)} (hG : goodG g = true) {wo : Int} (n0 : Int) :
    ∀ (d i : Nat) (acc : List Int), i + d = g.length → Snd g wo acc → ∃ acc', Snd g wo acc' ∧ (∀ y ∈ acc, y ∈ acc') ∧ (∀ j : Nat, i ≤ j → j < g.length → (j : Int) ∈ acc → ∀ y ∈ g.getD j [], y ≠ wo → y ∈ acc') ∧
      ∀ r, Ev (fun k => if (acc'.length : Int) = n0 then some acc' else spec_l10Reach.l0 k wo acc' g) r → Ev (fun k => spec_l10Reach.l1 k wo acc n0 g (g.length : Int) (i : Int) g) r := by
  have hr := goodG_rows hG
  intro d
  induction d with
  | zero =>
    intro i acc hi h
    refine ⟨acc, h, fun _ h => h, fun j h1 h2 => by omega, fun r hr => ?_⟩
    refine Ev.step (fun k => ?_) hr
    simp only [spec_l10Reach.l1]
    rw [if_neg (by omega)]
  | succ d ih =>
    intro i acc hi h
    have hil : i < g.length := by omega
    have hlen := h.len hG
    have hhas := has_ev acc (i : Int) (by omega)
    have er : rd_L1 g (i : Int) = g.getD i [] := rfl
    by_cases e : (i : Int) ∈ acc
    · obtain ⟨a1, q1, q2, q3, q4⟩ := reach_row hG hil n0 (g.getD i []) rfl (h.snd _ e) (g.getD i []).length 0 acc (by omega) h
      obtain ⟨acc', h1, h2, h3, h4⟩ := ih (i + 1) a1 (by omega) q1
      refine ⟨acc', h1, fun y hy => h2 y (q2 y hy), fun j j1 j2 hj y hy hw => ?_, fun r hr => ?_⟩
      · by_cases ej : j = i
        · subst ej
          exact h2 y (q3 y (by rw [List.drop_zero]; exact hy) hw)
        · exact h3 j (by omega) j2 (q2 _ hj) y hy hw
      · refine Ev.step (fun k => ?_) (hhas.bind (f := fun k v => if v = true then spec_l10Reach.l2 k wo acc n0 g (g.length : Int) (i : Int) (g.getD i []) ((g.getD i []).length : Int) 0 g else spec_l10Reach.l1 k wo acc n0 g (g.length : Int) ((i : Int) + 1) g) ?_)
        · simp only [spec_l10Reach.l1]
          rw [if_pos (by omega), if_pos (by omega), if_pos (by omega), er, w64 (by omega) (by omega)]
        · rw [decide_eq_true e]
          refine Ev.congr (fun k => by rw [if_pos rfl]; rfl) (q4 r ?_)
          exact h4 r hr
    · obtain ⟨acc', h1, h2, h3, h4⟩ := ih (i + 1) acc (by omega) h
      refine ⟨acc', h1, h2, fun j j1 j2 hj y hy hw => ?_, fun r hr => ?_⟩
      · by_cases ej : j = i
        · subst ej
          exact absurd hj e
        · exact h3 j (by omega) j2 hj y hy hw
      · refine Ev.step (fun k => ?_) (hhas.bind (f := fun k v => if v = true then spec_l10Reach.l2 k wo acc n0 g (g.length : Int) (i : Int) (g.getD i []) ((g.getD i []).length : Int) 0 g else spec_l10Reach.l1 k wo acc n0 g (g.length : Int) ((i : Int) + 1) g) ?_)
        · simp only [spec_l10Reach.l1]
          rw [if_pos (by omega), if_pos (by omega), if_pos (by omega), er, w64 (by omega) (by omega)]
        · rw [decide_eq_false e]
          refine Ev.congr (fun k => by rw [if_neg (by simp)]; rfl) (h4 r hr)
theorem listTo_reach {g : List (List Int)} (hG : goodG g = true) {wo : Int} (y : Int) : y ∈ listTo (reachF g 0 wo) 12 ↔ Rch g wo 0 y := by
  have hr := goodG_rows hG
  rw [listTo_mem]
  constructor
  · rintro ⟨j, hj, rfl, hb⟩
    exact (reach_iff hG (by decide) (by omega) hj).1 hb
  · intro h
    have := mem12 hG h
    refine ⟨y.toNat, by omega, by omega, ?_⟩
    rw [reach_iff hG (by decide) (by omega) (by omega), Int.toNat_of_nonneg this.1]
    exact h
theorem reach_all {g : List (List Int)} (hG : goodG g = true) {wo : Int} (hw : wo ≠ 0) : ∀ (m : Nat) (acc : List Int), Snd g wo acc → (0 : Int) ∈ acc → 13 ≤ acc.length + m → Ev (fun k => spec_l10Reach.l0 k wo acc g) (listTo (reachF g 0 wo) 12) := by
  intro m
  induction m with
  | zero => intro acc h _ hm; have := h.len hG; omega
  | succ m ih =>
    intro acc h h0 hm
    obtain ⟨acc', h1, h2, h3, h4⟩ := reach_pass hG (acc.length : Int) g.length 0 acc (by omega) h
    refine Ev.step (fun k => by simp only [spec_l10Reach.l0]; rfl) (h4 _ ?_)
    have hsub := srt_sub_len h.srt h1.srt h2
    by_cases e : acc'.length = acc.length
    · have eq := hsub.2 e.symm
      subst eq
      refine Ev.congr (fun k => by rw [if_pos rfl]) ?_
      have : acc = listTo (reachF g 0 wo) 12 := by
        refine srt_ext h.srt (listTo_srt _ _) (fun y => ?_)
        rw [listTo_reach hG]
        constructor
        · exact h.snd y
        · intro hy
          induction hy with
          | here _ => exact h0
          | on hx hyx hyw ih2 =>
            have hrx := hx.rng hG (by decide) (by have := goodG_rows hG; omega)
            exact h3 _ (Nat.zero_le _) (by omega) (by rw [Int.toNat_of_nonneg hrx.1]; exact ih2) _ hyx hyw
      rw [this]
      exact Ev.now _
    · refine Ev.congr (fun k => by rw [if_neg (by omega)]) (ih acc' h1 (h2 0 h0) (by omega))
theorem specReach_ev {g : List (List Int)} (hG : goodG g = true) (wo : Int) : Ev (fun k => spec_l10Reach.f k g wo) (listTo (reachF g 0 wo) 12) := by
  unfold spec_l10Reach.f
  by_cases e : wo = 0
  · refine Ev.congr (fun k => by rw [if_pos e]) ?_
    have : listTo (reachF g 0 wo) 12 = [] := by
      unfold reachF
      rw [if_pos e.symm]
      rfl
    rw [this]
    exact Ev.now _
  · refine Ev.congr (fun k => by rw [if_neg e]) (reach_all hG e 12 [0] ⟨by simp [Srt], fun y hy => by rw [List.mem_singleton.1 hy]; exact .here (fun h => e h.symm)⟩ (by simp) (by simp))
theorem listTo_small (bs : List Bool) : (listTo bs 12).length ≤ 1048576 := by have := listTo_len bs 12; omega
end Go.Proofs.Ytplcipjlkogadaa.Q

namespace Go.Proofs.Ytplcipjlkogadaa.Q
open Go.RowKit Go.Proofs.Ytplcipjlkogadaa.P Go.Proofs.Ytplcipjlkogadaa.H Go.Proofs.YtplcipjlkogadaaW.PrintWords
structure Rel (n : Nat) (mem : Nat → Int → Prop) (xs : List (List Int)) : Prop where
  len : xs.length = n
  srt : ∀ b, b < n → Srt (xs.getD b [])
  mem : ∀ b, b < n → ∀ y, y ∈ xs.getD b [] ↔ mem b y
theorem Rel.congr {n : Nat} {m m' : Nat → Int → Prop} {xs : List (List Int)} (h : Rel n m xs) (e : ∀ b, b < n → ∀ y, m b y ↔ m' b y) : Rel n m' xs := ⟨h.len, h.srt, fun b hb y => (h.mem b hb y).trans (e b hb y)⟩
theorem Rel.nil (n : Nat) {m : Nat → Int → Prop} (e : ∀ b, b < n → ∀ y, ¬ m b y) : Rel n m (List.replicate n []) := by
  have he : ∀ b, (List.replicate n ([] : List Int)).getD b [] = [] := by
    intro b
    rw [List.getD_eq_getElem?_getD, List.getElem?_replicate]
    split <;> rfl
  exact ⟨by simp, fun b _ => by rw [he]; exact List.Pairwise.nil, fun b hb y => by rw [he]; simp [e b hb y]⟩
theorem getD_setL {xs : List (List Int)} {k b : Nat} {v : List Int} (hk : k < xs.length) : (xs.set k v).getD b [] = if b = k then v else xs.getD b [] := by
  by_cases e : b = k
  · subst e
    rw [if_pos rfl, List.getD_eq_getElem?_getD, List.getElem?_set_self hk]
    rfl
  · rw [if_neg e, List.getD_eq_getElem?_getD, List.getElem?_set_ne (fun h => e h.symm), List.getD_eq_getElem?_getD]
theorem Rel.put {n : Nat} {m : Nat → Int → Prop} {xs : List (List Int)} (h : Rel n m xs) {k : Nat} (hk : k < n) (x : Int) : Rel n (fun b y => m b y ∨ (b = k ∧ y = x)) (xs.set k (putL (xs.getD k []) x)) := by
  have hkl : k < xs.length := by rw [h.len]; exact hk
  refine ⟨by rw [List.length_set]; exact h.len, fun b hb => ?_, fun b hb y => ?_⟩
  · rw [getD_setL hkl]
    split
    · exact putL_srt _ _ (h.srt k hk)
    · exact h.srt b hb
  · rw [getD_setL hkl]
    by_cases e : b = k
    · subst e
      rw [if_pos rfl, putL_mem, h.mem b hb]
      simp
    · rw [if_neg e, h.mem b hb]
      simp [e]
theorem Rel.uniq {n : Nat} {m : Nat → Int → Prop} {xs ys : List (List Int)} (h : Rel n m xs) (h' : Rel n m ys) : xs = ys := by
  refine List.ext_getElem (by rw [h.len, h'.len]) (fun b h1 h2 => ?_)
  have hb : b < n := by rw [← h.len]; exact h1
  have e1 : xs.getD b [] = xs[b] := by rw [List.getD_eq_getElem?_getD, List.getElem?_eq_getElem h1]; rfl
  have e2 : ys.getD b [] = ys[b] := by rw [List.getD_eq_getElem?_getD, List.getElem?_eq_getElem h2]; rfl
  rw [← e1, ← e2]
  exact srt_ext (h.srt b hb) (h'.srt b hb) (fun y => (h.mem b hb y).trans (h'.mem b hb y).symm)
theorem Rel.len12 {n : Nat} {m : Nat → Int → Prop} {xs : List (List Int)} (h : Rel n m xs) (hm : ∀ b, b < n → ∀ y, m b y → 0 ≤ y ∧ y < 12) {b : Nat} (hb : b < n) : (xs.getD b []).length ≤ 12 := srt_len12 (h.srt b hb) (fun y hy => hm b hb y ((h.mem b hb y).1 hy))
theorem rel_mat (f : Nat → Nat → Bool) (n : Nat) : Rel n (fun b y => ∃ j : Nat, j < 12 ∧ y = (j : Int) ∧ f b j = true) ((matF f n).map (fun r => listTo r 12)) := by
  have he : ∀ b, b < n → ((matF f n).map (fun r => listTo r 12)).getD b [] = listTo (rowF (f b)) 12 := by
    intro b hb
    unfold matF
    rw [List.getD_eq_getElem?_getD, List.getElem?_map, List.getElem?_map, List.getElem?_range hb]
    rfl
  refine ⟨by rw [List.length_map, matF_len], fun b hb => by rw [he b hb]; exact listTo_srt _ _, fun b hb y => ?_⟩
  rw [he b hb, listTo_mem]
  constructor
  · rintro ⟨j, h1, h2, h3⟩
    exact ⟨j, h1, h2, by rwa [rowF_get h1] at h3⟩
  · rintro ⟨j, h1, h2, h3⟩
    exact ⟨j, h1, h2, by rwa [rowF_get h1]⟩
def domL (g : List (List Int)) : List (List Int) := (domF g).map (fun r => listTo r 12)
def domM (g : List (List Int)) (b : Nat) (y : Int) : Prop := (y ∈ listTo (reachF g 0 (-1)) 12) ∧ ((b : Int) ∈ listTo (reachF g 0 (-1)) 12) ∧ ¬ (b : Int) ∈ listTo (reachF g 0 y) 12
theorem reach_bit {g : List (List Int)} (hG : goodG g = true) (wo : Int) {j : Nat} (hj : j < 12) : (j : Int) ∈ listTo (reachF g 0 wo) 12 ↔ (reachF g 0 wo).getD j false = true := by
  rw [listTo_mem]
  constructor
  · rintro ⟨i, _, e, h⟩
    rwa [show j = i by omega]
  · intro h
    exact ⟨j, hj, rfl, h⟩
theorem domL_rel {g : List (List Int)} (hG : goodG g = true) : Rel g.length (domM g) (domL g) := by
  have hr := goodG_rows hG
  refine (rel_mat _ _).congr (fun b hb y => ?_)
  constructor
  · rintro ⟨j, h1, rfl, h2⟩
    unfold domV at h2
    simp only [Bool.and_eq_true, decide_eq_true_eq, Bool.not_eq_true'] at h2
    exact ⟨(reach_bit hG _ h1).2 h2.2.1, (reach_bit hG _ (by omega)).2 h2.2.2.1, fun h => by rw [reach_bit hG _ (by omega), h2.2.2.2] at h; cases h⟩
  · rintro ⟨h1, h2, h3⟩
    have hy := (listTo_reach hG y).1 h1
    have hyr := hy.rng hG (by decide) (by omega)
    refine ⟨y.toNat, by omega, by omega, ?_⟩
    have e : ((y.toNat : Nat) : Int) = y := by omega
    unfold domV
    simp only [Bool.and_eq_true, decide_eq_true_eq, Bool.not_eq_true']
    refine ⟨by omega, (reach_bit hG _ (by omega)).1 (by rw [e]; exact h1), (reach_bit hG _ (by omega)).1 h2, ?_⟩
    rw [e]
    cases hb2 : (reachF g 0 y).getD b false with
    | false => rfl
    | true => exact absurd ((reach_bit hG _ (by omega)).2 hb2) h3
def prdL (g : List (List Int)) : List (List Int) := (prdF g).map (fun r => listTo r 12)
def prdM (g : List (List Int)) (x : Nat) (y : Int) : Prop := (y ∈ listTo (reachF g 0 (-1)) 12) ∧ (x : Int) ∈ g.getD y.toNat []
theorem prdL_rel {g : List (List Int)} (hG : goodG g = true) : Rel g.length (prdM g) (prdL g) := by
  have hr := goodG_rows hG
  refine (rel_mat _ _).congr (fun x hx y => ?_)
  constructor
  · rintro ⟨j, h1, rfl, h2⟩
    unfold prdV at h2
    simp only [Bool.and_eq_true, decide_eq_true_eq] at h2
    exact ⟨(reach_bit hG _ h1).2 h2.2.2, by rw [Int.toNat_natCast]; exact h2.2.1⟩
  · rintro ⟨h1, h2⟩
    have hy := (listTo_reach hG y).1 h1
    have hyr := hy.rng hG (by decide) (by omega)
    refine ⟨y.toNat, by omega, by omega, ?_⟩
    unfold prdV
    simp only [Bool.and_eq_true, decide_eq_true_eq]
    exact ⟨by omega, h2, (reach_bit hG _ (by omega)).1 (by rw [show ((y.toNat : Nat) : Int) = y by omega]; exact h1)⟩
end Go.Proofs.Ytplcipjlkogadaa.Q

namespace Go.Proofs.Ytplcipjlkogadaa.P
open Go.RowKit Go.Proofs.YtplcipjlkogadaaW.PrintWords Go.Proofs.YtplcipjlkogadaaW.PrintLast Go.Proofs.YtplcipjlkogadaaW.PrintMore
attribute [local go_sem] max2_int min2_int max_two min_two max_three min_three max_four min_four
theorem run_idx12 (w : World) (bs : List Bool) (hb : bs.length = 12) (j : Nat) (hj : j < 12) : (Instr.index 64 (.agg (H.bcells bs)) (.int .i64 (j : Int))).run Try.prog w = .ok (.bool (bs.getD j false)) w := by
  have h0 : (0 : Int) ≤ (j : Int) := by omega
  have h1 : (j : Int) < ((12 : Nat) : Int) := by omega
  have hi : (Try.prog.info? 4).map (·.size) = some 1 := by kernel_rfl
  obtain ⟨i, hq, hs⟩ := Option.map_eq_some_iff.1 hi
  unfold H.bcells
  simp [Instr.index, run_underlying Try.underlying64, run_underlying Try.underlying4, asIntOf, h0, h1, part, isAgg, sizeOf, typeInfo, hq, hs, Sem.run_bind, go_sem]
  obtain ⟨v, hv⟩ : ∃ v, bs[j]? = some v := ⟨_, List.getElem?_eq_getElem (by omega)⟩
  rw [if_pos hj, hv]
  rfl
theorem madeCells12 (n : Nat) : madeCells #[.bool false, .bool false, .bool false, .bool false, .bool false, .bool false, .bool false, .bool false, .bool false, .bool false, .bool false, .bool false] (n * 12) = H.bcells (List.replicate n H.none12).flatten := by
  unfold H.none12
  rw [List.flatten_replicate_replicate]
  apply Array.ext
  · rw [size_madeCells, H.bcells_size, List.length_replicate]
  · intro i h1 h2
    have h3 : i % 12 < 12 := Nat.mod_lt _ (by decide)
    have e : ∀ k, k < 12 → (#[Value.bool false, .bool false, .bool false, .bool false, .bool false, .bool false, .bool false, .bool false, .bool false, .bool false, .bool false, .bool false] : Array Value)[k]! = .bool false := by
      intro k hk
      match k, hk with
      | 0, _ | 1, _ | 2, _ | 3, _ | 4, _ | 5, _ | 6, _ | 7, _ | 8, _ | 9, _ | 10, _ | 11, _ => rfl
    simp only [madeCells, H.bcells, Array.getElem_map, Array.getElem_range, List.getElem_toArray, List.getElem_map, List.getElem_replicate]
    exact e _ h3
theorem make_sets (W : World) (n : Nat) (hn : n ≤ 1048576) : (Instr.makeSlice 69 (.int .i64 (n : Int)) (.int .i64 (n : Int))).run Try.prog W = .ok (.slice (some ⟨W.heap.size, 0, none⟩) n n) (W.alloc (.cells (H.bcells (List.replicate n H.none12).flatten) 64)) := by
  have hi : (Try.prog.info? 64).map (fun i => (i.zero, i.size, i.bytes)) = some (some (.agg #[.bool false, .bool false, .bool false, .bool false, .bool false, .bool false, .bool false, .bool false, .bool false, .bool false, .bool false, .bool false]), 12, 12) := by kernel_rfl
  obtain ⟨i, hq, hs⟩ := Option.map_eq_some_iff.1 hi
  simp only [Prod.mk.injEq] at hs
  have h := run_make (P := Try.prog) W 69 64 i _ Try.underlying69 hq hs.1 .i64 .i64 (n : Int) (n : Int) (by omega) (by omega) (by rw [hs.2.2]; omega) (by omega)
  rw [h, hs.2.1, Int.toNat_natCast]
  simp only [Value.cells]
  rw [madeCells12]
theorem visits_drop (wo : Int) (row : List Int) (s : List Bool × List Int) {i : Nat} (hi : i < row.length) : H.visits wo (row.drop i) s = H.visits wo (row.drop (i + 1)) (H.visit wo s (row.getD i 0)) := by
  rw [List.drop_eq_getElem_cons hi, List.getD_eq_getElem?_getD, List.getElem?_eq_getElem hi]
  rfl
set_option maxHeartbeats 8000000 in
set_option maxRecDepth 100000 in
theorem impl_reach.calls (p : Addr) (A0 : Option Addr) (c0 : Nat) (g : List (List Int)) (s wo : Int) (w : World) (hp0 : w.cell? p = some (.slice A0 g.length c0)) (hr0 : Kd.C (Kd.slice 3 (Kd.int .i64)) w A0 g.length g) (hG : H.goodG g = true) (h0 : 0 ≤ s) (h1 : s < (g.length : Int)) :
    Calls Try.prog 61 #[.pointer (some p), .int .i64 s, .int .i64 wo] w fun e w' => e = .returned (.agg (H.bcells (H.reachF g s wo))) ∧ Below w.heap.size w w' := by
  have hn0 := hr0.2.1
  have hr := H.goodG_rows hG
  have h12 : s < 12 := by omega
  have HP0 := Aside0.mk hp0
  have HR0 := Aside0.mk hr0
  have HG := Aside0.mk hG
  have HROW := Aside0.mk (H.goodG_row hG)
  have HLL := Aside0.mk hr.1
  have HI := Aside0.mk (show (Try.prog.info? 64).map (·.size) = some 12 by kernel_rfl)
  have HN := Aside0.mk (show H.none12.length = 12 from rfl)
  have HO := Aside0.mk (H.Own.nil w)
  have HB1 := Aside0.mk (show H.bcells H.none12 = #[.bool false, .bool false, .bool false, .bool false, .bool false, .bool false, .bool false, .bool false, .bool false, .bool false, .bool false, .bool false] from rfl)
  clear hp0 hr0 hr
  by_cases hs : s = wo
  · subst hs
    have hR : H.reachF g s s = H.none12 := by unfold H.reachF; rw [if_pos rfl]
    rw [hR]
    clear hR hG
    go_enter Try.func61, Try.ntmps61
    go_wp2_with (first | ((with_reducible refine gate_dst (N := 6) rfl ?_); refine H.own_box HO.out ?hg (N := 6) ?hd (cs := H.bcells H.none12) (t := 64) ?hr ?_; (case hd => rfl); (case hg => rfl); (case hr => first | (go_simp; done) | (go_simp; rfl)); intro ga w_ ho_ hb_; replace HO := Aside0.mk ho_; clear ho_ hb_) | ((with_reducible refine gate_dst (N := 7) rfl ?_); refine H.own_box HO.out ?hg (N := 7) ?hd (cs := H.bcells H.none12) (t := 64) ?hr ?_; (case hd => rfl); (case hg => rfl); (case hr => first | (go_simp; done) | (go_simp; rfl)); intro gb w_ ho_ hb_; replace HO := Aside0.mk ho_; clear ho_ hb_) | ((with_reducible refine gate_store (t := 64) (p := 7) rfl ?_); refine H.own_ball HO.out 1 (bs' := H.none12) rfl rfl rfl rfl rfl rfl HI.out rfl ?_; intro w_ ho_ hg_; replace HO := Aside0.mk ho_; clear ho_ hg_) | ((with_reducible refine gate_dst (N := 15) rfl ?_); refine wpList_load_row rfl 64 (.tmp 7) rfl _ rfl 64 _ (0, 0) _ (HO.out.get 1 rfl) Try.underlying64 rfl HI.out ?_) | ((with_reducible refine gate_store (t := 64) (p := 6) rfl ?_); refine H.own_ball HO.out 0 (bs' := H.none12) rfl rfl rfl rfl rfl rfl HI.out rfl ?_; intro w_ ho_ hg_; replace HO := Aside0.mk ho_; clear ho_ hg_))
    (try simp only [Exit.inBlock, Exit.then])
    refine bodyPost_ret (results_cell_row rfl _ _ ga _ (H.bcells H.none12) (0, 0) _ rfl (HO.out.get 0 rfl) Try.underlying64 rfl HI.out) rfl ?_
    exact ⟨rfl, HO.out.below⟩
  · obtain ⟨hb, _⟩ := H.reach_some hG h0 h1 hs
    have hst := H.srch_start g h0 h12 hs
    generalize H.reachF g s wo = R at hb
    have HBF := Aside0.mk hb
    have HST := Aside0.mk hst
    have hsb : (s == wo) = false := beq_eq_false_iff_ne.2 hs
    obtain ⟨s0, rfl⟩ : ∃ k : Nat, s = (k : Int) := ⟨s.toNat, by omega⟩
    have hs0 : s0 < 12 := by omega
    have HS0 := Aside0.mk hs0
    clear hb hst hG hs
    go_enter Try.func61, Try.ntmps61
    go_wp2_with (first | ((with_reducible refine gate_dst (N := 6) rfl ?_); refine H.own_box HO.out ?hg (N := 6) ?hd (cs := H.bcells H.none12) (t := 64) ?hr ?_; (case hd => rfl); (case hg => rfl); (case hr => first | (go_simp; done) | (go_simp; rfl)); intro ga w_ ho_ hb_; replace HO := Aside0.mk ho_; clear ho_ hb_) | ((with_reducible refine gate_dst (N := 7) rfl ?_); refine H.own_box HO.out ?hg (N := 7) ?hd (cs := H.bcells H.none12) (t := 64) ?hr ?_; (case hd => rfl); (case hg => rfl); (case hr => first | (go_simp; done) | (go_simp; rfl)); intro gb w_ ho_ hb_; replace HO := Aside0.mk ho_; clear ho_ hb_) | ((with_reducible refine gate_store (t := 64) (p := 7) rfl ?_); refine H.own_ball HO.out 1 (bs' := H.none12) rfl rfl rfl rfl rfl rfl HI.out rfl ?_; intro w_ ho_ hg_; replace HO := Aside0.mk ho_; clear ho_ hg_) | ((with_reducible refine gate_store (t := 4) (p := 17) rfl ?_); refine H.own_bput HO.out 1 rfl rfl rfl rfl rfl rfl (by kernel_rfl) (by rw [HN.out]; exact HS0.out) ?_; intro w_ ho_ hg_; replace HO := Aside0.mk ho_; clear ho_ hg_) | ((with_reducible refine gate_dst (N := 19) rfl ?_); refine Kd.R_lit (Kd.int .i64) (w0 := w) w.heap.size 3 ?hg (N := 19) ?hd (xs := [(s0 : Int)]) (inner := [.int .i64 (s0 : Int)]) (ok := fun _ => True) (okp := fun _ => True) ?hr ?hp (fun _ hk => hk) trivial HO.out.below HO.out.size (by simp) ?_; (case hd => rfl); (case hg => rfl); (case hr => first | (go_simp; done) | (go_simp; rfl)); (case hp => exact Reps.snoc (Reps.none _ _) rfl rfl); intro v8 w_ ho_ hb_ hg_ hnew_; replace HO := Aside0.mk (HO.out.grown hg_ (fun k hk => by cases hk)); have HQ := Aside0.mk (Kd.Q_of_R ho_); clear ho_ hb_ hg_ hnew_))
    rw [Int.toNat_natCast] at HBF HST
    have hoff0 : H.off (H.none12.set s0 true) + 1 = 12 := (H.off_set (by rw [HN.out]; exact HS0.out) (H.none12_get s0)).trans rfl
    have HOF := Aside0.mk (show ([(s0 : Int)]).length + H.off (H.none12.set s0 true) ≤ 12 by simp only [List.length_cons, List.length_nil]; omega)
    have HTY := Aside0.mk (show ∀ y ∈ [(s0 : Int)], 0 ≤ y ∧ y < (g.length : Int) from fun y hy => by rw [List.mem_singleton.1 hy]; exact ⟨h0, h1⟩)
    clear hoff0
    go_loopg [8] 14 (fun kq v8 wr => ∃ (todo : List Int) (out : List Bool), Aside0 (H.bfs g wo kq todo out = some R) ∧ Aside0 (kq ≤ 14) ∧ Aside0 (out.length = 12) ∧ Aside0 (∀ y ∈ todo, 0 ≤ y ∧ y < (g.length : Int)) ∧ Aside0 (todo.length + H.off out ≤ 12) ∧ Aside0 ((Kd.int .i64).Q 3 wr w.heap.size (fun _ => True) v8 todo) ∧ Aside0 (H.Own w wr [(ga, H.bcells H.none12, 64), (gb, H.bcells out, 64)]))
    case atStart => exact ⟨[(s0 : Int)], _, HBF, ⟨Nat.le_refl _⟩, ⟨HST.out.len⟩, HTY, HOF, HQ, HO⟩
    case round =>
      clear HO HQ HBF HST HOF HTY
      obtain ⟨todo, out, HA, HK, HOL, HTY, HOF, HQ, HO⟩ := hrel
      cases gk with
      | zero => exact absurd HA.out (by simp [H.bfs])
      | succ k1 =>
        cases todo with
        | nil =>
          have hA := Option.some.inj HA.out
          subst hA
          obtain ⟨Aq, cq, rfl, _⟩ := Kd.Q_slice HQ.out
          go_wp2_with (first | ((with_reducible refine gate_dst (N := 55) rfl ?_); refine wpList_load_row rfl 64 (.tmp 7) rfl _ rfl 64 _ (0, 0) _ (HO.out.get 1 rfl) Try.underlying64 rfl (by rw [H.bcells_size, HOL.out]; exact HI.out) ?_) | ((with_reducible refine gate_store (t := 64) (p := 6) rfl ?_); refine H.own_ball HO.out 0 (bs' := out) rfl rfl rfl rfl rfl rfl HI.out HOL.out ?_; intro w_ ho_ hg_; replace HO := Aside0.mk ho_; clear ho_ hg_))
          (try simp only [Exit.inBlock, Exit.then])
          refine bodyPost_ret (results_cell_row rfl _ _ ga _ (H.bcells out) (0, 0) _ rfl (HO.out.get 0 rfl) Try.underlying64 rfl (by rw [H.bcells_size, HOL.out]; exact HI.out)) rfl ?_
          exact ⟨rfl, HO.out.below⟩
        | cons x todo =>
          have hA := HA.out
          simp only [H.bfs] at hA
          have hx := HTY.out x (by simp)
          obtain ⟨x0, rfl⟩ : ∃ k : Nat, x = (k : Int) := ⟨x.toNat, by omega⟩
          rw [Int.toNat_natCast] at hA
          obtain ⟨ad, A1, c1, e1, hc0, hc1, hc2⟩ := at_L1 HR0.out (x0 : Int) (by omega) (by omega)
          subst e1
          rw [Int.toNat_natCast] at hc0
          have hrd : rd_L1 g (x0 : Int) = g.getD x0 [] := rfl
          have hrow := HROW.out x0
          rw [hrd] at hc0 hc1 hc2
          generalize g.getD x0 [] = row at hA hc0 hc1 hc2 hrow
          have hrl := hc2.2.1
          have hxp := HO.out.old HP0.out
          have hxr := HO.out.old hc0
          obtain ⟨gq, oq, cq, rfl, _, _, _⟩ := Kd.Q_form HQ.out (by simp)
          have hnp : (0 : Int) < (((x0 : Int) :: todo).length : Int) := by simp only [List.length_cons]; omega
          generalize hnq : ((x0 : Int) :: todo).length = nq at HQ hnp ⊢
          clear hnq
          have hnb : decide (0 < nq) = true := decide_eq_true (by omega)
          have hxq := (Kd.Q_cell 0 HQ.out 0 (by decide) (by omega)).1
          rw [show rdOf 0 ((x0 : Int) :: todo) 0 = (x0 : Int) from rfl, show oq + (0 : Int).toNat = oq from rfl] at hxq
          have HA' := Aside0.mk hA
          have HC2 := Aside0.mk hc2
          have HRR := Aside0.mk hrow
          have hx0 : (0 : Int) ≤ (x0 : Int) := by omega
          have hx1 : (x0 : Int) < (g.length : Int) := hx.2
          clear hA hc0 hc1 hc2 hrd hrow HA hx
          go_wp2
          go_quiet (fail)
          generalize hq_ : World.drewN wr _ = wq; have hd_ : Drawn0 wr wq := ⟨_, hq_.symm⟩; clear hq_; replace HO := Aside0.mk (HO.out.drawn hd_); replace HQ := Aside0.mk (Kd.Q_below HQ.out hd_.below); clear hd_
          clear hxp hxr hxq
          go_wp2
          go_loopw [35, 8] (fun v35 v8 wr => ∃ (i : Nat) (out2 : List Bool) (todo2 : List Int), v35 = .int .i64 i ∧ i ≤ row.length ∧ Aside0 (H.visits wo (row.drop i) (out2, todo2) = H.visits wo row (out, (x0 : Int) :: todo)) ∧ Aside0 (out2.length = 12) ∧ Aside0 (1 ≤ todo2.length ∧ ∀ y ∈ todo2, 0 ≤ y ∧ y < (g.length : Int)) ∧ Aside0 (todo2.length + H.off out2 ≤ 12) ∧ Aside0 ((Kd.int .i64).Q 3 wr w.heap.size (fun _ => True) v8 todo2) ∧ Aside0 (H.Own w wr [(ga, H.bcells H.none12, 64), (gb, H.bcells out2, 64)])) (fun v35 _ _ => row.length - (intOf v35).toNat)
          case atStart => exact ⟨0, out, _, rfl, Nat.zero_le _, ⟨by rw [List.drop_zero]⟩, HOL, ⟨⟨by simp, HTY.out⟩⟩, HOF, HQ, HO⟩
          case round =>
            clear HO HQ HOF HTY HOL
            obtain ⟨i, out2, todo2, rfl, hi, HV, HOL, HTY, HOF, HQ, HO⟩ := hrel
            by_cases hlt : i < row.length
            · have hv := HV.out
              rw [visits_drop wo row _ hlt] at hv
              obtain ⟨ad2, e2, hcb⟩ := Kd.at_int HC2.out (i : Int) (by omega) (by omega)
              subst e2
              rw [Int.toNat_natCast] at hcb
              have hby := HRR.out (row.getD i 0) (by rw [List.getD_eq_getElem?_getD, List.getElem?_eq_getElem hlt]; exact List.getElem_mem hlt)
              have hrd2 : rd row (i : Int) = row.getD i 0 := rfl
              rw [hrd2] at hcb
              generalize row.getD i 0 = y at hv hcb hby
              obtain ⟨y0, rfl⟩ : ∃ k : Nat, y = (k : Int) := ⟨y.toNat, by omega⟩
              have hy12 : y0 < 12 := by have := HLL.out.2; omega
              have hcx := HO.out.old hcb
              have hcy := HO.out.bat 1 rfl (j := y0) (by rw [HOL.out]; exact hy12)
              have hy12' : (y0 : Int) < 12 := by omega
              have HY := Aside0.mk hy12
              have HYG := Aside0.mk hby
              have hil : (i : Int) < (row.length : Int) := by omega
              clear hcb hrd2 hby hy12
              cases hb : out2.getD y0 false with
              | true =>
                have hv2 : H.visit wo (out2, todo2) (y0 : Int) = (out2, todo2) := by
                  unfold H.visit
                  rw [if_neg (by rw [Int.toNat_natCast, hb]; simp)]
                rw [hv2] at hv
                rw [hb] at hcy
                have HV' := Aside0.mk hv
                clear hv hv2 hb HV
                go_wp2
                go_roundw
                case rel => exact ⟨i + 1, out2, todo2, by go_num, by omega, HV', HOL, HTY, HOF, HQ, HO⟩
                case measure => simp [intOf]; omega
              | false =>
                rw [hb] at hcy
                by_cases hw : (y0 : Int) = wo
                · have hv2 : H.visit wo (out2, todo2) (y0 : Int) = (out2, todo2) := by
                    unfold H.visit
                    rw [if_neg (fun h => h.2 hw)]
                  rw [hv2] at hv
                  have HV' := Aside0.mk hv
                  have hne : ((y0 : Int) != wo) = false := by rw [hw]; simp
                  clear hv hv2 hb HV hw
                  go_wp2
                  go_roundw
                  case rel => exact ⟨i + 1, out2, todo2, by go_num, by omega, HV', HOL, HTY, HOF, HQ, HO⟩
                  case measure => simp [intOf]; omega
                · have hv2 : H.visit wo (out2, todo2) (y0 : Int) = (out2.set y0 true, todo2 ++ [(y0 : Int)]) := by
                    unfold H.visit
                    rw [if_pos ⟨by rw [Int.toNat_natCast]; exact hb, hw⟩, Int.toNat_natCast]
                  rw [hv2] at hv
                  have hoff := H.off_set (bs := out2) (j := y0) (by rw [HOL.out]; exact HY.out) hb
                  have HV' := Aside0.mk hv
                  have hne : ((y0 : Int) != wo) = true := bne_iff_ne.2 hw
                  have HOF' := Aside0.mk (show (todo2 ++ [(y0 : Int)]).length + H.off (out2.set y0 true) ≤ 12 by rw [List.length_append]; have := HOF.out; simp only [List.length_cons, List.length_nil]; omega)
                  have HTY' := Aside0.mk (show 1 ≤ (todo2 ++ [(y0 : Int)]).length ∧ ∀ y ∈ todo2 ++ [(y0 : Int)], 0 ≤ y ∧ y < (g.length : Int) from ⟨by simp, fun y hy => by
                    rcases List.mem_append.1 hy with e | e
                    · exact HTY.out.2 y e
                    · rw [List.mem_singleton.1 e]; exact HYG.out⟩)
                  clear hv hv2 hb HV hw hoff
                  go_wp2_with (first | ((with_reducible refine gate_store (t := 4) (p := 49) rfl ?_); refine H.own_bput HO.out 1 rfl rfl rfl rfl rfl rfl (by kernel_rfl) (by rw [HOL.out]; exact HY.out) ?_; intro w_ ho_ hg_; replace HQ := Aside0.mk (HO.out.keepQ 1 rfl HQ.out hg_ (by decide)); clear hcy; replace HO := Aside0.mk ho_; clear ho_ hg_) | ((with_reducible refine gate_builtin (b := .append) (xs := #[.tmp 50, .tmp 52]) rfl ?_); at_builtin; refine Kd.Q_append (Kd.int .i64) (w0 := w) w.heap.size rfl (.tmp 50) (.tmp 52) 31 3 (.int .i64 0) 8 rfl Try.underlying31 info3 rfl (by decide) (by omega) u8 todo2 (y0 : Int) [.int .i64 (y0 : Int)] (fun _ => True) (fun _ => False) rfl rfl ?aP (fun _ hk => hk.elim) ?aF ?aO ?aB ?aS ?aL ?_; (case aP => exact rfl); (case aF => exact fun _ _ => trivial); (case aO => exact HQ.out); (case aB => exact HO.out.below); (case aS => exact HO.out.size); (case aL => have := HOF.out; omega); intro v1 w_ ho_ hb_ hg_ hat_; replace HO := Aside0.mk (HO.out.rowQ HQ.out (Nat.le_refl _) hg_ (by simp)); replace HQ := Aside0.mk ho_; clear ho_ hb_ hg_ hat_))
                  go_roundw
                  case rel => exact ⟨i + 1, _, _, by go_num, by omega, HV', ⟨by rw [List.length_set]; exact HOL.out⟩, HTY', HOF', HQ, HO⟩
                  case measure => simp [intOf]; omega
            · have hv := HV.out
              rw [List.drop_of_length_le (by omega)] at hv
              have hA := HA'.out
              rw [← hv] at hA
              have HA := Aside0.mk (show H.bfs g wo k1 (todo2.drop 1) out2 = some R from hA)
              have h2 := HTY.out.1
              clear hv hA HV HA'
              obtain ⟨gq2, oq2, cq2, rfl, _, _, _⟩ := Kd.Q_form HQ.out (by omega)
              obtain ⟨ti, hti, hz⟩ := Option.map_eq_some_iff.1 info3
              simp only [Prod.mk.injEq] at hz
              have hq := Kd.Q_drop (k := 1) HQ.out h2
              have hcut : ∀ W : World, (Instr.slice 31 (.slice (some ⟨gq2, oq2, none⟩) todo2.length cq2) (some (.int .i64 1)) none none).run Try.prog W = .ok (.slice (if cq2 = 1 then some ⟨gq2, oq2, none⟩ else (some (⟨gq2, oq2, none⟩ : Addr)).map (·.add (1 * (Kd.int .i64).sz))) (todo2.length - 1) (cq2 - 1)) W := cut_from 31 3 .i64 Try.underlying31 hti 1 hz.2.1 _ _ _ 1 (by decide) (by omega)
              generalize (if cq2 = 1 then some ⟨gq2, oq2, none⟩ else (some (⟨gq2, oq2, none⟩ : Addr)).map (·.add (1 * (Kd.int .i64).sz))) = A2 at hq hcut
              have HQ2 := Aside0.mk hq
              clear hq hti hz HQ
              go_wp2
              go_roundg k1
              case measure => have := HK.out; omega
              case rel => exact ⟨todo2.drop 1, out2, HA, ⟨by have := HK.out; omega⟩, HOL, ⟨fun y hy => HTY.out.2 y (List.mem_of_mem_drop hy)⟩, ⟨by have := HOF.out; rw [List.length_drop]; omega⟩, HQ2, HO⟩
end Go.Proofs.Ytplcipjlkogadaa.P

namespace Go.Proofs.Ytplcipjlkogadaa.P
open Go.RowKit Go.Proofs.YtplcipjlkogadaaW.PrintWords Go.Proofs.YtplcipjlkogadaaW.PrintLast Go.Proofs.YtplcipjlkogadaaW.PrintMore
attribute [local go_sem] max2_int min2_int max_two min_two max_three min_three max_four min_four
def rlAt (g : List (List Int)) (y : Int) : Bool := H.inB y 0 ((g.length : Int) - 1) && (H.reachF g 0 (-1)).getD y.toNat false
def rlF (g : List (List Int)) (l : List Int) : Bool := l.all (rlAt g) && H.upB l 0 ((g.length : Int) - 1) 0
set_option maxHeartbeats 8000000 in
set_option maxRecDepth 100000 in
theorem impl_reachedList.calls (p : Addr) (A0 : Option Addr) (c0 : Nat) (g : List (List Int)) (A1 : Option Addr) (c1 : Nat) (l : List Int) (w : World) (hp0 : w.cell? p = some (.slice A0 g.length c0)) (hr0 : Kd.C (Kd.slice 3 (Kd.int .i64)) w A0 g.length g) (hG : H.goodG g = true) (hr1 : Kd.C (Kd.int .i64) w A1 l.length l) (hc1 : l.length ≤ c1) :
    Calls Try.prog 66 #[.pointer (some p), .slice A1 l.length c1] w fun e w' => e = .returned (.bool (rlF g l)) ∧ Below w.heap.size w w' := by
  have hr := H.goodG_rows hG
  have HP0 := Aside0.mk hp0
  have HR0 := Aside0.mk hr0
  have HR1 := Aside0.mk hr1
  have HC1 := Aside0.mk hc1
  have HI := Aside0.mk (show (Try.prog.info? 64).map (·.size) = some 12 by kernel_rfl)
  have HO := Aside0.mk (H.Own.nil w)
  have hn1 : 1 ≤ g.length := hr.1.1
  have hn2 : g.length ≤ 12 := hr.1.2
  have hl64 := hr1.2.1
  have HRE := Aside0.mk (fun (W : World) (hO : Below w.heap.size w W) (wo : Int) => impl_reach.calls p A0 c0 g 0 wo W ((hO.cell (World.block_lt_of_cell? w _ HP0.out)).trans HP0.out) (Kd.C_below HR0.out hO) hG (by decide) (by omega))
  have HRL := Aside0.mk (H.reach_len (wo := -1) hG (s := 0) (by decide) (by omega))
  have HUP : Aside0 (∀ (W : World), Below w.heap.size w W → Calls Try.prog 59 #[.slice A1 l.length c1, .int .i64 0, .int .i64 ((g.length : Int) - 1)] W fun e w' => e = .returned (.bool (H.upB l 0 ((g.length : Int) - 1) 0)) ∧ Drawn0 W w') := ⟨fun W hb => by
    obtain ⟨k, hk⟩ := impl_rising.ends l 0 ((g.length : Int) - 1) (by omega)
    exact impl_rising.calls k A1 c1 l 0 ((g.length : Int) - 1) _ W (Kd.C_below HR1.out hb) HC1.out hk⟩
  unfold rlF
  have hat : ∀ y, rlAt g y = (H.inB y 0 ((g.length : Int) - 1) && (H.reachF g 0 (-1)).getD y.toNat false) := fun y => rfl
  obtain ⟨al, hal⟩ : ∃ al, H.reachF g 0 (-1) = al := ⟨_, rfl⟩
  rw [hal] at HRL hat
  have HAL := Aside0.mk hal
  have HAT := Aside0.mk hat
  clear hr hr0 hG hr1 hc1 hal hat
  go_enter Try.func66, Try.ntmps66
  go_wp2_with (first | (go_at_call 61; refine (HRE.out _ HO.out.below (-1)).mono ?_; rw [HAL.out]; rintro e w' ⟨rfl, hb⟩; replace HO := Aside0.mk (HO.out.step hb); clear hb hp0) | ((with_reducible refine gate_dst (N := 5) rfl ?_); refine H.own_box HO.out ?hg (N := 5) ?hd (cs := H.bcells H.none12) (t := 64) ?hr ?_; (case hd => rfl); (case hg => rfl); (case hr => first | (go_simp; done) | (go_simp; rfl)); intro ga w_ ho_ hb_; replace HO := Aside0.mk ho_; clear ho_ hb_) | ((with_reducible refine gate_store (t := 64) (p := 5) rfl ?_); refine H.own_ball HO.out 0 (bs' := al) rfl rfl rfl rfl rfl rfl HI.out HRL.out ?_; intro w_ ho_ hg_; replace HO := Aside0.mk ho_; clear ho_ hg_))
  go_loopw [12] (fun v12 wr => ∃ i : Nat, v12 = .int .i64 i ∧ i ≤ l.length ∧ Aside0 ((l.take i).all (rlAt g) = true) ∧ Aside0 (H.Own w wr [(ga, H.bcells al, 64)])) (fun v12 _ => l.length - (intOf v12).toNat)
  case atStart => exact ⟨0, rfl, Nat.zero_le _, ⟨rfl⟩, HO⟩
  case round =>
    clear HO
    obtain ⟨i, rfl, hi, HA, HO⟩ := hrel
    by_cases hlt : i < l.length
    · obtain ⟨ad, e1, hc⟩ := Kd.at_int HR1.out (i : Int) (by omega) (by omega)
      subst e1
      rw [Int.toNat_natCast] at hc
      have hd : rd l (i : Int) = l.getD i 0 := rfl
      rw [hd] at hc
      have htk : l.take (i + 1) = l.take i ++ [l.getD i 0] := by rw [List.take_add_one, List.getElem?_eq_getElem hlt, List.getD_eq_getElem?_getD, List.getElem?_eq_getElem hlt]; rfl
      have hmem : l.getD i 0 ∈ l := by rw [List.getD_eq_getElem?_getD, List.getElem?_eq_getElem hlt]; exact List.getElem_mem hlt
      obtain ⟨x, hx⟩ : ∃ x, l.getD i 0 = x := ⟨_, rfl⟩
      rw [hx] at hc htk hmem
      have hcx := HO.out.old hc
      have hpx := HO.out.old HP0.out
      have HTK := Aside0.mk htk
      have HMEM := Aside0.mk hmem
      have hil : (i : Int) < (l.length : Int) := by omega
      clear hd hx hc htk hmem
      cases hin : H.inB x 0 ((g.length : Int) - 1) with
      | false =>
        have HIN := Aside0.mk (show (decide ((0 : Int) ≤ _) && decide (_ ≤ (g.length : Int) - 1)) = _ from hin)
        have HF := Aside0.mk (show (l.all (rlAt g) && H.upB l 0 ((g.length : Int) - 1) 0) = false by
          have : l.all (rlAt g) = false := by
            rw [List.all_eq_false]
            exact ⟨x, HMEM.out, by rw [HAT.out]; unfold H.inB; rw [HIN.out]; simp⟩
          rw [this]
          rfl)
        clear hin
        go_wp2_with (first | (go_at_call 56; refine (impl_within.calls x 0 ((g.length : Int) - 1) _ _ (impl_within.tell x 0 ((g.length : Int) - 1))).mono ?_; rw [HIN.out]; rintro e w' ⟨rfl, ⟨m, rfl⟩⟩; replace HO := Aside0.mk (HO.out.drewN m); clear hcx hpx))
        go_ret
        exact ⟨by rw [HF.out]; rfl, HO.out.below⟩
      | true =>
        have HIN := Aside0.mk (show (decide ((0 : Int) ≤ _) && decide (_ ≤ (g.length : Int) - 1)) = _ from hin)
        have hxr : 0 ≤ x ∧ x ≤ (g.length : Int) - 1 := by
          have h0 := hin
          unfold H.inB at h0
          simpa using h0
        obtain ⟨k, rfl⟩ : ∃ k : Nat, x = (k : Int) := ⟨x.toNat, by omega⟩
        have HK12 := Aside0.mk (show k < al.length by rw [HRL.out]; omega)
        have hk12 : (k : Int) < 12 := by omega
        obtain ⟨bit, hbit⟩ : ∃ bit, al.getD k false = bit := ⟨_, rfl⟩
        have HBIT := Aside0.mk hbit
        clear hin hxr hbit
        cases bit with
        | false =>
          have HF := Aside0.mk (show (l.all (rlAt g) && H.upB l 0 ((g.length : Int) - 1) 0) = false by
            have : l.all (rlAt g) = false := by
              rw [List.all_eq_false]
              exact ⟨_, HMEM.out, by rw [HAT.out, Int.toNat_natCast, HBIT.out]; simp⟩
            rw [this]
            rfl)
          go_wp2_with (first | (go_at_call 56; refine (impl_within.calls (k : Int) 0 ((g.length : Int) - 1) _ _ (impl_within.tell (k : Int) 0 ((g.length : Int) - 1))).mono ?_; rw [HIN.out]; rintro e w' ⟨rfl, ⟨m, rfl⟩⟩; replace HO := Aside0.mk (HO.out.drewN m); have hcb := HO.out.bat 0 rfl HK12.out; rw [HBIT.out] at hcb; clear hcx hpx))
          go_ret
          exact ⟨by rw [HF.out]; rfl, HO.out.below⟩
        | true =>
          have HA2 := Aside0.mk (show (l.take (i + 1)).all (rlAt g) = true by
            rw [HTK.out, List.all_append, HA.out, List.all_cons, List.all_nil, HAT.out, Int.toNat_natCast, HBIT.out]
            unfold H.inB
            rw [HIN.out]
            rfl)
          go_wp2_with (first | (go_at_call 56; refine (impl_within.calls (k : Int) 0 ((g.length : Int) - 1) _ _ (impl_within.tell (k : Int) 0 ((g.length : Int) - 1))).mono ?_; rw [HIN.out]; rintro e w' ⟨rfl, ⟨m, rfl⟩⟩; replace HO := Aside0.mk (HO.out.drewN m); have hcb := HO.out.bat 0 rfl HK12.out; rw [HBIT.out] at hcb; clear hcx hpx))
          go_roundw
          case rel => exact ⟨i + 1, by go_num, by omega, HA2, HO⟩
          case measure => simp [intOf]; omega
    · have hE : i = l.length := by omega
      subst hE
      have hpx := HO.out.old HP0.out
      have HF := Aside0.mk (show l.all (rlAt g) = true by have := HA.out; rw [List.take_length] at this; exact this)
      go_wp2_with (first | (go_at_call 59; refine (HUP.out _ HO.out.below).mono ?_; rintro e w' ⟨rfl, hd⟩; replace HO := Aside0.mk (HO.out.step hd.below); clear hd hpx))
      go_ret
      exact ⟨by rw [HF.out]; rfl, HO.out.below⟩
end Go.Proofs.Ytplcipjlkogadaa.P

namespace Go.Proofs.Ytplcipjlkogadaa.P
open Go.RowKit Go.Proofs.YtplcipjlkogadaaW.PrintWords Go.Proofs.YtplcipjlkogadaaW.PrintLast Go.Proofs.YtplcipjlkogadaaW.PrintMore
attribute [local go_sem] max2_int min2_int max_two min_two max_three min_three max_four min_four
set_option maxHeartbeats 8000000 in
set_option maxRecDepth 100000 in
theorem impl_dominators.calls (p : Addr) (A0 : Option Addr) (c0 : Nat) (g : List (List Int)) (w : World) (hp0 : w.cell? p = some (.slice A0 g.length c0)) (hr0 : Kd.C (Kd.slice 3 (Kd.int .i64)) w A0 g.length g) (hG : H.goodG g = true) :
    Calls Try.prog 67 #[.pointer (some p)] w fun e w' => ∃ gm, e = .returned (.slice (some ⟨gm, 0, none⟩) g.length g.length) ∧ H.Own w w' [(gm, H.bcells (H.domF g).flatten, 64)] := by
  have hr := H.goodG_rows hG
  have HP0 := Aside0.mk hp0
  have HR0 := Aside0.mk hr0
  have HI := Aside0.mk (show (Try.prog.info? 64).map (·.size) = some 12 by kernel_rfl)
  have HO := Aside0.mk (H.Own.nil w)
  have hn1 : 1 ≤ g.length := hr.1.1
  have hn2 : g.length ≤ 12 := hr.1.2
  have HRE := Aside0.mk (fun (W : World) (hO : Below w.heap.size w W) (wo : Int) => impl_reach.calls p A0 c0 g 0 wo W ((hO.cell (World.block_lt_of_cell? w _ HP0.out)).trans HP0.out) (Kd.C_below HR0.out hO) hG (by decide) (by omega))
  have HRL := Aside0.mk (fun wo => H.reach_len (wo := wo) hG (s := 0) (by decide) (by omega))
  have HDM := Aside0.mk (fun k b => H.matF_mat (fun b' j => (decide (j < k) || (decide (j = k) && decide (b' < b))) && H.domV g b' j) g.length)
  have HDL := Aside0.mk (fun k b => H.matF_len (fun b' j => (decide (j < k) || (decide (j = k) && decide (b' < b))) && H.domV g b' j) g.length)
  have hmk : ∀ W : World, (Instr.makeSlice 69 (.int .i64 (g.length : Int)) (.int .i64 (g.length : Int))).run Try.prog W = .ok (.slice (some ⟨W.heap.size, 0, none⟩) g.length g.length) (W.alloc (.cells (H.bcells (List.replicate g.length H.none12).flatten) 64)) := fun W => make_sets W g.length (by omega)
  clear hr hr0 hG
  go_enter Try.func67, Try.ntmps67
  go_wp2_with (first | ((with_reducible refine gate_dst (N := 13) rfl ?_); refine H.own_make HO.out ?hg (N := 13) ?hd (n := g.length) (cs := H.bcells (List.replicate g.length H.none12).flatten) (t := 64) ?hr ?_; (case hd => rfl); (case hg => rfl); (case hr => first | (go_simp; done) | (go_simp; rfl)); intro gs w_ ho_ hb_; clear hmk; replace HO := Aside0.mk ho_; clear ho_ hb_) | (go_at_call 61; refine (HRE.out _ HO.out.below (-1)).mono ?_; rintro e w' ⟨rfl, hb⟩; replace HO := Aside0.mk (HO.out.step hb); have hp1 := HO.out.old HP0.out; clear hb hp0) | ((with_reducible refine gate_dst (N := 4) rfl ?_); refine H.own_box HO.out ?hg (N := 4) ?hd (cs := H.bcells H.none12) (t := 64) ?hr ?_; (case hd => rfl); (case hg => rfl); (case hr => first | (go_simp; done) | (go_simp; rfl)); intro ga w_ ho_ hb_; clear hp1; replace HO := Aside0.mk ho_; clear ho_ hb_) | ((with_reducible refine gate_store (t := 64) (p := 4) rfl ?_); refine H.own_ball HO.out 1 (bs' := H.reachF g 0 (-1)) rfl rfl rfl rfl rfl rfl HI.out (HRL.out (-1)) ?_; intro w_ ho_ hg_; replace HO := Aside0.mk ho_; have hp1 := HO.out.old HP0.out; clear ho_ hg_))
  obtain ⟨al, hal⟩ : ∃ al, H.reachF g 0 (-1) = al := ⟨_, rfl⟩
  have HALL := HRL.out (-1)
  rw [hal] at HO HALL
  have HAL := Aside0.mk hal
  have HALN := Aside0.mk HALL
  clear hal HALL
  go_loopw [21] (fun v21 wr => ∃ k : Nat, v21 = .int .i64 k ∧ k ≤ g.length ∧ Aside0 (H.Own w wr [(gs, H.bcells (H.domTo g k 0).flatten, 64), (ga, H.bcells al, 64)])) (fun v21 _ => g.length - (intOf v21).toNat)
  case atStart => exact ⟨0, rfl, Nat.zero_le _, ⟨by rw [H.domTo_zero]; exact HO.out⟩⟩
  case round =>
    clear HO hp1
    obtain ⟨k, rfl, hk, HO⟩ := hrel
    by_cases hlt : k < g.length
    · have hk12 : (k : Int) < 12 := by omega
      have hc := HO.out.bat 1 rfl (j := k) (by rw [HALN.out]; omega)
      have HKL := Aside0.mk hlt
      have hpk := HO.out.old HP0.out
      cases hb : al.getD k false with
      | false =>
        rw [hb] at hc
        have HSK := Aside0.mk (H.domTo_skip g (k := k) (by rw [HAL.out]; exact hb))
        clear hb
        go_wp2
        go_roundw
        case rel => exact ⟨k + 1, by go_num, by omega, ⟨by rw [HSK.out]; exact HO.out⟩⟩
        case measure => simp [intOf]; omega
      | true =>
        rw [hb] at hc
        have HBK := Aside0.mk hb
        clear hb
        go_wp2_with (first | (go_at_call 61; refine (HRE.out _ HO.out.below (k : Int)).mono ?_; rintro e w' ⟨rfl, hb⟩; replace HO := Aside0.mk (HO.out.step hb); clear hb hc hpk) | ((with_reducible refine gate_dst (N := 6) rfl ?_); refine H.own_box HO.out ?hg (N := 6) ?hd (cs := H.bcells H.none12) (t := 64) ?hr ?_; (case hd => rfl); (case hg => rfl); (case hr => first | (go_simp; done) | (go_simp; rfl)); intro gl w_ ho_ hb_; replace HO := Aside0.mk ho_; clear ho_ hb_) | ((with_reducible refine gate_store (t := 64) (p := 6) rfl ?_); refine H.own_ball HO.out 2 (bs' := H.reachF g 0 (k : Int)) rfl rfl rfl rfl rfl rfl HI.out (HRL.out (k : Int)) ?_; intro w_ ho_ hg_; replace HO := Aside0.mk ho_; clear ho_ hg_))
        obtain ⟨lf, hlf⟩ : ∃ lf, H.reachF g 0 (k : Int) = lf := ⟨_, rfl⟩
        have hll := HRL.out (k : Int)
        rw [hlf] at HO hll
        have HLF := Aside0.mk hlf
        have HLL := Aside0.mk hll
        clear hlf hll
        go_loopw [33] (fun v33 wr => ∃ b : Nat, v33 = .int .i64 b ∧ b ≤ g.length ∧ Aside0 (H.Own w wr [(gs, H.bcells (H.domTo g k b).flatten, 64), (ga, H.bcells al, 64), (gl, H.bcells lf, 64)])) (fun v33 _ => g.length - (intOf v33).toNat)
        case atStart => exact ⟨0, rfl, Nat.zero_le _, HO⟩
        case round =>
          clear HO
          obtain ⟨b, rfl, hb, HO⟩ := hrel
          by_cases hlt2 : b < g.length
          · have hb12 : (b : Int) < 12 := by omega
            have hbg : (b : Int) < (g.length : Int) := by omega
            have HBL := Aside0.mk hlt2
            have HK12 := Aside0.mk (show k < 12 by omega)
            have HB12 := Aside0.mk (show b < 12 by omega)
            go_wp2
            replace HO := Aside0.mk HO.out.drew
            cases hx : al.getD b false with
            | false =>
              have HV := Aside0.mk (show H.domV g b k = false by unfold H.domV; rw [HAL.out, hx]; simp)
              have HX := Aside0.mk hx
              clear hx
              refine start_ (n := 15) (S := fun w' => w'.cell? ⟨ga, b, none⟩ = some (.bool false)) (ds := [14]) #[false, false, false, false, false, false, false, false, false, false, false, false, false, false, false] (by kernel_rfl) rfl rfl ((HX.out ▸ HO.out.bat 1 rfl (by rw [HALN.out]; exact HB12.out))) (fun hHeld => ?_)
              refine pure_ (i := 0) (N := some 36) (v := ?_) (a' := ?_) #[true, false, false, false, false, false, false, false, false, false, false, false, false, false, false] rfl rfl (by kernel_rfl) (fun _ _ _ h => h) (Or.inl ⟨by rfl, ?_⟩) ?_ ?_
              rotate_left
              · intro w'
                go_simp
                with_reducible rfl
              rotate_left
              · simp only [Act.put, List.setIfInBounds_toArray, List.set_cons_zero, List.set_cons_succ, i64_w, i32_w]
                rfl
              refine pure_ (i := 1) (N := some 37) (v := ?_) (a' := ?_) #[true, true, false, false, false, false, false, false, false, false, false, false, false, false, false] rfl rfl (by kernel_rfl) (fun _ _ _ h => h) (Or.inl ⟨by rfl, ?_⟩) ?_ ?_
              rotate_left
              · intro w'
                go_simp
                with_reducible rfl
              rotate_left
              · simp only [Act.put, List.setIfInBounds_toArray, List.set_cons_zero, List.set_cons_succ, i64_w, i32_w]
                rfl
              refine pure_ (i := 2) (N := some 38) (v := ?_) (a' := ?_) #[true, true, true, false, false, false, false, false, false, false, false, false, false, false, false] rfl rfl (by kernel_rfl) (fun _ _ _ h => h) (Or.inl ⟨by rfl, ?_⟩) ?_ ?_
              rotate_left
              · intro w'
                go_simp
                with_reducible rfl
              rotate_left
              · simp only [Act.put, List.setIfInBounds_toArray, List.set_cons_zero, List.set_cons_succ, i64_w, i32_w]
                rfl
              refine pure_ (i := 3) (N := some 39) (v := ?_) (a' := ?_) #[true, true, true, true, false, false, false, false, false, false, false, false, false, false, false] rfl rfl (by kernel_rfl) (fun _ _ _ h => h) (Or.inl ⟨by rfl, ?_⟩) ?_ ?_
              rotate_left
              · intro w'
                go_simp
                with_reducible rfl
              rotate_left
              · simp only [Act.put, List.setIfInBounds_toArray, List.set_cons_zero, List.set_cons_succ, i64_w, i32_w]
                rfl
              refine pure_ (i := 4) (N := some 40) (v := ?_) (a' := ?_) #[true, true, true, true, true, false, false, false, false, false, false, false, false, false, false] rfl rfl (by kernel_rfl) (fun _ _ _ h => h) (Or.inl ⟨by rfl, ?_⟩) ?_ ?_
              rotate_left
              · intro w'
                go_simp
                with_reducible rfl
              rotate_left
              · simp only [Act.put, List.setIfInBounds_toArray, List.set_cons_zero, List.set_cons_succ, i64_w, i32_w]
                rfl
              refine pure_ (i := 12) (N := some 48) (v := ?_) (a' := ?_) #[true, true, true, true, true, false, false, false, false, false, false, false, true, false, false] rfl rfl (by kernel_rfl) (fun _ _ _ h => h) (Or.inl ⟨by rfl, ?_⟩) ?_ ?_
              rotate_left
              · intro w'
                go_simp
                with_reducible rfl
              rotate_left
              · simp only [Act.put, List.setIfInBounds_toArray, List.set_cons_zero, List.set_cons_succ, i64_w, i32_w]
                rfl
              refine take_ (i := 5) (N := some 41) (v := ?_) (a' := ?_) #[true, true, true, true, true, true, false, false, false, false, false, false, true, false, false] rfl rfl (by kernel_rfl) (fun _ _ _ h => h) (Or.inl ⟨by rfl, ?_⟩) hHeld ?_ ?_
              rotate_left
              · intro w' s0
                go_simp
                with_reducible rfl
              rotate_left
              · simp only [Act.put, List.setIfInBounds_toArray, List.set_cons_zero, List.set_cons_succ, i64_w, i32_w]
                rfl
              refine pure_ (i := 6) (N := some 42) (v := ?_) (a' := ?_) #[true, true, true, true, true, true, true, false, false, false, false, false, true, false, false] rfl rfl (by kernel_rfl) (fun _ _ _ h => h) (Or.inl ⟨by rfl, ?_⟩) ?_ ?_
              rotate_left
              · intro w'
                go_simp
                with_reducible rfl
              rotate_left
              · simp only [Act.put, List.setIfInBounds_toArray, List.set_cons_zero, List.set_cons_succ, i64_w, i32_w]
                rfl
              refine pure_ (i := 7) (N := some 43) (v := undef) (a' := ?_) #[true, true, true, true, true, true, true, true, false, false, false, false, true, false, false] rfl rfl (by kernel_rfl) (fun _ _ _ h => h) (Or.inr ⟨by rfl, rfl⟩) ?_ ?_
              rotate_left
              · simp only [Act.put, List.setIfInBounds_toArray, List.set_cons_zero, List.set_cons_succ, i64_w, i32_w]
                rfl
              refine pure_ (i := 8) (N := some 44) (v := undef) (a' := ?_) #[true, true, true, true, true, true, true, true, true, false, false, false, true, false, false] rfl rfl (by kernel_rfl) (fun _ _ _ h => h) (Or.inr ⟨by rfl, rfl⟩) ?_ ?_
              rotate_left
              · simp only [Act.put, List.setIfInBounds_toArray, List.set_cons_zero, List.set_cons_succ, i64_w, i32_w]
                rfl
              refine pure_ (i := 9) (N := some 45) (v := undef) (a' := ?_) #[true, true, true, true, true, true, true, true, true, true, false, false, true, false, false] rfl rfl (by kernel_rfl) (fun _ _ _ h => h) (Or.inr ⟨by rfl, rfl⟩) ?_ ?_
              rotate_left
              · simp only [Act.put, List.setIfInBounds_toArray, List.set_cons_zero, List.set_cons_succ, i64_w, i32_w]
                rfl
              refine pure_ (i := 10) (N := some 46) (v := undef) (a' := ?_) #[true, true, true, true, true, true, true, true, true, true, true, false, true, false, false] rfl rfl (by kernel_rfl) (fun _ _ _ h => h) (Or.inr ⟨by rfl, rfl⟩) ?_ ?_
              rotate_left
              · simp only [Act.put, List.setIfInBounds_toArray, List.set_cons_zero, List.set_cons_succ, i64_w, i32_w]
                rfl
              refine pure_ (i := 11) (N := some 47) (v := ?_) (a' := ?_) #[true, true, true, true, true, true, true, true, true, true, true, true, true, false, false] rfl rfl (by kernel_rfl) (fun _ _ _ h => h) (Or.inl ⟨by rfl, ?_⟩) ?_ ?_
              rotate_left
              · intro w'
                go_simp
                with_reducible rfl
              rotate_left
              · simp only [Act.put, List.setIfInBounds_toArray, List.set_cons_zero, List.set_cons_succ, i64_w, i32_w]
                rfl
              refine pure_ (i := 13) (N := some 49) (v := ?_) (a' := ?_) #[true, true, true, true, true, true, true, true, true, true, true, true, true, true, false] rfl rfl (by kernel_rfl) (fun _ _ _ h => h) (Or.inl ⟨by rfl, ?_⟩) ?_ ?_
              rotate_left
              · intro w'
                go_simp
                with_reducible rfl
              rotate_left
              · simp only [Act.put, List.setIfInBounds_toArray, List.set_cons_zero, List.set_cons_succ, i64_w, i32_w]
                rfl
              refine last_ (i := 14) (N := none) #[true, true, true, true, true, true, true, true, true, true, true, true, true, true, true] rfl rfl (by kernel_rfl) (by decide) (fun K hK => ?_)
              refine H.own_mput_step HO.out (by rfl) 0 (n := 12) rfl (HDM.out k b) rfl rfl rfl rfl (by kernel_rfl) (by show b < (H.domTo g k b).length; rw [H.domTo, HDL.out]; exact HBL.out) HK12.out ?_
              intro w_ ho_ hg_
              replace HO := Aside0.mk ho_
              clear ho_ hg_
              refine hK.out _ _ ?_
              clear hK K
              refine done_ (by kernel_rfl) ?_
              go_wp2
              go_roundw
              case rel => exact ⟨b + 1, by go_num, by omega, ⟨by rw [← H.domTo_put g HBL.out HV.out]; exact HO.out⟩⟩
              case measure => simp [intOf]; omega
            | true =>
              cases hy : lf.getD b false with
              | true =>
                have HV := Aside0.mk (show H.domV g b k = false by unfold H.domV; rw [HAL.out, hx, HLF.out, hy]; simp)
                have HX := Aside0.mk hx
                have HY := Aside0.mk hy
                clear hx hy
                refine start_ (n := 15) (S := fun w' => w'.cell? ⟨ga, b, none⟩ = some (.bool true) ∧ w'.cell? ⟨gl, b, none⟩ = some (.bool true)) (ds := [14]) #[false, false, false, false, false, false, false, false, false, false, false, false, false, false, false] (by kernel_rfl) rfl rfl ⟨(HX.out ▸ HO.out.bat 1 rfl (by rw [HALN.out]; exact HB12.out)), (HY.out ▸ HO.out.bat 2 rfl (by rw [HLL.out]; exact HB12.out))⟩ (fun hHeld => ?_)
                refine pure_ (i := 0) (N := some 36) (v := ?_) (a' := ?_) #[true, false, false, false, false, false, false, false, false, false, false, false, false, false, false] rfl rfl (by kernel_rfl) (fun _ _ _ h => h) (Or.inl ⟨by rfl, ?_⟩) ?_ ?_
                rotate_left
                · intro w'
                  go_simp
                  with_reducible rfl
                rotate_left
                · simp only [Act.put, List.setIfInBounds_toArray, List.set_cons_zero, List.set_cons_succ, i64_w, i32_w]
                  rfl
                refine pure_ (i := 1) (N := some 37) (v := ?_) (a' := ?_) #[true, true, false, false, false, false, false, false, false, false, false, false, false, false, false] rfl rfl (by kernel_rfl) (fun _ _ _ h => h) (Or.inl ⟨by rfl, ?_⟩) ?_ ?_
                rotate_left
                · intro w'
                  go_simp
                  with_reducible rfl
                rotate_left
                · simp only [Act.put, List.setIfInBounds_toArray, List.set_cons_zero, List.set_cons_succ, i64_w, i32_w]
                  rfl
                refine pure_ (i := 2) (N := some 38) (v := ?_) (a' := ?_) #[true, true, true, false, false, false, false, false, false, false, false, false, false, false, false] rfl rfl (by kernel_rfl) (fun _ _ _ h => h) (Or.inl ⟨by rfl, ?_⟩) ?_ ?_
                rotate_left
                · intro w'
                  go_simp
                  with_reducible rfl
                rotate_left
                · simp only [Act.put, List.setIfInBounds_toArray, List.set_cons_zero, List.set_cons_succ, i64_w, i32_w]
                  rfl
                refine pure_ (i := 3) (N := some 39) (v := ?_) (a' := ?_) #[true, true, true, true, false, false, false, false, false, false, false, false, false, false, false] rfl rfl (by kernel_rfl) (fun _ _ _ h => h) (Or.inl ⟨by rfl, ?_⟩) ?_ ?_
                rotate_left
                · intro w'
                  go_simp
                  with_reducible rfl
                rotate_left
                · simp only [Act.put, List.setIfInBounds_toArray, List.set_cons_zero, List.set_cons_succ, i64_w, i32_w]
                  rfl
                refine pure_ (i := 4) (N := some 40) (v := ?_) (a' := ?_) #[true, true, true, true, true, false, false, false, false, false, false, false, false, false, false] rfl rfl (by kernel_rfl) (fun _ _ _ h => h) (Or.inl ⟨by rfl, ?_⟩) ?_ ?_
                rotate_left
                · intro w'
                  go_simp
                  with_reducible rfl
                rotate_left
                · simp only [Act.put, List.setIfInBounds_toArray, List.set_cons_zero, List.set_cons_succ, i64_w, i32_w]
                  rfl
                refine pure_ (i := 12) (N := some 48) (v := ?_) (a' := ?_) #[true, true, true, true, true, false, false, false, false, false, false, false, true, false, false] rfl rfl (by kernel_rfl) (fun _ _ _ h => h) (Or.inl ⟨by rfl, ?_⟩) ?_ ?_
                rotate_left
                · intro w'
                  go_simp
                  with_reducible rfl
                rotate_left
                · simp only [Act.put, List.setIfInBounds_toArray, List.set_cons_zero, List.set_cons_succ, i64_w, i32_w]
                  rfl
                refine take_ (i := 5) (N := some 41) (v := ?_) (a' := ?_) #[true, true, true, true, true, true, false, false, false, false, false, false, true, false, false] rfl rfl (by kernel_rfl) (fun _ _ _ h => h) (Or.inl ⟨by rfl, ?_⟩) hHeld ?_ ?_
                rotate_left
                · rintro w' ⟨s0, s1⟩
                  go_simp
                  with_reducible rfl
                rotate_left
                · simp only [Act.put, List.setIfInBounds_toArray, List.set_cons_zero, List.set_cons_succ, i64_w, i32_w]
                  rfl
                refine pure_ (i := 6) (N := some 42) (v := ?_) (a' := ?_) #[true, true, true, true, true, true, true, false, false, false, false, false, true, false, false] rfl rfl (by kernel_rfl) (fun _ _ _ h => h) (Or.inl ⟨by rfl, ?_⟩) ?_ ?_
                rotate_left
                · intro w'
                  go_simp
                  with_reducible rfl
                rotate_left
                · simp only [Act.put, List.setIfInBounds_toArray, List.set_cons_zero, List.set_cons_succ, i64_w, i32_w]
                  rfl
                refine pure_ (i := 7) (N := some 43) (v := ?_) (a' := ?_) #[true, true, true, true, true, true, true, true, false, false, false, false, true, false, false] rfl rfl (by kernel_rfl) (fun _ _ _ h => h) (Or.inl ⟨by rfl, ?_⟩) ?_ ?_
                rotate_left
                · intro w'
                  go_simp
                  with_reducible rfl
                rotate_left
                · simp only [Act.put, List.setIfInBounds_toArray, List.set_cons_zero, List.set_cons_succ, i64_w, i32_w]
                  rfl
                refine pure_ (i := 8) (N := some 44) (v := ?_) (a' := ?_) #[true, true, true, true, true, true, true, true, true, false, false, false, true, false, false] rfl rfl (by kernel_rfl) (fun _ _ _ h => h) (Or.inl ⟨by rfl, ?_⟩) ?_ ?_
                rotate_left
                · intro w'
                  go_simp
                  with_reducible rfl
                rotate_left
                · simp only [Act.put, List.setIfInBounds_toArray, List.set_cons_zero, List.set_cons_succ, i64_w, i32_w]
                  rfl
                refine take_ (i := 9) (N := some 45) (v := ?_) (a' := ?_) #[true, true, true, true, true, true, true, true, true, true, false, false, true, false, false] rfl rfl (by kernel_rfl) (fun _ _ _ h => h) (Or.inl ⟨by rfl, ?_⟩) hHeld ?_ ?_
                rotate_left
                · rintro w' ⟨s0, s1⟩
                  go_simp
                  with_reducible rfl
                rotate_left
                · simp only [Act.put, List.setIfInBounds_toArray, List.set_cons_zero, List.set_cons_succ, i64_w, i32_w]
                  rfl
                refine pure_ (i := 10) (N := some 46) (v := ?_) (a' := ?_) #[true, true, true, true, true, true, true, true, true, true, true, false, true, false, false] rfl rfl (by kernel_rfl) (fun _ _ _ h => h) (Or.inl ⟨by rfl, ?_⟩) ?_ ?_
                rotate_left
                · intro w'
                  go_simp
                  with_reducible rfl
                rotate_left
                · simp only [Act.put, List.setIfInBounds_toArray, List.set_cons_zero, List.set_cons_succ, i64_w, i32_w]
                  rfl
                refine pure_ (i := 11) (N := some 47) (v := ?_) (a' := ?_) #[true, true, true, true, true, true, true, true, true, true, true, true, true, false, false] rfl rfl (by kernel_rfl) (fun _ _ _ h => h) (Or.inl ⟨by rfl, ?_⟩) ?_ ?_
                rotate_left
                · intro w'
                  go_simp
                  with_reducible rfl
                rotate_left
                · simp only [Act.put, List.setIfInBounds_toArray, List.set_cons_zero, List.set_cons_succ, i64_w, i32_w]
                  rfl
                refine pure_ (i := 13) (N := some 49) (v := ?_) (a' := ?_) #[true, true, true, true, true, true, true, true, true, true, true, true, true, true, false] rfl rfl (by kernel_rfl) (fun _ _ _ h => h) (Or.inl ⟨by rfl, ?_⟩) ?_ ?_
                rotate_left
                · intro w'
                  go_simp
                  with_reducible rfl
                rotate_left
                · simp only [Act.put, List.setIfInBounds_toArray, List.set_cons_zero, List.set_cons_succ, i64_w, i32_w]
                  rfl
                refine last_ (i := 14) (N := none) #[true, true, true, true, true, true, true, true, true, true, true, true, true, true, true] rfl rfl (by kernel_rfl) (by decide) (fun K hK => ?_)
                refine H.own_mput_step HO.out (by rfl) 0 (n := 12) rfl (HDM.out k b) rfl rfl rfl rfl (by kernel_rfl) (by show b < (H.domTo g k b).length; rw [H.domTo, HDL.out]; exact HBL.out) HK12.out ?_
                intro w_ ho_ hg_
                replace HO := Aside0.mk ho_
                clear ho_ hg_
                refine hK.out _ _ ?_
                clear hK K
                refine done_ (by kernel_rfl) ?_
                go_wp2
                go_roundw
                case rel => exact ⟨b + 1, by go_num, by omega, ⟨by rw [← H.domTo_put g HBL.out HV.out]; exact HO.out⟩⟩
                case measure => simp [intOf]; omega
              | false =>
                have HV := Aside0.mk (show H.domV g b k = true by unfold H.domV; rw [HAL.out, hx, HLF.out, hy, HBK.out]; simp)
                have HX := Aside0.mk hx
                have HY := Aside0.mk hy
                clear hx hy
                refine start_ (n := 15) (S := fun w' => w'.cell? ⟨ga, b, none⟩ = some (.bool true) ∧ w'.cell? ⟨gl, b, none⟩ = some (.bool false)) (ds := [14]) #[false, false, false, false, false, false, false, false, false, false, false, false, false, false, false] (by kernel_rfl) rfl rfl ⟨(HX.out ▸ HO.out.bat 1 rfl (by rw [HALN.out]; exact HB12.out)), (HY.out ▸ HO.out.bat 2 rfl (by rw [HLL.out]; exact HB12.out))⟩ (fun hHeld => ?_)
                refine pure_ (i := 0) (N := some 36) (v := ?_) (a' := ?_) #[true, false, false, false, false, false, false, false, false, false, false, false, false, false, false] rfl rfl (by kernel_rfl) (fun _ _ _ h => h) (Or.inl ⟨by rfl, ?_⟩) ?_ ?_
                rotate_left
                · intro w'
                  go_simp
                  with_reducible rfl
                rotate_left
                · simp only [Act.put, List.setIfInBounds_toArray, List.set_cons_zero, List.set_cons_succ, i64_w, i32_w]
                  rfl
                refine pure_ (i := 1) (N := some 37) (v := ?_) (a' := ?_) #[true, true, false, false, false, false, false, false, false, false, false, false, false, false, false] rfl rfl (by kernel_rfl) (fun _ _ _ h => h) (Or.inl ⟨by rfl, ?_⟩) ?_ ?_
                rotate_left
                · intro w'
                  go_simp
                  with_reducible rfl
                rotate_left
                · simp only [Act.put, List.setIfInBounds_toArray, List.set_cons_zero, List.set_cons_succ, i64_w, i32_w]
                  rfl
                refine pure_ (i := 2) (N := some 38) (v := ?_) (a' := ?_) #[true, true, true, false, false, false, false, false, false, false, false, false, false, false, false] rfl rfl (by kernel_rfl) (fun _ _ _ h => h) (Or.inl ⟨by rfl, ?_⟩) ?_ ?_
                rotate_left
                · intro w'
                  go_simp
                  with_reducible rfl
                rotate_left
                · simp only [Act.put, List.setIfInBounds_toArray, List.set_cons_zero, List.set_cons_succ, i64_w, i32_w]
                  rfl
                refine pure_ (i := 3) (N := some 39) (v := ?_) (a' := ?_) #[true, true, true, true, false, false, false, false, false, false, false, false, false, false, false] rfl rfl (by kernel_rfl) (fun _ _ _ h => h) (Or.inl ⟨by rfl, ?_⟩) ?_ ?_
                rotate_left
                · intro w'
                  go_simp
                  with_reducible rfl
                rotate_left
                · simp only [Act.put, List.setIfInBounds_toArray, List.set_cons_zero, List.set_cons_succ, i64_w, i32_w]
                  rfl
                refine pure_ (i := 4) (N := some 40) (v := ?_) (a' := ?_) #[true, true, true, true, true, false, false, false, false, false, false, false, false, false, false] rfl rfl (by kernel_rfl) (fun _ _ _ h => h) (Or.inl ⟨by rfl, ?_⟩) ?_ ?_
                rotate_left
                · intro w'
                  go_simp
                  with_reducible rfl
                rotate_left
                · simp only [Act.put, List.setIfInBounds_toArray, List.set_cons_zero, List.set_cons_succ, i64_w, i32_w]
                  rfl
                refine pure_ (i := 12) (N := some 48) (v := ?_) (a' := ?_) #[true, true, true, true, true, false, false, false, false, false, false, false, true, false, false] rfl rfl (by kernel_rfl) (fun _ _ _ h => h) (Or.inl ⟨by rfl, ?_⟩) ?_ ?_
                rotate_left
                · intro w'
                  go_simp
                  with_reducible rfl
                rotate_left
                · simp only [Act.put, List.setIfInBounds_toArray, List.set_cons_zero, List.set_cons_succ, i64_w, i32_w]
                  rfl
                refine take_ (i := 5) (N := some 41) (v := ?_) (a' := ?_) #[true, true, true, true, true, true, false, false, false, false, false, false, true, false, false] rfl rfl (by kernel_rfl) (fun _ _ _ h => h) (Or.inl ⟨by rfl, ?_⟩) hHeld ?_ ?_
                rotate_left
                · rintro w' ⟨s0, s1⟩
                  go_simp
                  with_reducible rfl
                rotate_left
                · simp only [Act.put, List.setIfInBounds_toArray, List.set_cons_zero, List.set_cons_succ, i64_w, i32_w]
                  rfl
                refine pure_ (i := 6) (N := some 42) (v := ?_) (a' := ?_) #[true, true, true, true, true, true, true, false, false, false, false, false, true, false, false] rfl rfl (by kernel_rfl) (fun _ _ _ h => h) (Or.inl ⟨by rfl, ?_⟩) ?_ ?_
                rotate_left
                · intro w'
                  go_simp
                  with_reducible rfl
                rotate_left
                · simp only [Act.put, List.setIfInBounds_toArray, List.set_cons_zero, List.set_cons_succ, i64_w, i32_w]
                  rfl
                refine pure_ (i := 7) (N := some 43) (v := ?_) (a' := ?_) #[true, true, true, true, true, true, true, true, false, false, false, false, true, false, false] rfl rfl (by kernel_rfl) (fun _ _ _ h => h) (Or.inl ⟨by rfl, ?_⟩) ?_ ?_
                rotate_left
                · intro w'
                  go_simp
                  with_reducible rfl
                rotate_left
                · simp only [Act.put, List.setIfInBounds_toArray, List.set_cons_zero, List.set_cons_succ, i64_w, i32_w]
                  rfl
                refine pure_ (i := 8) (N := some 44) (v := ?_) (a' := ?_) #[true, true, true, true, true, true, true, true, true, false, false, false, true, false, false] rfl rfl (by kernel_rfl) (fun _ _ _ h => h) (Or.inl ⟨by rfl, ?_⟩) ?_ ?_
                rotate_left
                · intro w'
                  go_simp
                  with_reducible rfl
                rotate_left
                · simp only [Act.put, List.setIfInBounds_toArray, List.set_cons_zero, List.set_cons_succ, i64_w, i32_w]
                  rfl
                refine take_ (i := 9) (N := some 45) (v := ?_) (a' := ?_) #[true, true, true, true, true, true, true, true, true, true, false, false, true, false, false] rfl rfl (by kernel_rfl) (fun _ _ _ h => h) (Or.inl ⟨by rfl, ?_⟩) hHeld ?_ ?_
                rotate_left
                · rintro w' ⟨s0, s1⟩
                  go_simp
                  with_reducible rfl
                rotate_left
                · simp only [Act.put, List.setIfInBounds_toArray, List.set_cons_zero, List.set_cons_succ, i64_w, i32_w]
                  rfl
                refine pure_ (i := 10) (N := some 46) (v := ?_) (a' := ?_) #[true, true, true, true, true, true, true, true, true, true, true, false, true, false, false] rfl rfl (by kernel_rfl) (fun _ _ _ h => h) (Or.inl ⟨by rfl, ?_⟩) ?_ ?_
                rotate_left
                · intro w'
                  go_simp
                  with_reducible rfl
                rotate_left
                · simp only [Act.put, List.setIfInBounds_toArray, List.set_cons_zero, List.set_cons_succ, i64_w, i32_w]
                  rfl
                refine pure_ (i := 11) (N := some 47) (v := ?_) (a' := ?_) #[true, true, true, true, true, true, true, true, true, true, true, true, true, false, false] rfl rfl (by kernel_rfl) (fun _ _ _ h => h) (Or.inl ⟨by rfl, ?_⟩) ?_ ?_
                rotate_left
                · intro w'
                  go_simp
                  with_reducible rfl
                rotate_left
                · simp only [Act.put, List.setIfInBounds_toArray, List.set_cons_zero, List.set_cons_succ, i64_w, i32_w]
                  rfl
                refine pure_ (i := 13) (N := some 49) (v := ?_) (a' := ?_) #[true, true, true, true, true, true, true, true, true, true, true, true, true, true, false] rfl rfl (by kernel_rfl) (fun _ _ _ h => h) (Or.inl ⟨by rfl, ?_⟩) ?_ ?_
                rotate_left
                · intro w'
                  go_simp
                  with_reducible rfl
                rotate_left
                · simp only [Act.put, List.setIfInBounds_toArray, List.set_cons_zero, List.set_cons_succ, i64_w, i32_w]
                  rfl
                refine last_ (i := 14) (N := none) #[true, true, true, true, true, true, true, true, true, true, true, true, true, true, true] rfl rfl (by kernel_rfl) (by decide) (fun K hK => ?_)
                refine H.own_mput_step HO.out (by rfl) 0 (n := 12) rfl (HDM.out k b) rfl rfl rfl rfl (by kernel_rfl) (by show b < (H.domTo g k b).length; rw [H.domTo, HDL.out]; exact HBL.out) HK12.out ?_
                intro w_ ho_ hg_
                replace HO := Aside0.mk ho_
                clear ho_ hg_
                refine hK.out _ _ ?_
                clear hK K
                refine done_ (by kernel_rfl) ?_
                go_wp2
                go_roundw
                case rel => exact ⟨b + 1, by go_num, by omega, ⟨by rw [← H.domTo_put g HBL.out HV.out]; exact HO.out⟩⟩
                case measure => simp [intOf]; omega
          · have hE : b = g.length := by omega
            subst hE
            go_wp2
            go_roundw
            case rel => exact ⟨k + 1, by go_num, by omega, ⟨by rw [← H.domTo_end]; exact HO.out.take (by simp)⟩⟩
            case measure => simp [intOf]; omega
    · have hE : k = g.length := by omega
      subst hE
      go_wp2
      go_ret
      exact ⟨gs, rfl, by rw [← H.domTo_last]; exact HO.out.take (by simp)⟩
end Go.Proofs.Ytplcipjlkogadaa.P

namespace Go.Proofs.Ytplcipjlkogadaa.P
open Go.RowKit Go.Proofs.YtplcipjlkogadaaW.PrintWords Go.Proofs.YtplcipjlkogadaaW.PrintLast Go.Proofs.YtplcipjlkogadaaW.PrintMore
attribute [local go_sem] max2_int min2_int max_two min_two max_three min_three max_four min_four
def stAt (D : List (List Bool)) (sets : List Int) (u : Int) : Bool := sets.any (fun s => (D.getD u.toNat []).getD s.toNat false)
def stF (g : List (List Int)) (sets uses : List Int) : Bool × Bool :=
  if H.goodG g && (rlF g sets && rlF g uses) then (uses.all (stAt (H.domF g) sets), true) else (false, false)
def impl_IsStrict.f (l0_0 : List (List Int)) (l1 : List Int) (l2 : List Int) : Option (Bool × Bool) := some (stF l0_0 l1 l2)
theorem rlF_rng {g : List (List Int)} {l : List Int} (h : rlF g l = true) : ∀ y ∈ l, 0 ≤ y ∧ y < (g.length : Int) := by
  intro y hy
  unfold rlF at h
  rw [Bool.and_eq_true] at h
  have h1 := List.all_eq_true.1 h.1 y hy
  unfold rlAt H.inB at h1
  simp only [Bool.and_eq_true, decide_eq_true_eq] at h1
  omega
set_option maxHeartbeats 8000000 in
set_option maxRecDepth 100000 in
theorem impl_IsStrict.calls (A0_0 : Option Addr) (c0_0 : Nat) (l0_0 : List (List Int)) (A1 : Option Addr) (c1 : Nat) (l1 : List Int) (A2 : Option Addr) (c2 : Nat) (l2 : List Int) (r1 : Bool) (r2 : Bool) (w : World) (hr0_0 : Kd.C (Kd.slice 3 (Kd.int .i64)) w A0_0 l0_0.length l0_0) (hc0_0 : l0_0.length ≤ c0_0) (hr1 : Kd.C (Kd.int .i64) w A1 l1.length l1) (hc1 : l1.length ≤ c1) (hr2 : Kd.C (Kd.int .i64) w A2 l2.length l2) (hc2 : l2.length ≤ c2) (h : impl_IsStrict.f l0_0 l1 l2 = some (r1, r2)) :
    Calls Try.prog 30 #[.agg #[.slice A0_0 l0_0.length c0_0], .slice A1 l1.length c1, .slice A2 l2.length c2] w fun e w' => e = .returned (.tuple #[.bool r1, .bool r2]) ∧ Below w.heap.size w w' := by
  replace h := Option.some.inj h
  unfold stF at h
  have HR0 := Aside0.mk hr0_0
  have HC0 := Aside0.mk hc0_0
  have HR1 := Aside0.mk hr1
  have HC1 := Aside0.mk hc1
  have HR2 := Aside0.mk hr2
  have HC2 := Aside0.mk hc2
  have hl1 := hr1.2.1
  have hl2 := hr2.2.1
  clear hr0_0 hc0_0 hr1 hc1 hr2 hc2
  have HO := Aside0.mk (H.Own.nil w)
  have HK := Aside0.mk (fun (W : World) (hb : Below w.heap.size w W) => impl_GoodGraph.calls A0_0 c0_0 l0_0 _ W (Kd.C_below HR0.out hb) HC0.out rfl)
  cases hg : H.goodG l0_0 with
  | false =>
    rw [hg, Bool.false_and, if_neg (by simp), Prod.mk.injEq] at h
    obtain ⟨rfl, rfl⟩ := h
    rw [hg] at HK
    clear hg
    go_enter Try.func30, Try.ntmps30
    go_wp2_with (first | ((with_reducible refine gate_dst (N := 3) rfl ?_); refine H.own_box HO.out ?hg (N := 3) ?hd (cs := #[Value.slice A0_0 l0_0.length c0_0]) (t := 27) ?hr ?_; (case hd => rfl); (case hg => rfl); (case hr => first | (go_simp; done) | (go_simp; rfl)); intro gp w_ ho_ hb_; replace HO := Aside0.mk ho_; clear ho_ hb_) | ((with_reducible refine gate_dst (N := 14) rfl ?_); refine wpList_load_row rfl 27 (.tmp 3) rfl _ rfl 27 _ (0, 0) _ (HO.out.get 0 rfl) Try.underlying27 rfl (by kernel_rfl) ?_) | (go_at_call 18; refine (HK.out _ HO.out.below).mono ?_; rintro e w' ⟨rfl, hb⟩; replace HO := Aside0.mk (HO.out.step hb); clear hb))
    go_ret2
    exact ⟨rfl, HO.out.below⟩
  | true =>
    rw [hg, Bool.true_and] at h
    rw [hg] at HK
    have hr := H.goodG_rows hg
    have hn1 : 1 ≤ l0_0.length := hr.1.1
    have hn2 : l0_0.length ≤ 12 := hr.1.2
    have HG := Aside0.mk hg
    have HRA := Aside0.mk (fun (p : Addr) (W : World) (hb : Below w.heap.size w W) (hp : W.cell? p = some (.slice A0_0 l0_0.length c0_0)) => impl_reachedList.calls p A0_0 c0_0 l0_0 A1 c1 l1 W hp (Kd.C_below HR0.out hb) HG.out (Kd.C_below HR1.out hb) HC1.out)
    have HRB := Aside0.mk (fun (p : Addr) (W : World) (hb : Below w.heap.size w W) (hp : W.cell? p = some (.slice A0_0 l0_0.length c0_0)) => impl_reachedList.calls p A0_0 c0_0 l0_0 A2 c2 l2 W hp (Kd.C_below HR0.out hb) HG.out (Kd.C_below HR2.out hb) HC2.out)
    clear hg hr
    cases ha : rlF l0_0 l1 with
    | false =>
      rw [ha, Bool.false_and, if_neg (by simp), Prod.mk.injEq] at h
      obtain ⟨rfl, rfl⟩ := h
      rw [ha] at HRA
      clear ha
      go_enter Try.func30, Try.ntmps30
      go_wp2_with (first | ((with_reducible refine gate_dst (N := 3) rfl ?_); refine H.own_box HO.out ?hg (N := 3) ?hd (cs := #[Value.slice A0_0 l0_0.length c0_0]) (t := 27) ?hr ?_; (case hd => rfl); (case hg => rfl); (case hr => first | (go_simp; done) | (go_simp; rfl)); intro gp w_ ho_ hb_; replace HO := Aside0.mk ho_; clear ho_ hb_) | ((with_reducible refine gate_dst (N := 14) rfl ?_); refine wpList_load_row rfl 27 (.tmp 3) rfl _ rfl 27 _ (0, 0) _ (HO.out.get 0 rfl) Try.underlying27 rfl (by kernel_rfl) ?_) | (go_at_call 18; refine (HK.out _ HO.out.below).mono ?_; rintro e w' ⟨rfl, hb⟩; replace HO := Aside0.mk (HO.out.step hb); clear hb) | (go_at_call 66; refine (HRA.out _ _ HO.out.below (HO.out.cell 0 rfl 0)).mono ?_; rintro e w' ⟨rfl, hb⟩; replace HO := Aside0.mk (HO.out.step hb); clear hb))
      go_ret2
      exact ⟨rfl, HO.out.below⟩
    | true =>
      have HINA := Aside0.mk (rlF_rng ha)
      rw [ha, Bool.true_and] at h
      rw [ha] at HRA
      clear ha
      cases hb : rlF l0_0 l2 with
      | false =>
        rw [hb, if_neg (by simp), Prod.mk.injEq] at h
        obtain ⟨rfl, rfl⟩ := h
        rw [hb] at HRB
        clear hb
        go_enter Try.func30, Try.ntmps30
        go_wp2_with (first | ((with_reducible refine gate_dst (N := 3) rfl ?_); refine H.own_box HO.out ?hg (N := 3) ?hd (cs := #[Value.slice A0_0 l0_0.length c0_0]) (t := 27) ?hr ?_; (case hd => rfl); (case hg => rfl); (case hr => first | (go_simp; done) | (go_simp; rfl)); intro gp w_ ho_ hb_; replace HO := Aside0.mk ho_; clear ho_ hb_) | ((with_reducible refine gate_dst (N := 14) rfl ?_); refine wpList_load_row rfl 27 (.tmp 3) rfl _ rfl 27 _ (0, 0) _ (HO.out.get 0 rfl) Try.underlying27 rfl (by kernel_rfl) ?_) | (go_at_call 18; refine (HK.out _ HO.out.below).mono ?_; rintro e w' ⟨rfl, hb⟩; replace HO := Aside0.mk (HO.out.step hb); clear hb) | (go_at_call 66; first | (refine (HRA.out _ _ HO.out.below (HO.out.cell 0 rfl 0)).mono ?_; rintro e w' ⟨rfl, hb⟩; replace HO := Aside0.mk (HO.out.step hb); clear hb HRA) | (refine (HRB.out _ _ HO.out.below (HO.out.cell 0 rfl 0)).mono ?_; rintro e w' ⟨rfl, hb⟩; replace HO := Aside0.mk (HO.out.step hb); clear hb)))
        go_ret2
        exact ⟨rfl, HO.out.below⟩
      | true =>
        have HINB := Aside0.mk (rlF_rng hb)
        rw [hb, if_pos rfl, Prod.mk.injEq] at h
        obtain ⟨rfl, rfl⟩ := h
        rw [hb] at HRB
        clear hb
        have hml := H.matF_len (fun b j => decide (j < l0_0.length) && H.domV l0_0 b j) l0_0.length
        have hmm := H.matF_mat (fun b j => decide (j < l0_0.length) && H.domV l0_0 b j) l0_0.length
        have HMM : Aside0 (H.Mat 12 (H.domF l0_0)) := ⟨hmm⟩
        have HML : Aside0 ((H.domF l0_0).length = l0_0.length) := ⟨hml⟩
        have HDO := Aside0.mk (fun (p : Addr) (W : World) (hb : Below w.heap.size w W) (hp : W.cell? p = some (.slice A0_0 l0_0.length c0_0)) => impl_dominators.calls p A0_0 c0_0 l0_0 W hp (Kd.C_below HR0.out hb) HG.out)
        obtain ⟨D, hD⟩ : ∃ D, H.domF l0_0 = D := ⟨_, rfl⟩
        rw [hD] at HMM HML HDO ⊢
        clear hml hmm hD
        go_enter Try.func30, Try.ntmps30
        go_wp2_with (first | ((with_reducible refine gate_dst (N := 3) rfl ?_); refine H.own_box HO.out ?hg (N := 3) ?hd (cs := #[Value.slice A0_0 l0_0.length c0_0]) (t := 27) ?hr ?_; (case hd => rfl); (case hg => rfl); (case hr => first | (go_simp; done) | (go_simp; rfl)); intro gp w_ ho_ hb_; replace HO := Aside0.mk ho_; clear ho_ hb_) | ((with_reducible refine gate_dst (N := 14) rfl ?_); refine wpList_load_row rfl 27 (.tmp 3) rfl _ rfl 27 _ (0, 0) _ (HO.out.get 0 rfl) Try.underlying27 rfl (by kernel_rfl) ?_) | (go_at_call 18; refine (HK.out _ HO.out.below).mono ?_; rintro e w' ⟨rfl, hb⟩; replace HO := Aside0.mk (HO.out.step hb); clear hb) | (go_at_call 66; first | (refine (HRA.out _ _ HO.out.below (HO.out.cell 0 rfl 0)).mono ?_; rintro e w' ⟨rfl, hb⟩; replace HO := Aside0.mk (HO.out.step hb); clear hb HRA) | (refine (HRB.out _ _ HO.out.below (HO.out.cell 0 rfl 0)).mono ?_; rintro e w' ⟨rfl, hb⟩; replace HO := Aside0.mk (HO.out.step hb); clear hb)) | (go_at_call 67; refine (HDO.out _ _ HO.out.below (HO.out.cell 0 rfl 0)).mono ?_; rintro e w' ⟨gm, rfl, ho⟩; replace HO := Aside0.mk (HO.out.join ho); clear ho))
        go_loopw [30] (fun v30 wr => ∃ i : Nat, v30 = .int .i64 i ∧ i ≤ l2.length ∧ Aside0 ((l2.take i).all (stAt D l1) = true) ∧ Aside0 (H.Own w wr [(gp, #[Value.slice A0_0 l0_0.length c0_0], 27), (gm, H.bcells D.flatten, 64)])) (fun v30 _ => l2.length - (intOf v30).toNat)
        case atStart => exact ⟨0, rfl, Nat.zero_le _, ⟨rfl⟩, HO⟩
        case round =>
          clear HO
          obtain ⟨i, rfl, hi, HA, HO⟩ := hrel
          by_cases hlt : i < l2.length
          · obtain ⟨ad, e1, hc⟩ := Kd.at_int HR2.out (i : Int) (by omega) (by omega)
            subst e1
            rw [Int.toNat_natCast] at hc
            have hd : rd l2 (i : Int) = l2.getD i 0 := rfl
            rw [hd] at hc
            have htk : l2.take (i + 1) = l2.take i ++ [l2.getD i 0] := by rw [List.take_add_one, List.getElem?_eq_getElem hlt, List.getD_eq_getElem?_getD, List.getElem?_eq_getElem hlt]; rfl
            have hmem : l2.getD i 0 ∈ l2 := by rw [List.getD_eq_getElem?_getD, List.getElem?_eq_getElem hlt]; exact List.getElem_mem hlt
            have hur := HINB.out _ hmem
            obtain ⟨u, hx⟩ : ∃ u : Nat, l2.getD i 0 = (u : Int) := ⟨(l2.getD i 0).toNat, by omega⟩
            rw [hx] at hc htk hmem hur
            have hcx := HO.out.old hc
            have HTK := Aside0.mk htk
            have HMEM := Aside0.mk hmem
            have HUM := Aside0.mk (show u < D.length by rw [HML.out]; omega)
            have hug : (u : Int) < (l0_0.length : Int) := hur.2
            have hil : (i : Int) < (l2.length : Int) := by omega
            have hsu : stAt D l1 (u : Int) = l1.any (fun s => (D.getD u []).getD s.toNat false) := by unfold stAt; rw [Int.toNat_natCast]
            have HSU := Aside0.mk hsu
            clear hd hx hc htk hmem hur hsu
            go_wp2
            go_loopw [11, 36] (fun v11 v36 wr => ∃ j : Nat, v11 = .bool ((l1.take j).any (fun s => (D.getD u []).getD s.toNat false)) ∧ v36 = .int .i64 j ∧ j ≤ l1.length ∧ Aside0 (H.Own w wr [(gp, #[Value.slice A0_0 l0_0.length c0_0], 27), (gm, H.bcells D.flatten, 64)])) (fun _ v36 _ => l1.length - (intOf v36).toNat)
            case atStart => exact ⟨0, rfl, rfl, Nat.zero_le _, HO⟩
            case round =>
              clear HO hcx
              obtain ⟨j, rfl, rfl, hj, HO⟩ := hrel
              by_cases hlt2 : j < l1.length
              · obtain ⟨ad2, e2, hc2⟩ := Kd.at_int HR1.out (j : Int) (by omega) (by omega)
                subst e2
                rw [Int.toNat_natCast] at hc2
                have hd2 : rd l1 (j : Int) = l1.getD j 0 := rfl
                rw [hd2] at hc2
                have htk2 : l1.take (j + 1) = l1.take j ++ [l1.getD j 0] := by rw [List.take_add_one, List.getElem?_eq_getElem hlt2, List.getD_eq_getElem?_getD, List.getElem?_eq_getElem hlt2]; rfl
                have hs := HINA.out _ (show l1.getD j 0 ∈ l1 by rw [List.getD_eq_getElem?_getD, List.getElem?_eq_getElem hlt2]; exact List.getElem_mem hlt2)
                obtain ⟨s, hx2⟩ : ∃ s : Nat, l1.getD j 0 = (s : Int) := ⟨(l1.getD j 0).toNat, by omega⟩
                rw [hx2] at hc2 htk2 hs
                have hcy := HO.out.old hc2
                have hs12 : s < 12 := by omega
                have hs12' : (s : Int) < 12 := by omega
                have hjl : (j : Int) < (l1.length : Int) := by omega
                have hbit := HO.out.mat 1 (n := 12) rfl HMM.out HUM.out hs12
                obtain ⟨bit, hbe⟩ : ∃ bit, (D.getD u []).getD s false = bit := ⟨_, rfl⟩
                rw [hbe] at hbit
                have hst : (l1.take (j + 1)).any (fun s => (D.getD u []).getD s.toNat false) = ((l1.take j).any (fun s => (D.getD u []).getD s.toNat false) || bit) := by
                  rw [htk2, List.any_append, List.any_cons, List.any_nil, Int.toNat_natCast, hbe, Bool.or_false]
                obtain ⟨ok, hok⟩ : ∃ ok, (l1.take j).any (fun s => (D.getD u []).getD s.toNat false) = ok := ⟨_, rfl⟩
                rw [hok] at hst
                have HST := Aside0.mk hst
                rw [hok]
                clear hd2 htk2 hs hx2 hc2 hbe hst hok
                cases ok with
                | true =>
                  go_wp2
                  go_roundw
                  case rel => exact ⟨j + 1, by rw [HST.out]; rfl, by go_num, by omega, HO⟩
                  case measure => simp [intOf]; omega
                | false =>
                  go_wp2
                  go_roundw
                  case rel => exact ⟨j + 1, by rw [HST.out]; rfl, by go_num, by omega, HO⟩
                  case measure => simp [intOf]; omega
              · have hE : j = l1.length := by omega
                subst hE
                rw [List.take_length]
                cases hal : l1.any (fun s => (D.getD u []).getD s.toNat false) with
                | true =>
                  have HA2 := Aside0.mk (show (l2.take (i + 1)).all (stAt D l1) = true by
                    rw [HTK.out, List.all_append, HA.out, List.all_cons, List.all_nil, HSU.out, hal]
                    rfl)
                  clear hal
                  go_wp2
                  go_roundw
                  case rel => exact ⟨i + 1, by go_num, by omega, HA2, HO⟩
                  case measure => simp [intOf]; omega
                | false =>
                  have HF := Aside0.mk (show l2.all (stAt D l1) = false by
                    rw [List.all_eq_false]
                    exact ⟨_, HMEM.out, by rw [HSU.out, hal]; simp⟩)
                  clear hal
                  go_wp2
                  go_ret2
                  exact ⟨by rw [HF.out]; rfl, HO.out.below⟩
          · have hE : i = l2.length := by omega
            subst hE
            have HF := Aside0.mk (show l2.all (stAt D l1) = true by have := HA.out; rw [List.take_length] at this; exact this)
            go_wp2
            go_ret2
            exact ⟨by rw [HF.out]; rfl, HO.out.below⟩
end Go.Proofs.Ytplcipjlkogadaa.P

namespace Go.Proofs.Ytplcipjlkogadaa.P
open Go.RowKit Go.Proofs.YtplcipjlkogadaaW.PrintWords Go.Proofs.YtplcipjlkogadaaW.PrintLast Go.Proofs.YtplcipjlkogadaaW.PrintMore
attribute [local go_sem] max2_int min2_int max_two min_two max_three min_three max_four min_four
def spec_l11Blocks.l0 : Nat → List Int → List Int → List Int → Int → Int → Option (Bool)
  | 0, _, _, _, _, _ => none
  | k + 1, x1, x5, x10, x11, x12 => if x12 < x11 then (if 0 ≤ x12 then (if x12 < (x10.length : Int) then ((spec_l1Has.f k x5 (rd x10 x12)).bind fun t219 => (if t219 = true then (if x12 > 0 then (if 0 ≤ (wrap64 (x12 - 1)) then (if (wrap64 (x12 - 1)) < (x1.length : Int) then (if (rd x1 (wrap64 (x12 - 1))) ≥ (rd x10 x12) then (some false) else (spec_l11Blocks.l0 k x1 x5 x10 x11 (wrap64 (x12 + 1)))) else (none)) else (none)) else (spec_l11Blocks.l0 k x1 x5 x10 x11 (wrap64 (x12 + 1)))) else (some false))) else (none)) else (none)) else (some true)
def spec_l11Blocks.f (k : Nat) (l0_0 : List (List Int)) (l1 : List Int) : Option (Bool) := (spec_l10Reach.f k l0_0 (-1)).bind fun t215 => (spec_l11Blocks.l0 k l1 t215 l1 (l1.length : Int) 0)
theorem spec_l11Blocks.mono_l : ∀ k, (∀ y0 y1 y2 y3 y4, LeO (spec_l11Blocks.l0 k y0 y1 y2 y3 y4) (spec_l11Blocks.l0 (k + 1) y0 y1 y2 y3 y4))
  | 0 => fun _ _ _ _ _ r h => by simp [spec_l11Blocks.l0] at h
  | k + 1 => by
    have ih0 := spec_l11Blocks.mono_l k
    · intro y0 y1 y2 y3 y4
      unfold spec_l11Blocks.l0
      repeat' first
      | (with_reducible exact ih0 _ _ _ _ _)
      | (with_reducible exact spec_l10Reach.mono _ _ _)
      | (with_reducible exact spec_l1Has.mono _ _ _)
      | (with_reducible exact LeO.refl _)
      | (with_reducible exact LeO.none _)
      | (with_reducible refine LeO.ite ?_ ?_)
      | (with_reducible refine LeO.bind ?_ (fun _ => ?_))
      | exact ih0 _ _ _ _ _
      | exact spec_l10Reach.mono _ _ _
      | exact spec_l1Has.mono _ _ _
      | exact LeO.none _
      | refine LeO.ite ?_ ?_
      | refine LeO.bind ?_ (fun _ => ?_)
theorem spec_l11Blocks.mono : ∀ a0 a1 k, LeO (spec_l11Blocks.f k a0 a1) (spec_l11Blocks.f (k + 1) a0 a1) := by
  intro a0 a1 k
  have ih0 := spec_l11Blocks.mono_l k
  unfold spec_l11Blocks.f
  repeat' first
      | (with_reducible exact ih0 _ _ _ _ _)
      | (with_reducible exact spec_l10Reach.mono _ _ _)
      | (with_reducible exact spec_l1Has.mono _ _ _)
      | (with_reducible exact LeO.refl _)
      | (with_reducible exact LeO.none _)
      | (with_reducible refine LeO.ite ?_ ?_)
      | (with_reducible refine LeO.bind ?_ (fun _ => ?_))
      | exact ih0 _ _ _ _ _
      | exact spec_l10Reach.mono _ _ _
      | exact spec_l1Has.mono _ _ _
      | exact LeO.none _
      | refine LeO.ite ?_ ?_
      | refine LeO.bind ?_ (fun _ => ?_)
set_option maxHeartbeats 8000000 in
set_option maxRecDepth 100000 in
theorem spec_l11Blocks.calls (k : Nat) (A0_0 : Option Addr) (c0_0 : Nat) (l0_0 : List (List Int)) (A1 : Option Addr) (c1 : Nat) (l1 : List Int) (r : Bool) (w : World) (hr0_0 : Kd.C (Kd.slice 3 (Kd.int .i64)) w A0_0 l0_0.length l0_0) (hc0_0 : l0_0.length ≤ c0_0) (hr1 : Kd.C (Kd.int .i64) w A1 l1.length l1) (hc1 : l1.length ≤ c1) (h : spec_l11Blocks.f k l0_0 l1 = some r) :
    Calls Try.prog 63 #[.agg #[.slice A0_0 l0_0.length c0_0], .slice A1 l1.length c1] w fun e w' => e = .returned (.bool r) ∧ Below w.heap.size w w' := by
  have hu27 := Try.underlying27
  have HR0_0 := Aside0.mk hr0_0
  have HC0_0 := Aside0.mk hc0_0
  clear hr0_0 hc0_0
  have HR1 := Aside0.mk hr1
  have HC1 := Aside0.mk hc1
  clear hr1 hc1
  have HB := Aside0.mk (Below.refl w.heap.size w)
  have H : ((spec_l10Reach.f k l0_0 (-1)).bind fun t215 => (spec_l11Blocks.l0 k l1 t215 l1 (l1.length : Int) 0)) = some r := h
  clear h
  replace H := Option.bind_eq_some_iff.mp H
  obtain ⟨t215, A30, H⟩ := H
  replace H : (spec_l11Blocks.l0 k l1 t215 l1 (l1.length : Int) 0) = some r := H
  have A3 := Aside0.mk A30
  clear A30
  have H' := Aside0.mk H
  clear H
  go_enter Try.func63, Try.ntmps63
  go_wp2_with (first | ((with_reducible refine gate_dst (N := 2) rfl ?_); refine box_event ?hg (N := 2) ?hd (cs := #[.slice A0_0 l0_0.length c0_0]) (t := 27) ?hr ?_; (case hd => rfl); (case hg => rfl); (case hr => first | (go_simp; done) | (go_simp; rfl)); intro gb214 hg w4 hbox hb; have n0_ := Aside0.mk (below_step (by repeat (first | (with_reducible first | exact HB.out | apply below_alloc | apply pw_below_drewN | apply below_drew1) | exact HB.out)) hb); have n1_ := Aside0.mk (hbox); have n2_ := Aside0.mk ((by rw [hg]; exact (below_size (by repeat (first | (with_reducible first | exact HB.out | apply below_alloc | apply pw_below_drewN | apply below_drew1) | exact HB.out))) : w.heap.size ≤ gb214)); have n3_ := Aside0.mk ((by rw [hg]; exact (below_size (by repeat (first | (with_reducible first | exact HB.out | apply below_alloc | apply pw_below_drewN | apply below_drew1) | exact HB.out))) : w.heap.size ≤ gb214)); clear HB; have HB := n0_; have BK214 := n1_; have GW214 := n2_; have GE214 := n3_; clear n0_ n1_ n2_ n3_; clear hb hbox hg; have hcz5_0 : w4.cell? ⟨gb214, 0, none⟩ = some (.slice A0_0 l0_0.length c0_0) := (blk_cell BK214.out 0).trans rfl; have hfz5_0 := blk_frozen BK214.out 0) | ((with_reducible refine gate_callee (f := 60) rfl ?_); refine goesL_ (some 9) rfl rfl Try.func60 (by kernel_rfl) rfl #[.agg #[.slice A0_0 l0_0.length c0_0], .int .i64 (-1)] rfl (by (try simp only [List.map_toArray, List.map_cons, List.map_nil]); first | done | rfl | (simp only [List.length_drop, List.length_take]; rfl)) ?_; (with_reducible refine (spec_l10Reach.calls k _ _ l0_0 (-1) t215 _ ?side1 ?side2 A3.out).mono ?_); (case side1 => repeat (first | exact (Kd.C_below HR0_0.out HB.out) | (with_reducible refine Kd.C_alloc ?_ _) | (with_reducible refine Kd.C_drewN ?_ _) | (with_reducible refine Kd.C_drew ?_))); (case side2 => exact HC0_0.out); rintro e w6 ⟨v216, rfl, ho0, hb⟩; refine ⟨_, rfl, ?_⟩; have n0_ := Aside0.mk (Kd.R_lower ho0 (below_size (by repeat (first | (with_reducible first | exact HB.out | apply below_alloc | apply pw_below_drewN | apply below_drew1 | refine below_set ?_ GE214.out) | exact HB.out)))); have n1_ := Aside0.mk (blk_below (g := gb214) (o := .cells #[.slice A0_0 l0_0.length c0_0] 27 (0, 0)) (by (with_reducible repeat (first | refine blk_drewN ?_ _ | refine blk_drew ?_ | refine blk_alloc ?_ _)); exact BK214.out) hb); have n2_ := Aside0.mk (below_step (by repeat (first | (with_reducible first | exact HB.out | apply below_alloc | apply pw_below_drewN | apply below_drew1 | refine below_set ?_ GE214.out) | exact HB.out)) hb); clear BK214; clear HB; have HO217 := n0_; have BK214 := n1_; have HB := n2_; clear n0_ n1_ n2_; (try clear hb); (try clear hb2); (try clear hk); (try clear hi); (try clear ho0)))
  go_loopg [12] k (fun kq v12 w' => ∃ (x12_1 : Int), v12 = .int .i64 x12_1 ∧ Aside0 (spec_l11Blocks.l0 kq l1 t215 l1 (l1.length : Int) x12_1 = some r) ∧ Aside0 (kq ≤ k) ∧ Aside0 (Kd.R (Kd.int .i64) 3 w' w.heap.size (fun _ => True) v216 t215) ∧ Aside0 (w'.heap[gb214]? = some (.cells #[(.slice A0_0 l0_0.length c0_0)] 27 (0, 0))) ∧ Aside0 (Below w.heap.size w w'))
  case atStart => exact ⟨(0), (by first | rfl | (simp; done) | (simp [*]; done)), H', ⟨Nat.le_refl _⟩, ⟨by (with_reducible repeat (first | apply Kd.R_alloc | apply Kd.R_drewN | apply Kd.R_drew)); exact HO217.out⟩, ⟨by (with_reducible repeat (first | refine blk_drewN ?_ _ | refine blk_drew ?_ | refine blk_alloc ?_ _)); exact BK214.out⟩, ⟨by repeat (first | (with_reducible first | exact HB.out | apply below_alloc | apply pw_below_drewN | apply below_drew1 | refine below_set ?_ GE214.out) | exact HB.out)⟩⟩
  case round =>
    clear H'
    try clear c1
    try clear p2
    try clear c6
    try clear hcz5_0
    try clear hfz5_0
    obtain ⟨x12_1, rfl, HA, HK1, HO_5, BK214, HB⟩ := hrel
    cases gk with
    | zero => exact absurd HA.out (by simp [spec_l11Blocks.l0])
    | succ k1 =>
      have H := HA.out
      clear HA
      simp only [spec_l11Blocks.l0] at H
      by_cases c7 : x12_1 < (l1.length : Int)
      · rw [if_pos c7] at H
        have c7b0 : decide (x12_1 < (l1.length : Int)) = true := decide_eq_true c7
        clear c7
        by_cases c8 : 0 ≤ x12_1
        · rw [if_pos c8] at H
          have c8b0 : decide (0 ≤ x12_1) = true := decide_eq_true c8
          clear c8
          by_cases c9 : x12_1 < (l1.length : Int)
          · rw [if_pos c9] at H
            have c9b0 : decide (x12_1 < (l1.length : Int)) = true := decide_eq_true c9
            clear c9
            replace H := Option.bind_eq_some_iff.mp H
            obtain ⟨t219, A100, H⟩ := H
            replace H : (if t219 = true then (if x12_1 > 0 then (if 0 ≤ (wrap64 (x12_1 - 1)) then (if (wrap64 (x12_1 - 1)) < (l1.length : Int) then (if (rd l1 (wrap64 (x12_1 - 1))) ≥ (rd l1 x12_1) then (some false) else (spec_l11Blocks.l0 k1 l1 t215 l1 (l1.length : Int) (wrap64 (x12_1 + 1)))) else (none)) else (none)) else (spec_l11Blocks.l0 k1 l1 t215 l1 (l1.length : Int) (wrap64 (x12_1 + 1)))) else (some false)) = some r := H
            have A10 := Aside0.mk A100
            clear A100
            by_cases c11 : t219 = true
            · subst c11
              have H1 : (if x12_1 > 0 then (if 0 ≤ (wrap64 (x12_1 - 1)) then (if (wrap64 (x12_1 - 1)) < (l1.length : Int) then (if (rd l1 (wrap64 (x12_1 - 1))) ≥ (rd l1 x12_1) then (some false) else (spec_l11Blocks.l0 k1 l1 t215 l1 (l1.length : Int) (wrap64 (x12_1 + 1)))) else (none)) else (none)) else (spec_l11Blocks.l0 k1 l1 t215 l1 (l1.length : Int) (wrap64 (x12_1 + 1)))) = some r := by rw [if_pos rfl] at H; exact H
              clear H
              have H := H1
              clear H1
              by_cases c12 : x12_1 > 0
              · rw [if_pos c12] at H
                have c12b0 : decide (0 < x12_1) = true := decide_eq_true c12
                clear c12
                obtain ⟨ji13, hji13⟩ : ∃ j_ : Int, (wrap64 (x12_1 - 1)) = j_ := ⟨_, rfl⟩
                replace H : (if 0 ≤ (ji13) then (if (ji13) < (l1.length : Int) then (if (rd l1 (ji13)) ≥ (rd l1 x12_1) then (some false) else (spec_l11Blocks.l0 k1 l1 t215 l1 (l1.length : Int) (wrap64 (x12_1 + 1)))) else (none)) else (none)) = some r := by first | (rw [hji13] at H; exact H) | (simp only [hji13] at H ⊢; exact H)
                (try rw [hji13] at A10)
                have hji13w : (IntKind.i64.wrap (x12_1 - 1)) = ji13 := (i64_w _).trans hji13
                by_cases c14 : 0 ≤ (ji13)
                · rw [if_pos c14] at H
                  have c14b0 : decide (0 ≤ (ji13)) = true := decide_eq_true c14
                  clear c14
                  by_cases c15 : (ji13) < (l1.length : Int)
                  · rw [if_pos c15] at H
                    have c15b0 : decide ((ji13) < (l1.length : Int)) = true := decide_eq_true c15
                    clear c15
                    by_cases c16 : (rd l1 (ji13)) ≥ (rd l1 x12_1)
                    · rw [if_pos c16] at H
                      have c16b0 : decide ((rd l1 x12_1) ≤ (rd l1 (ji13))) = true := decide_eq_true c16
                      clear c16
                      obtain rfl := Option.some.inj H
                      have p218 : 0 ≤ (x12_1 : Int) := of_decide_eq_true (by first | (with_reducible assumption) | assumption)
                      have q218 : x12_1 < (l1.length : Int) := of_decide_eq_true (by first | (with_reducible assumption) | assumption)
                      obtain ⟨ad218, e218, hx218_0⟩ := Kd.at_int HR1.out x12_1 p218 q218
                      cases e218
                      replace hx218_0 := (HB.out.cell (World.block_lt_of_cell? w _ hx218_0)).trans hx218_0
                      replace p218 := eq_true p218
                      replace q218 := eq_true q218
                      obtain ⟨Ao17, co17, eo17⟩ := Kd.R_slice HO_5.out
                      subst eo17
                      go_wp2_with (first | ((with_reducible refine gate_callee (f := 65) rfl ?_); refine goesL_ (some 19) rfl rfl Try.func65 (by kernel_rfl) rfl #[.slice Ao17 t215.length co17, .int .i64 (rd l1 x12_1)] rfl (by (try simp only [List.map_toArray, List.map_cons, List.map_nil]); first | done | rfl | (simp only [List.length_drop, List.length_take]; rfl)) ?_; (with_reducible refine (spec_l1Has.calls k1 _ _ t215 (rd l1 x12_1) true _ ?side1 ?side2 A10.out).mono ?_); (case side1 => repeat (first | exact (Kd.R_reads' HO_5.out).2.2 | (with_reducible refine Kd.C_alloc ?_ _) | (with_reducible refine Kd.C_drewN ?_ _) | (with_reducible refine Kd.C_drew ?_))); (case side2 => exact (Kd.R_reads' HO_5.out).2.1); rintro e w' ⟨rfl, ⟨nd, rfl⟩⟩; refine ⟨_, rfl, ?_⟩; have p220 : 0 ≤ ((ji13) : Int) := of_decide_eq_true (by first | (with_reducible assumption) | assumption); have q220 : (ji13) < (l1.length : Int) := of_decide_eq_true (by first | (with_reducible assumption) | assumption); obtain ⟨ad220, e220, hx220_0⟩ := Kd.at_int HR1.out (ji13) p220 q220; obtain rfl : ad218 = ad220 := (by injection e220); replace hx220_0 := (HB.out.cell (World.block_lt_of_cell? w _ hx220_0)).trans hx220_0; replace p220 := eq_true p220; replace q220 := eq_true q220))
                      go_ret
                      exact ⟨by first | rfl | (simp [errW_none, errW_some] <;> rfl) | (simp only [← hji13]; first | rfl | (simp [errW_none, errW_some] <;> rfl)) | (simp [*, errW_none, errW_some] <;> rfl), by repeat (first | (with_reducible first | exact HB.out | apply below_alloc | apply pw_below_drewN | apply below_drew1 | refine below_set ?_ GE214.out) | exact HB.out)⟩
                    · rw [if_neg c16] at H
                      have c16b0 : decide ((rd l1 x12_1) ≤ (rd l1 (ji13))) = false := decide_eq_false c16
                      clear c16
                      have H' := Aside0.mk H
                      clear H
                      have p218 : 0 ≤ (x12_1 : Int) := of_decide_eq_true (by first | (with_reducible assumption) | assumption)
                      have q218 : x12_1 < (l1.length : Int) := of_decide_eq_true (by first | (with_reducible assumption) | assumption)
                      obtain ⟨ad218, e218, hx218_0⟩ := Kd.at_int HR1.out x12_1 p218 q218
                      cases e218
                      replace hx218_0 := (HB.out.cell (World.block_lt_of_cell? w _ hx218_0)).trans hx218_0
                      replace p218 := eq_true p218
                      replace q218 := eq_true q218
                      obtain ⟨Ao18, co18, eo18⟩ := Kd.R_slice HO_5.out
                      subst eo18
                      go_wp2_with (first | ((with_reducible refine gate_callee (f := 65) rfl ?_); refine goesL_ (some 19) rfl rfl Try.func65 (by kernel_rfl) rfl #[.slice Ao18 t215.length co18, .int .i64 (rd l1 x12_1)] rfl (by (try simp only [List.map_toArray, List.map_cons, List.map_nil]); first | done | rfl | (simp only [List.length_drop, List.length_take]; rfl)) ?_; (with_reducible refine (spec_l1Has.calls k1 _ _ t215 (rd l1 x12_1) true _ ?side1 ?side2 A10.out).mono ?_); (case side1 => repeat (first | exact (Kd.R_reads' HO_5.out).2.2 | (with_reducible refine Kd.C_alloc ?_ _) | (with_reducible refine Kd.C_drewN ?_ _) | (with_reducible refine Kd.C_drew ?_))); (case side2 => exact (Kd.R_reads' HO_5.out).2.1); rintro e w' ⟨rfl, ⟨nd, rfl⟩⟩; refine ⟨_, rfl, ?_⟩; have p220 : 0 ≤ ((ji13) : Int) := of_decide_eq_true (by first | (with_reducible assumption) | assumption); have q220 : (ji13) < (l1.length : Int) := of_decide_eq_true (by first | (with_reducible assumption) | assumption); obtain ⟨ad220, e220, hx220_0⟩ := Kd.at_int HR1.out (ji13) p220 q220; obtain rfl : ad218 = ad220 := (by injection e220); replace hx220_0 := (HB.out.cell (World.block_lt_of_cell? w _ hx220_0)).trans hx220_0; replace p220 := eq_true p220; replace q220 := eq_true q220))
                      go_roundg k1
                      case measure => have := HK1.out; omega
                      case rel => exact ⟨(wrap64 (x12_1 + 1)), (by first | rfl | (simp; done) | (simp [*]; done)), H', ⟨by have := HK1.out; omega⟩, ⟨by (with_reducible repeat (first | apply Kd.R_alloc | apply Kd.R_drewN | apply Kd.R_drew)); exact HO_5.out⟩, ⟨by (with_reducible repeat (first | refine blk_drewN ?_ _ | refine blk_drew ?_ | refine blk_alloc ?_ _)); exact BK214.out⟩, ⟨by repeat (first | (with_reducible first | exact HB.out | apply below_alloc | apply pw_below_drewN | apply below_drew1 | refine below_set ?_ GE214.out) | exact HB.out)⟩⟩
                  · rw [if_neg c15] at H
                    exact absurd H (by simp)
                · rw [if_neg c14] at H
                  exact absurd H (by simp)
              · rw [if_neg c12] at H
                have c12b0 : decide (0 < x12_1) = false := decide_eq_false c12
                clear c12
                have H' := Aside0.mk H
                clear H
                have p218 : 0 ≤ (x12_1 : Int) := of_decide_eq_true (by first | (with_reducible assumption) | assumption)
                have q218 : x12_1 < (l1.length : Int) := of_decide_eq_true (by first | (with_reducible assumption) | assumption)
                obtain ⟨ad218, e218, hx218_0⟩ := Kd.at_int HR1.out x12_1 p218 q218
                cases e218
                replace hx218_0 := (HB.out.cell (World.block_lt_of_cell? w _ hx218_0)).trans hx218_0
                replace p218 := eq_true p218
                replace q218 := eq_true q218
                obtain ⟨Ao19, co19, eo19⟩ := Kd.R_slice HO_5.out
                subst eo19
                go_wp2_with (first | ((with_reducible refine gate_callee (f := 65) rfl ?_); refine goesL_ (some 19) rfl rfl Try.func65 (by kernel_rfl) rfl #[.slice Ao19 t215.length co19, .int .i64 (rd l1 x12_1)] rfl (by (try simp only [List.map_toArray, List.map_cons, List.map_nil]); first | done | rfl | (simp only [List.length_drop, List.length_take]; rfl)) ?_; (with_reducible refine (spec_l1Has.calls k1 _ _ t215 (rd l1 x12_1) true _ ?side1 ?side2 A10.out).mono ?_); (case side1 => repeat (first | exact (Kd.R_reads' HO_5.out).2.2 | (with_reducible refine Kd.C_alloc ?_ _) | (with_reducible refine Kd.C_drewN ?_ _) | (with_reducible refine Kd.C_drew ?_))); (case side2 => exact (Kd.R_reads' HO_5.out).2.1); rintro e w' ⟨rfl, ⟨nd, rfl⟩⟩; refine ⟨_, rfl, ?_⟩))
                go_roundg k1
                case measure => have := HK1.out; omega
                case rel => exact ⟨(wrap64 (x12_1 + 1)), (by first | rfl | (simp; done) | (simp [*]; done)), H', ⟨by have := HK1.out; omega⟩, ⟨by (with_reducible repeat (first | apply Kd.R_alloc | apply Kd.R_drewN | apply Kd.R_drew)); exact HO_5.out⟩, ⟨by (with_reducible repeat (first | refine blk_drewN ?_ _ | refine blk_drew ?_ | refine blk_alloc ?_ _)); exact BK214.out⟩, ⟨by repeat (first | (with_reducible first | exact HB.out | apply below_alloc | apply pw_below_drewN | apply below_drew1 | refine below_set ?_ GE214.out) | exact HB.out)⟩⟩
            · replace c11 := Bool.eq_false_iff.mpr c11
              subst c11
              have H1 : (some false) = some r := by rw [if_neg (show ¬ (false = true) by decide)] at H; exact H
              clear H
              have H := H1
              clear H1
              obtain rfl := Option.some.inj H
              have p218 : 0 ≤ (x12_1 : Int) := of_decide_eq_true (by first | (with_reducible assumption) | assumption)
              have q218 : x12_1 < (l1.length : Int) := of_decide_eq_true (by first | (with_reducible assumption) | assumption)
              obtain ⟨ad218, e218, hx218_0⟩ := Kd.at_int HR1.out x12_1 p218 q218
              cases e218
              replace hx218_0 := (HB.out.cell (World.block_lt_of_cell? w _ hx218_0)).trans hx218_0
              replace p218 := eq_true p218
              replace q218 := eq_true q218
              obtain ⟨Ao20, co20, eo20⟩ := Kd.R_slice HO_5.out
              subst eo20
              go_wp2_with (first | ((with_reducible refine gate_callee (f := 65) rfl ?_); refine goesL_ (some 19) rfl rfl Try.func65 (by kernel_rfl) rfl #[.slice Ao20 t215.length co20, .int .i64 (rd l1 x12_1)] rfl (by (try simp only [List.map_toArray, List.map_cons, List.map_nil]); first | done | rfl | (simp only [List.length_drop, List.length_take]; rfl)) ?_; (with_reducible refine (spec_l1Has.calls k1 _ _ t215 (rd l1 x12_1) false _ ?side1 ?side2 A10.out).mono ?_); (case side1 => repeat (first | exact (Kd.R_reads' HO_5.out).2.2 | (with_reducible refine Kd.C_alloc ?_ _) | (with_reducible refine Kd.C_drewN ?_ _) | (with_reducible refine Kd.C_drew ?_))); (case side2 => exact (Kd.R_reads' HO_5.out).2.1); rintro e w' ⟨rfl, ⟨nd, rfl⟩⟩; refine ⟨_, rfl, ?_⟩))
              go_ret
              exact ⟨by first | rfl | (simp [errW_none, errW_some] <;> rfl) | (simp [*, errW_none, errW_some] <;> rfl), by repeat (first | (with_reducible first | exact HB.out | apply below_alloc | apply pw_below_drewN | apply below_drew1 | refine below_set ?_ GE214.out) | exact HB.out)⟩
          · rw [if_neg c9] at H
            exact absurd H (by simp)
        · rw [if_neg c8] at H
          exact absurd H (by simp)
      · rw [if_neg c7] at H
        have c7b0 : decide (x12_1 < (l1.length : Int)) = false := decide_eq_false c7
        clear c7
        obtain rfl := Option.some.inj H
        go_wp2
        go_ret
        exact ⟨by first | rfl | (simp [errW_none, errW_some] <;> rfl) | (simp [*, errW_none, errW_some] <;> rfl), by repeat (first | (with_reducible first | exact HB.out | apply below_alloc | apply pw_below_drewN | apply below_drew1 | refine below_set ?_ GE214.out) | exact HB.out)⟩
end Go.Proofs.Ytplcipjlkogadaa.P

namespace Go.Proofs.Ytplcipjlkogadaa.P
open Go.RowKit Go.Proofs.YtplcipjlkogadaaW.PrintWords Go.Proofs.YtplcipjlkogadaaW.PrintLast Go.Proofs.YtplcipjlkogadaaW.PrintMore
attribute [local go_sem] max2_int min2_int max_two min_two max_three min_three max_four min_four
def spec_l10Dominators.f (l0_0 : List (List Int)) : Option (List (List Int)) := if H.goodG l0_0 then some (Q.domL l0_0) else none
theorem has_any (l : List Int) (hl : l.length ≤ 1048576) (A : Option Addr) (c : Nat) (x : Int) (W : World) (h : Kd.C (Kd.int .i64) W A l.length l) (hc : l.length ≤ c) : Calls Try.prog 65 #[.slice A l.length c, .int .i64 x] W fun e w' => e = .returned (.bool (decide (x ∈ l))) ∧ Drawn0 W w' := by
  obtain ⟨k, hk⟩ := Ev.rounds (Q.has_ev l x hl)
  exact spec_l1Has.calls k A c l x _ W h hc hk
theorem put_any (l : List Int) (hl : l.length ≤ 1048576) (x : Int) (u : Value) (ok : Nat → Prop) (w0 W : World) (hB : Below w0.heap.size w0 W) (h : Kd.R (Kd.int .i64) 3 W w0.heap.size ok u l) :
    Calls Try.prog 73 #[u, .int .i64 x] W fun e w' => ∃ v0_ : Value, e = .returned (v0_) ∧ Kd.R (Kd.int .i64) 3 w' w0.heap.size (fun k_ => (some k_ = u.ownBlock) ∨ W.heap.size ≤ k_) v0_ (Q.putL l x) ∧ Below w0.heap.size w0 w' ∧ Kept W w' (fun k_ => some k_ = u.ownBlock) := by
  obtain ⟨k, hk⟩ := Ev.rounds (Q.put_ev l x hl)
  exact spec_l1Put.calls k (fun k_ => some k_ = u.ownBlock) u l x _ w0 W hB (Kd.R_tight rfl h) hk
theorem reach_any {g : List (List Int)} (hG : H.goodG g = true) (A : Option Addr) (c : Nat) (wo : Int) (W : World) (h : Kd.C (Kd.slice 3 (Kd.int .i64)) W A g.length g) (hc : g.length ≤ c) :
    Calls Try.prog 60 #[.agg #[.slice A g.length c], .int .i64 wo] W fun e w' => ∃ v0_ : Value, e = .returned (v0_) ∧ Kd.R (Kd.int .i64) 3 w' W.heap.size (fun _ => True) v0_ (listTo (H.reachF g 0 wo) 12) ∧ Below W.heap.size W w' := by
  obtain ⟨k, hk⟩ := Ev.rounds (Q.specReach_ev hG wo)
  exact spec_l10Reach.calls k A c g wo _ W h hc hk
set_option maxHeartbeats 8000000 in
set_option maxRecDepth 100000 in
theorem spec_l10Dominators.calls (A0_0 : Option Addr) (c0_0 : Nat) (l0_0 : List (List Int)) (r : List (List Int)) (w : World) (hr0_0 : Kd.C (Kd.slice 3 (Kd.int .i64)) w A0_0 l0_0.length l0_0) (hc0_0 : l0_0.length ≤ c0_0) (h : spec_l10Dominators.f l0_0 = some r) :
    Calls Try.prog 64 #[.agg #[.slice A0_0 l0_0.length c0_0]] w fun e w' => ∃ v0_ : Value, e = .returned (v0_) ∧ Kd.S (Kd.slice 3 (Kd.int .i64)) 31 w' w.heap.size (fun _ => True) v0_ r ∧ Below w.heap.size w w' := by
  unfold spec_l10Dominators.f at h
  cases hG : H.goodG l0_0 with
  | false => rw [hG] at h; exact absurd h (by simp)
  | true =>
    rw [hG, if_pos rfl] at h
    obtain rfl := Option.some.inj h
    have hr := H.goodG_rows hG
    have hn1 : 1 ≤ l0_0.length := hr.1.1
    have hn2 : l0_0.length ≤ 12 := hr.1.2
    have HR0 := Aside0.mk hr0_0
    have HC0 := Aside0.mk hc0_0
    have HG := Aside0.mk hG
    have HO := Aside0.mk (H.Own.nil w)
    have HRE := Aside0.mk (fun (W : World) (hb : Below w.heap.size w W) (wo : Int) => reach_any hG A0_0 c0_0 wo W (Kd.C_below HR0.out hb) HC0.out)
    have HRL := Aside0.mk (fun wo => Q.listTo_small (H.reachF l0_0 0 wo))
    have HRIN := Aside0.mk (fun y (hy : y ∈ listTo (H.reachF l0_0 0 (-1)) 12) => ((Q.listTo_reach hG y).1 hy).rng hG (by decide) (by omega))
    clear hr0_0 hc0_0 hG h hr
    have hI : (Try.prog.info? 31).map (·.size) = some 1 := by kernel_rfl
    have HI := Aside0.mk hI
    clear hI
    obtain ⟨R, hR⟩ : ∃ R, listTo (H.reachF l0_0 0 (-1)) 12 = R := ⟨_, rfl⟩
    have HRS := Aside0.mk (HRL.out (-1))
    rw [hR] at HRIN HRS
    have HRD := Aside0.mk hR
    clear hR
    have hrs := HRS.out
    go_enter Try.func64, Try.ntmps64
    go_wp2_with (first | ((with_reducible refine gate_dst (N := 1) rfl ?_); refine H.own_box HO.out ?hg (N := 1) ?hd (cs := #[Value.slice A0_0 l0_0.length c0_0]) (t := 27) ?hr ?_; (case hd => rfl); (case hg => rfl); (case hr => first | (go_simp; done) | (go_simp; rfl)); intro gp w_ ho_ hb_; replace HO := Aside0.mk ho_; clear ho_ hb_) | ((with_reducible refine gate_dst (N := 10) rfl ?_); refine wpList_load_row rfl 27 (.tmp 1) rfl _ rfl 27 _ (0, 0) _ (HO.out.get 0 rfl) Try.underlying27 rfl (by kernel_rfl) ?_) | (go_at_call 60; refine (HRE.out _ HO.out.below (-1)).mono ?_; rw [HRD.out]; rintro e w' ⟨vr, rfl, hv, hb⟩; obtain ⟨AR, cR, rfl⟩ := Kd.R_slice hv; obtain ⟨N1, hN1⟩ : ∃ N1, w'.heap.size = N1 := ⟨_, rfl⟩; have HV := Aside0.mk (Kd.R_mono (ok' := fun k => k < N1) (H.R_upto (Kd.R_lower hv HO.out.size)) (fun k hk => hN1 ▸ hk.2)); have HN1 := Aside0.mk hN1; replace HO := Aside0.mk (HO.out.step hb); have hx1 := HO.out.cell 0 rfl 0; clear hv hb hN1) | ((with_reducible refine gate_dst (N := 15) rfl ?_); refine Kd.S_make (Kd.slice 3 (Kd.int .i64)) (w0 := _) _ 31 rfl (N := 15) rfl 22 _ _ rfl (l0_0.length : Int) rfl rfl Try.underlying22 (.slice none 0 0) 24 info31 rfl (by decide) (by omega) [] (ok := fun _ => True) (okp := fun _ => True) ⟨_, rfl, Kd.R_nil _ _ _ _ _⟩ (fun _ hk => hk) trivial (by omega) (by simp only [Int.toNat_natCast]; omega) (Below.refl _ _) (Nat.le_refl _) ?_; intro vs w_ ho_ hb_ hg_ hnew_; replace HV := Aside0.mk (Kd.R_below HV.out hb_); have HS := Aside0.mk (Kd.S_lower (Kd.S_mono (ok' := fun k => N1 ≤ k) (H.S_upto ho_) (fun k hk => by rw [← HN1.out]; exact hk.1)) HO.out.size); have HNW := Aside0.mk (show N1 ≤ w_.heap.size by rw [← HN1.out]; exact hb_.size); replace HO := Aside0.mk (HO.out.step hb_); clear ho_ hb_ hg_ hnew_ hx1 HN1))
    rw [Int.toNat_natCast] at HS
    obtain ⟨gs, cs, rfl, hgs0, _, _⟩ := Kd.S_form HS.out (by simp; omega)
    rw [List.length_replicate] at HS ⊢
    have HGS0 := Aside0.mk hgs0
    clear hgs0
    go_loopw [18] (fun v18 wr => ∃ (i : Nat) (xs : List (List Int)), v18 = .int .i64 i ∧ i ≤ R.length ∧ Aside0 (Kd.S (Kd.slice 3 (Kd.int .i64)) 31 wr w.heap.size (fun k => N1 ≤ k) (.slice (some ⟨gs, 0, none⟩) l0_0.length cs) xs) ∧ Aside0 (Q.Rel l0_0.length (fun b y => y ∈ R.take i ∧ (b : Int) ∈ R ∧ ¬ (b : Int) ∈ listTo (H.reachF l0_0 0 y) 12) xs) ∧ Aside0 ((Kd.int .i64).R 3 wr w.heap.size (fun k => k < N1) (.slice AR R.length cR) R) ∧ Aside0 (N1 ≤ wr.heap.size) ∧ Aside0 (H.Own w wr [(gp, #[Value.slice A0_0 l0_0.length c0_0], 27)])) (fun v18 _ => R.length - (intOf v18).toNat)
    case atStart => exact ⟨0, _, rfl, Nat.zero_le _, HS, ⟨Q.Rel.nil _ (fun b _ y h => by simp at h)⟩, HV, HNW, HO⟩
    case round =>
      clear HO HS HV HNW
      obtain ⟨i, xs, rfl, hi, HS, HREL, HV, HNW, HO⟩ := hrel
      by_cases hlt : i < R.length
      · obtain ⟨ad1, e1, hc1⟩ := Kd.at_int (Kd.R_reads' HV.out).2.2 (i : Int) (by omega) (by omega)
        subst e1
        rw [Int.toNat_natCast] at hc1
        have hd : rd R (i : Int) = R.getD i 0 := rfl
        rw [hd] at hc1
        have htk : R.take (i + 1) = R.take i ++ [R.getD i 0] := by rw [List.take_add_one, List.getElem?_eq_getElem hlt, List.getD_eq_getElem?_getD, List.getElem?_eq_getElem hlt]; rfl
        obtain ⟨d, hdd⟩ : ∃ d, R.getD i 0 = d := ⟨_, rfl⟩
        rw [hdd] at hc1 htk
        have HTK := Aside0.mk htk
        have hil : (i : Int) < (R.length : Int) := by omega
        obtain ⟨Wd, hWd⟩ : ∃ Wd, listTo (H.reachF l0_0 0 d) 12 = Wd := ⟨_, rfl⟩
        have HWL := HRL.out d
        rw [hWd] at HWL
        have HWD := Aside0.mk hWd
        have HWS := Aside0.mk HWL
        clear hd htk hdd HWL hWd
        go_wp2_with (first | ((with_reducible refine gate_dst (N := 22) rfl ?_); refine wpList_load_row rfl 27 (.tmp 1) rfl _ rfl 27 _ (0, 0) _ (HO.out.get 0 rfl) Try.underlying27 rfl (by kernel_rfl) ?_) | (go_at_call 60; refine (HRE.out _ HO.out.below d).mono ?_; rw [HWD.out]; rintro e w' ⟨vw, rfl, hv, hb⟩; obtain ⟨AW, cW, rfl⟩ := Kd.R_slice hv; have HW := Aside0.mk (Kd.R_lower hv HO.out.size); replace HS := Aside0.mk (Kd.S_elder' HS.out (Kd.R_base hv) hb); replace HV := Aside0.mk (Kd.R_below HV.out hb); replace HNW := Aside0.mk (Nat.le_trans HNW.out hb.size); replace HO := Aside0.mk (HO.out.step hb); clear hv hb hc1))
        go_loopw [27] (fun v27 wr => ∃ (j : Nat) (xs : List (List Int)), v27 = .int .i64 j ∧ j ≤ R.length ∧ Aside0 (Kd.S (Kd.slice 3 (Kd.int .i64)) 31 wr w.heap.size (fun k => N1 ≤ k ∧ some k ≠ (Value.slice AW Wd.length cW).ownBlock) (.slice (some ⟨gs, 0, none⟩) l0_0.length cs) xs) ∧ Aside0 (Q.Rel l0_0.length (fun b y => (y ∈ R.take i ∧ (b : Int) ∈ R ∧ ¬ (b : Int) ∈ listTo (H.reachF l0_0 0 y) 12) ∨ (y = d ∧ (b : Int) ∈ R.take j ∧ ¬ (b : Int) ∈ Wd)) xs) ∧ Aside0 ((Kd.int .i64).R 3 wr w.heap.size (fun k => k < N1) (.slice (some ad1) R.length cR) R) ∧ Aside0 ((Kd.int .i64).R 3 wr w.heap.size (fun _ => True) (.slice AW Wd.length cW) Wd) ∧ Aside0 (N1 ≤ wr.heap.size) ∧ Aside0 (H.Own w wr [(gp, #[Value.slice A0_0 l0_0.length c0_0], 27)])) (fun v27 _ => R.length - (intOf v27).toNat)
        case atStart => exact ⟨0, xs, rfl, Nat.zero_le _, HS, ⟨HREL.out.congr (fun b _ y => by simp)⟩, HV, HW, HNW, HO⟩
        case round =>
          clear HO HS HV HNW HREL HW
          obtain ⟨j, xs, rfl, hj, HS, HREL, HV, HW, HNW, HO⟩ := hrel
          by_cases hlt2 : j < R.length
          · obtain ⟨ad2, e2, hc2⟩ := Kd.at_int (Kd.R_reads' HV.out).2.2 (j : Int) (by omega) (by omega)
            injection e2 with e2
            subst e2
            rw [Int.toNat_natCast] at hc2
            have hd : rd R (j : Int) = R.getD j 0 := rfl
            rw [hd] at hc2
            have htk : R.take (j + 1) = R.take j ++ [R.getD j 0] := by rw [List.take_add_one, List.getElem?_eq_getElem hlt2, List.getD_eq_getElem?_getD, List.getElem?_eq_getElem hlt2]; rfl
            have hin := HRIN.out (R.getD j 0) (by rw [List.getD_eq_getElem?_getD, List.getElem?_eq_getElem hlt2]; exact List.getElem_mem hlt2)
            obtain ⟨k, hkk⟩ : ∃ k : Nat, R.getD j 0 = (k : Int) := ⟨(R.getD j 0).toNat, by omega⟩
            rw [hkk] at hc2 htk hin
            have HTK2 := Aside0.mk htk
            have hjl : (j : Int) < (R.length : Int) := by omega
            have hkn : (k : Int) < (l0_0.length : Int) := hin.2
            have HKN := Aside0.mk (show k < l0_0.length by omega)
            clear hd htk hkk hin
            obtain ⟨dd, hdd⟩ : ∃ dd, decide ((k : Int) ∈ Wd) = dd := ⟨_, rfl⟩
            have HDD := Aside0.mk hdd
            clear hdd
            cases dd with
            | true =>
              go_wp2_with (go_at_call 65; refine (has_any Wd HWS.out _ _ (k : Int) _ (Kd.R_reads' HW.out).2.2 (Kd.R_reads' HW.out).2.1).mono ?_; rw [HDD.out]; rintro e w2 ⟨rfl, hd⟩; replace HV := Aside0.mk (Kd.R_below HV.out hd.below); replace HW := Aside0.mk (Kd.R_below HW.out hd.below); replace HS := Aside0.mk (Kd.S_below HS.out hd.below); replace HNW := Aside0.mk (Nat.le_trans HNW.out hd.below.size); replace HO := Aside0.mk (HO.out.step hd.below); clear hd hc2)
              refine ⟨⟨j + 1, xs, by go_num, by omega, HS, ⟨HREL.out.congr (fun b _ y => by
                have hw := of_decide_eq_true HDD.out
                rw [HTK2.out, List.mem_append, List.mem_singleton]
                constructor
                · rintro (h | ⟨h1, h2, h3⟩)
                  · exact .inl h
                  · exact .inr ⟨h1, .inl h2, h3⟩
                · rintro (h | ⟨h1, h2 | h2, h3⟩)
                  · exact .inl h
                  · exact .inr ⟨h1, h2, h3⟩
                  · rw [h2] at h3
                    exact absurd hw h3)⟩, HV, HW, HNW, HO⟩, ?_⟩
              simp [intOf]
              omega
            | false =>
              obtain ⟨oki, u, hu, hRu, hoki, hH⟩ := H.S_holeG HS.out HKN.out
              have hgt := Kd.S_typed HS.out gs (by simp [Value.ownBlock])
              have HRU := Aside0.mk hRu
              have HOK := Aside0.mk hoki
              have HH := Aside0.mk hH
              have HGT := Aside0.mk hgt
              have HU := Aside0.mk hu
              have HXL := Aside0.mk (show (xs.getD k []).length ≤ 1048576 by
                have := HREL.out.len12 (fun b hb y h => by
                  have hy : y ∈ R := by
                    rcases h with h | h
                    · exact List.mem_of_mem_take h.1
                    · have := HTK.out
                      rw [h.1]
                      exact List.mem_of_mem_take (i := i + 1) (by rw [this]; simp)
                  have := HRIN.out y hy
                  omega) HKN.out
                omega)
              clear hRu hoki hH hgt hu HS
              go_wp2_with (first | (go_at_call 65; refine (has_any Wd HWS.out _ _ (k : Int) _ (Kd.R_reads' HW.out).2.2 (Kd.R_reads' HW.out).2.1).mono ?_; rw [HDD.out]; rintro e w2 ⟨rfl, hd⟩; replace HV := Aside0.mk (Kd.R_below HV.out hd.below); replace HW := Aside0.mk (Kd.R_below HW.out hd.below); replace HRU := Aside0.mk (Kd.R_below HRU.out hd.below); replace HH := Aside0.mk (Kd.H_below HH.out hd.below); replace HNW := Aside0.mk (Nat.le_trans HNW.out hd.below.size); replace HO := Aside0.mk (HO.out.step hd.below); have hu := pw_cell_below hd.below HU.out; replace HGT := Aside0.mk (HGT.out.imp (fun cells hc => blk_below hc hd.below)); clear hd hc2 HU) | (go_at_call 73; refine (put_any (xs.getD k []) HXL.out d u _ w _ HO.out.below HRU.out).mono ?_; rintro e w3 ⟨v0, rfl, hv0, hb, hk⟩; obtain ⟨A0, c0, rfl⟩ := Kd.R_slice hv0; have HIN : Aside0 (∀ k, (Value.slice A0 (Q.putL (xs.getD k []) d).length c0).ownBlock = some k → True) := ⟨fun _ _ => trivial⟩; clear HIN; have HV0 := Aside0.mk hv0; have HPU := Aside0.mk (fun k (hk : some k = u.ownBlock) => HOK.out k (HRU.out.1 k hk.symm)); have HWlt := Aside0.mk (Kd.R_lt HW.out); replace HH := Aside0.mk (H.hole_keptG HH.out hk (fun k hk => HRU.out.1 k hk.symm)); replace HV := Aside0.mk (H.R_keptB HV.out hk (fun k h1 h2 => by have a1 := HV.out.1 k h1; have a2 := (HPU.out k h2).1; omega)); replace HW := Aside0.mk (H.R_keptB HW.out hk (fun k h1 h2 => (HPU.out k h2).2 h1.symm)); replace HGT := Aside0.mk (HGT.out.imp (fun cells hc => (hk.2 gs (blk_lt hc) (Kd.R_ne HRU.out hc (by decide))).trans hc)); have HNW' := HNW; replace HNW := Aside0.mk (Nat.le_trans HNW.out hk.1); have HIN := Aside0.mk (fun k (h : (Value.slice A0 (Q.putL (xs.getD k []) d).length c0).ownBlock = some k) => trivial); clear HIN; replace HO := Aside0.mk (HO.out.keptU HRU.out hk hb (by simp)); clear hv0 hb hk hu) | ((with_reducible refine gate_store (t := 31) (p := 43) rfl ?_); refine H.own_eputG HO.out HH.out HV0.out (Nat.le_refl _) (fun q hq => by rcases HV0.out.1 q hq with h | h; exact .inl (HRU.out.1 q h.symm); exact .inr ⟨⟨Nat.le_trans HNW'.out h, fun e => by have := HWlt.out q e.symm; omega⟩, h⟩) rfl rfl rfl rfl rfl HI.out HKN.out HGS0.out HGT.out (by simp) ?_; intro w_ ho_ hs_ hg_; replace HV := Aside0.mk (Kd.R_over' (e' := 31) (v := .slice (some ⟨gs, 0, none⟩) 0 0) HV.out (fun q hq => by have : gs = q := (by simpa [Value.ownBlock] using hq); rw [← this]; exact HGT.out) (by decide) hg_); replace HW := Aside0.mk (Kd.R_over' (e' := 31) (v := .slice (some ⟨gs, 0, none⟩) 0 0) HW.out (fun q hq => by have : gs = q := (by simpa [Value.ownBlock] using hq); rw [← this]; exact HGT.out) (by decide) hg_); replace HNW := Aside0.mk (Nat.le_trans HNW.out hg_.size); have HS := Aside0.mk hs_; replace HO := Aside0.mk ho_; clear ho_ hs_ hg_))
              go_roundw
              case rel => exact ⟨j + 1, _, by go_num, by omega, HS, ⟨(HREL.out.put HKN.out d).congr (fun b _ y => by
                have hw := of_decide_eq_false HDD.out
                rw [HTK2.out, List.mem_append, List.mem_singleton]
                constructor
                · rintro ((h | ⟨h1, h2, h3⟩) | ⟨h1, h2⟩)
                  · exact .inl h
                  · exact .inr ⟨h1, .inl h2, h3⟩
                  · subst h1
                    exact .inr ⟨h2, .inr rfl, hw⟩
                · rintro (h | ⟨h1, h2 | h2, h3⟩)
                  · exact .inl (.inl h)
                  · exact .inl (.inr ⟨h1, h2, h3⟩)
                  · exact .inr ⟨by omega, h1⟩)⟩, HV, HW, HNW, HO⟩
              case measure => simp [intOf]; omega
          · have hE : j = R.length := by omega
            subst hE
            go_wp2
            go_roundw
            case rel => exact ⟨i + 1, xs, by go_num, by omega, ⟨Kd.S_mono HS.out (fun k hk => hk.1)⟩, ⟨HREL.out.congr (fun b _ y => by
              rw [HTK.out, List.mem_append, List.mem_singleton, List.take_length]
              constructor
              · rintro (h | ⟨h1, h2, h3⟩)
                · exact ⟨.inl h.1, h.2⟩
                · subst h1
                  exact ⟨.inr rfl, h2, by rw [HWD.out]; exact h3⟩
              · rintro ⟨h | h, h2, h3⟩
                · exact .inl ⟨h, h2, h3⟩
                · subst h
                  exact .inr ⟨rfl, h2, by rw [HWD.out] at h3; exact h3⟩)⟩, HV, HNW, HO⟩
            case measure => simp [intOf]; omega
      · have hE : i = R.length := by omega
        subst hE
        have hfin : xs = Q.domL l0_0 := by
          refine (HREL.out.congr (fun b _ y => ?_)).uniq (Q.domL_rel HG.out)
          unfold Q.domM
          rw [HRD.out, List.take_length]
        subst hfin
        go_wp2
        go_ret
        exact ⟨_, rfl, Kd.S_mono HS.out (fun _ _ => trivial), HO.out.below⟩
end Go.Proofs.Ytplcipjlkogadaa.P

namespace Go.Proofs.Ytplcipjlkogadaa.P
open Go.RowKit Go.Proofs.YtplcipjlkogadaaW.PrintWords Go.Proofs.YtplcipjlkogadaaW.PrintLast Go.Proofs.YtplcipjlkogadaaW.PrintMore
attribute [local go_sem] max2_int min2_int max_two min_two max_three min_three max_four min_four
mutual
def spec_IsStrict.j0 : Nat → List Int → List Int → Bool → List (List Int) → Option (Bool × Bool)
  | 0, _, _, _, _ => none
  | k + 1, x1, x2, x28, x222000 => if x28 = true then (some (false, false)) else ((spec_l10Dominators.f x222000).bind fun t225 => (spec_IsStrict.l0 k x1 t225 x2 (x2.length : Int) 0))
def spec_IsStrict.l0 : Nat → List Int → List (List Int) → List Int → Int → Int → Option (Bool × Bool)
  | 0, _, _, _, _, _ => none
  | k + 1, x1, x8, x31, x32, x33 => if x33 < x32 then (if 0 ≤ x33 then (if x33 < (x31.length : Int) then (spec_IsStrict.l1 k x1 x8 (rd x31 x33) false x31 x32 x33 x1 (x1.length : Int) 0) else (none)) else (none)) else (some (true, true))
def spec_IsStrict.l1 : Nat → List Int → List (List Int) → Int → Bool → List Int → Int → Int → List Int → Int → Int → Option (Bool × Bool)
  | 0, _, _, _, _, _, _, _, _, _, _ => none
  | k + 1, x1, x8, x10, x11, x31, x32, x33, x37, x38, x39 => if x39 < x38 then (if 0 ≤ x39 then (if x39 < (x37.length : Int) then (if x11 = true then (spec_IsStrict.l1 k x1 x8 x10 true x31 x32 x33 x37 x38 (wrap64 (x39 + 1))) else (if 0 ≤ x10 then (if x10 < (x8.length : Int) then ((spec_l1Has.f k (rd_L1 x8 x10) (rd x37 x39)).bind fun t231 => (spec_IsStrict.l1 k x1 x8 x10 t231 x31 x32 x33 x37 x38 (wrap64 (x39 + 1)))) else (none)) else (none))) else (none)) else (none)) else (if x11 = true then (spec_IsStrict.l0 k x1 x8 x31 x32 (wrap64 (x33 + 1))) else (some (false, true)))
end
def spec_IsStrict.f (k : Nat) (l0_0 : List (List Int)) (l1 : List Int) (l2 : List Int) : Option (Bool × Bool) := (spec_GoodGraph.f k l0_0).bind fun t222 => (if t222 = true then ((spec_l11Blocks.f k l0_0 l1).bind fun t223 => (if t223 = true then ((spec_l11Blocks.f k l0_0 l2).bind fun t224 => (spec_IsStrict.j0 k l1 l2 (!t224) l0_0)) else (spec_IsStrict.j0 k l1 l2 true l0_0))) else (spec_IsStrict.j0 k l1 l2 true l0_0))
theorem spec_IsStrict.mono_l : ∀ k, (∀ y0 y1 y2 y3, LeO (spec_IsStrict.j0 k y0 y1 y2 y3) (spec_IsStrict.j0 (k + 1) y0 y1 y2 y3)) ∧ (∀ y0 y1 y2 y3 y4, LeO (spec_IsStrict.l0 k y0 y1 y2 y3 y4) (spec_IsStrict.l0 (k + 1) y0 y1 y2 y3 y4)) ∧ (∀ y0 y1 y2 y3 y4 y5 y6 y7 y8 y9, LeO (spec_IsStrict.l1 k y0 y1 y2 y3 y4 y5 y6 y7 y8 y9) (spec_IsStrict.l1 (k + 1) y0 y1 y2 y3 y4 y5 y6 y7 y8 y9))
  | 0 => ⟨fun _ _ _ _ r h => by simp [spec_IsStrict.j0] at h, fun _ _ _ _ _ r h => by simp [spec_IsStrict.l0] at h, fun _ _ _ _ _ _ _ _ _ _ r h => by simp [spec_IsStrict.l1] at h⟩
  | k + 1 => by
    obtain ⟨ih0, ih1, ih2⟩ := spec_IsStrict.mono_l k
    refine ⟨?_, ?_, ?_⟩
    · intro y0 y1 y2 y3
      unfold spec_IsStrict.j0
      repeat' first
      | (with_reducible exact ih0 _ _ _ _)
      | (with_reducible exact ih1 _ _ _ _ _)
      | (with_reducible exact ih2 _ _ _ _ _ _ _ _ _ _)
      | (with_reducible exact spec_GoodGraph.mono _ _)
      | (with_reducible exact spec_l11Blocks.mono _ _ _)
      | (with_reducible exact spec_l1Has.mono _ _ _)
      | (with_reducible exact LeO.refl _)
      | (with_reducible exact LeO.none _)
      | (with_reducible refine LeO.ite ?_ ?_)
      | (with_reducible refine LeO.bind ?_ (fun _ => ?_))
      | exact ih0 _ _ _ _
      | exact ih1 _ _ _ _ _
      | exact ih2 _ _ _ _ _ _ _ _ _ _
      | exact spec_GoodGraph.mono _ _
      | exact spec_l11Blocks.mono _ _ _
      | exact spec_l1Has.mono _ _ _
      | exact LeO.none _
      | refine LeO.ite ?_ ?_
      | refine LeO.bind ?_ (fun _ => ?_)
    · intro y0 y1 y2 y3 y4
      unfold spec_IsStrict.l0
      repeat' first
      | (with_reducible exact ih0 _ _ _ _)
      | (with_reducible exact ih1 _ _ _ _ _)
      | (with_reducible exact ih2 _ _ _ _ _ _ _ _ _ _)
      | (with_reducible exact spec_GoodGraph.mono _ _)
      | (with_reducible exact spec_l11Blocks.mono _ _ _)
      | (with_reducible exact spec_l1Has.mono _ _ _)
      | (with_reducible exact LeO.refl _)
      | (with_reducible exact LeO.none _)
      | (with_reducible refine LeO.ite ?_ ?_)
      | (with_reducible refine LeO.bind ?_ (fun _ => ?_))
      | exact ih0 _ _ _ _
      | exact ih1 _ _ _ _ _
      | exact ih2 _ _ _ _ _ _ _ _ _ _
      | exact spec_GoodGraph.mono _ _
      | exact spec_l11Blocks.mono _ _ _
      | exact spec_l1Has.mono _ _ _
      | exact LeO.none _
      | refine LeO.ite ?_ ?_
      | refine LeO.bind ?_ (fun _ => ?_)
    · intro y0 y1 y2 y3 y4 y5 y6 y7 y8 y9
      unfold spec_IsStrict.l1
      repeat' first
      | (with_reducible exact ih0 _ _ _ _)
      | (with_reducible exact ih1 _ _ _ _ _)
      | (with_reducible exact ih2 _ _ _ _ _ _ _ _ _ _)
      | (with_reducible exact spec_GoodGraph.mono _ _)
      | (with_reducible exact spec_l11Blocks.mono _ _ _)
      | (with_reducible exact spec_l1Has.mono _ _ _)
      | (with_reducible exact LeO.refl _)
      | (with_reducible exact LeO.none _)
      | (with_reducible refine LeO.ite ?_ ?_)
      | (with_reducible refine LeO.bind ?_ (fun _ => ?_))
      | exact ih0 _ _ _ _
      | exact ih1 _ _ _ _ _
      | exact ih2 _ _ _ _ _ _ _ _ _ _
      | exact spec_GoodGraph.mono _ _
      | exact spec_l11Blocks.mono _ _ _
      | exact spec_l1Has.mono _ _ _
      | exact LeO.none _
      | refine LeO.ite ?_ ?_
      | refine LeO.bind ?_ (fun _ => ?_)
theorem spec_IsStrict.mono : ∀ a0 a1 a2 k, LeO (spec_IsStrict.f k a0 a1 a2) (spec_IsStrict.f (k + 1) a0 a1 a2) := by
  intro a0 a1 a2 k
  obtain ⟨ih0, ih1, ih2⟩ := spec_IsStrict.mono_l k
  unfold spec_IsStrict.f
  repeat' first
      | (with_reducible exact ih0 _ _ _ _)
      | (with_reducible exact ih1 _ _ _ _ _)
      | (with_reducible exact ih2 _ _ _ _ _ _ _ _ _ _)
      | (with_reducible exact spec_GoodGraph.mono _ _)
      | (with_reducible exact spec_l11Blocks.mono _ _ _)
      | (with_reducible exact spec_l1Has.mono _ _ _)
      | (with_reducible exact LeO.refl _)
      | (with_reducible exact LeO.none _)
      | (with_reducible refine LeO.ite ?_ ?_)
      | (with_reducible refine LeO.bind ?_ (fun _ => ?_))
      | exact ih0 _ _ _ _
      | exact ih1 _ _ _ _ _
      | exact ih2 _ _ _ _ _ _ _ _ _ _
      | exact spec_GoodGraph.mono _ _
      | exact spec_l11Blocks.mono _ _ _
      | exact spec_l1Has.mono _ _ _
      | exact LeO.none _
      | refine LeO.ite ?_ ?_
      | refine LeO.bind ?_ (fun _ => ?_)
set_option maxHeartbeats 8000000 in
set_option maxRecDepth 100000 in
theorem spec_IsStrict.calls (k : Nat) (A0_0 : Option Addr) (c0_0 : Nat) (l0_0 : List (List Int)) (A1 : Option Addr) (c1 : Nat) (l1 : List Int) (A2 : Option Addr) (c2 : Nat) (l2 : List Int) (r1 : Bool) (r2 : Bool) (w : World) (hr0_0 : Kd.C (Kd.slice 3 (Kd.int .i64)) w A0_0 l0_0.length l0_0) (hc0_0 : l0_0.length ≤ c0_0) (hr1 : Kd.C (Kd.int .i64) w A1 l1.length l1) (hc1 : l1.length ≤ c1) (hr2 : Kd.C (Kd.int .i64) w A2 l2.length l2) (hc2 : l2.length ≤ c2) (h : spec_IsStrict.f k l0_0 l1 l2 = some (r1, r2)) :
    Calls Try.prog 28 #[.agg #[.slice A0_0 l0_0.length c0_0], .slice A1 l1.length c1, .slice A2 l2.length c2] w fun e w' => e = .returned (.tuple #[.bool r1, .bool r2]) ∧ Below w.heap.size w w' := by
  have hu27 := Try.underlying27
  have HR0_0 := Aside0.mk hr0_0
  have HC0_0 := Aside0.mk hc0_0
  clear hr0_0 hc0_0
  have HR1 := Aside0.mk hr1
  have HC1 := Aside0.mk hc1
  clear hr1 hc1
  have HR2 := Aside0.mk hr2
  have HC2 := Aside0.mk hc2
  clear hr2 hc2
  have HB := Aside0.mk (Below.refl w.heap.size w)
  have H : ((spec_GoodGraph.f k l0_0).bind fun t222 => (if t222 = true then ((spec_l11Blocks.f k l0_0 l1).bind fun t223 => (if t223 = true then ((spec_l11Blocks.f k l0_0 l2).bind fun t224 => (spec_IsStrict.j0 k l1 l2 (!t224) l0_0)) else (spec_IsStrict.j0 k l1 l2 true l0_0))) else (spec_IsStrict.j0 k l1 l2 true l0_0))) = some (r1, r2) := h
  clear h
  have HC4 := Aside0.mk H
  clear H
  go_enter Try.func28, Try.ntmps28
  go_upto_region 1 with (first | ((with_reducible refine gate_dst (N := 3) rfl ?_); refine box_event ?hg (N := 3) ?hd (cs := #[.slice A0_0 l0_0.length c0_0]) (t := 27) ?hr ?_; (case hd => rfl); (case hg => rfl); (case hr => first | (go_simp; done) | (go_simp; rfl)); intro gb221 hg w5 hbox hb; have n0_ := Aside0.mk (below_step (by repeat (first | (with_reducible first | exact HB.out | apply below_alloc | apply pw_below_drewN | apply below_drew1) | exact HB.out)) hb); have n1_ := Aside0.mk (hbox); have n2_ := Aside0.mk ((by rw [hg]; exact (below_size (by repeat (first | (with_reducible first | exact HB.out | apply below_alloc | apply pw_below_drewN | apply below_drew1) | exact HB.out))) : w.heap.size ≤ gb221)); have n3_ := Aside0.mk ((by rw [hg]; exact (below_size (by repeat (first | (with_reducible first | exact HB.out | apply below_alloc | apply pw_below_drewN | apply below_drew1) | exact HB.out))) : w.heap.size ≤ gb221)); clear HB; have HB := n0_; have BK221 := n1_; have GW221 := n2_; have GE221 := n3_; clear n0_ n1_ n2_ n3_; clear hb hbox hg))
  (try simp only [Act.put, List.setIfInBounds_toArray, List.set_cons_zero, List.set_cons_succ])
  go_cut [28] (fun v28 wc => ∃ (kq : Nat) (x28_3 : Bool), v28 = .bool x28_3 ∧ Aside0 (spec_IsStrict.j0 kq l1 l2 x28_3 l0_0 = some (r1, r2)) ∧ Aside0 (kq ≤ k) ∧ Aside0 (wc.heap[gb221]? = some (.cells #[(.slice A0_0 l0_0.length c0_0)] 27 (0, 0))) ∧ Aside0 (Below w.heap.size w wc))
  case first =>
    have H := HC4.out
    clear HC4
    replace H := Option.bind_eq_some_iff.mp H
    obtain ⟨t222, A60, H⟩ := H
    replace H : (if t222 = true then ((spec_l11Blocks.f k l0_0 l1).bind fun t223 => (if t223 = true then ((spec_l11Blocks.f k l0_0 l2).bind fun t224 => (spec_IsStrict.j0 k l1 l2 (!t224) l0_0)) else (spec_IsStrict.j0 k l1 l2 true l0_0))) else (spec_IsStrict.j0 k l1 l2 true l0_0)) = some (r1, r2) := H
    have A6 := Aside0.mk A60
    clear A60
    by_cases c7 : t222 = true
    · subst c7
      have H1 : ((spec_l11Blocks.f k l0_0 l1).bind fun t223 => (if t223 = true then ((spec_l11Blocks.f k l0_0 l2).bind fun t224 => (spec_IsStrict.j0 k l1 l2 (!t224) l0_0)) else (spec_IsStrict.j0 k l1 l2 true l0_0))) = some (r1, r2) := by rw [if_pos rfl] at H; exact H
      clear H
      have H := H1
      clear H1
      replace H := Option.bind_eq_some_iff.mp H
      obtain ⟨t223, A80, H⟩ := H
      replace H : (if t223 = true then ((spec_l11Blocks.f k l0_0 l2).bind fun t224 => (spec_IsStrict.j0 k l1 l2 (!t224) l0_0)) else (spec_IsStrict.j0 k l1 l2 true l0_0)) = some (r1, r2) := H
      have A8 := Aside0.mk A80
      clear A80
      by_cases c9 : t223 = true
      · subst c9
        have H1 : ((spec_l11Blocks.f k l0_0 l2).bind fun t224 => (spec_IsStrict.j0 k l1 l2 (!t224) l0_0)) = some (r1, r2) := by rw [if_pos rfl] at H; exact H
        clear H
        have H := H1
        clear H1
        replace H := Option.bind_eq_some_iff.mp H
        obtain ⟨t224, A100, H⟩ := H
        replace H : (spec_IsStrict.j0 k l1 l2 (!t224) l0_0) = some (r1, r2) := H
        have A10 := Aside0.mk A100
        clear A100
        have H' := Aside0.mk H
        clear H
        have hcz11_0 : w5.cell? ⟨gb221, 0, none⟩ = some (.slice A0_0 l0_0.length c0_0) := (blk_cell BK221.out 0).trans rfl
        have hfz11_0 := blk_frozen BK221.out 0
        go_wp2_with (first | ((with_reducible refine gate_callee (f := 16) rfl ?_); refine goesL_ (some 15) rfl rfl Try.func16 (by kernel_rfl) rfl #[.agg #[.slice A0_0 l0_0.length c0_0]] rfl (by (try simp only [List.map_toArray, List.map_cons, List.map_nil]); first | done | rfl | (simp only [List.length_drop, List.length_take]; rfl)) ?_; (with_reducible refine (spec_GoodGraph.calls k _ _ l0_0 true _ ?side1 ?side2 A6.out).mono ?_); (case side1 => repeat (first | exact (Kd.C_below HR0_0.out HB.out) | (with_reducible refine Kd.C_alloc ?_ _) | (with_reducible refine Kd.C_drewN ?_ _) | (with_reducible refine Kd.C_drew ?_))); (case side2 => exact HC0_0.out); rintro e w12 ⟨rfl, hb⟩; refine ⟨_, rfl, ?_⟩; have n0_ := Aside0.mk (blk_below (g := gb221) (o := .cells #[.slice A0_0 l0_0.length c0_0] 27 (0, 0)) (by (with_reducible repeat (first | refine blk_drewN ?_ _ | refine blk_drew ?_ | refine blk_alloc ?_ _)); exact BK221.out) hb); have n1_ := Aside0.mk (below_step (by repeat (first | (with_reducible first | exact HB.out | apply below_alloc | apply pw_below_drewN | apply below_drew1 | refine below_set ?_ GE221.out) | exact HB.out)) hb); clear BK221; clear HB; have BK221 := n0_; have HB := n1_; clear n0_ n1_; (try clear hb); (try clear hb2); (try clear hk); (try clear hi); have hcz13_0 : w12.cell? ⟨gb221, 0, none⟩ = some (.slice A0_0 l0_0.length c0_0) := (blk_cell BK221.out 0).trans rfl; have hfz13_0 := blk_frozen BK221.out 0) | (go_at_call 63; (with_reducible refine (spec_l11Blocks.calls k _ _ l0_0 _ _ l1 true _ ?side1 ?side2 ?side3 ?side4 A8.out).mono ?_); (case side1 => repeat (first | exact (Kd.C_below HR0_0.out HB.out) | (with_reducible refine Kd.C_alloc ?_ _) | (with_reducible refine Kd.C_drewN ?_ _) | (with_reducible refine Kd.C_drew ?_))); (case side2 => exact HC0_0.out); (case side3 => repeat (first | exact (Kd.C_below HR1.out HB.out) | (with_reducible refine Kd.C_alloc ?_ _) | (with_reducible refine Kd.C_drewN ?_ _) | (with_reducible refine Kd.C_drew ?_))); (case side4 => exact HC1.out); rintro e w14 ⟨rfl, hb⟩; have n0_ := Aside0.mk (blk_below (g := gb221) (o := .cells #[.slice A0_0 l0_0.length c0_0] 27 (0, 0)) (by (with_reducible repeat (first | refine blk_drewN ?_ _ | refine blk_drew ?_ | refine blk_alloc ?_ _)); exact BK221.out) hb); have n1_ := Aside0.mk (below_step (by repeat (first | (with_reducible first | exact HB.out | apply below_alloc | apply pw_below_drewN | apply below_drew1 | refine below_set ?_ GE221.out) | exact HB.out)) hb); clear BK221; clear HB; have BK221 := n0_; have HB := n1_; clear n0_ n1_; (try clear hb); (try clear hb2); (try clear hk); (try clear hi); have hcz15_0 : w14.cell? ⟨gb221, 0, none⟩ = some (.slice A0_0 l0_0.length c0_0) := (blk_cell BK221.out 0).trans rfl; have hfz15_0 := blk_frozen BK221.out 0) | (go_at_call 63; (with_reducible refine (spec_l11Blocks.calls k _ _ l0_0 _ _ l2 t224 _ ?side1 ?side2 ?side3 ?side4 A10.out).mono ?_); (case side1 => repeat (first | exact (Kd.C_below HR0_0.out HB.out) | (with_reducible refine Kd.C_alloc ?_ _) | (with_reducible refine Kd.C_drewN ?_ _) | (with_reducible refine Kd.C_drew ?_))); (case side2 => exact HC0_0.out); (case side3 => repeat (first | exact (Kd.C_below HR2.out HB.out) | (with_reducible refine Kd.C_alloc ?_ _) | (with_reducible refine Kd.C_drewN ?_ _) | (with_reducible refine Kd.C_drew ?_))); (case side4 => exact HC2.out); rintro e w16 ⟨rfl, hb⟩; have n0_ := Aside0.mk (blk_below (g := gb221) (o := .cells #[.slice A0_0 l0_0.length c0_0] 27 (0, 0)) (by (with_reducible repeat (first | refine blk_drewN ?_ _ | refine blk_drew ?_ | refine blk_alloc ?_ _)); exact BK221.out) hb); have n1_ := Aside0.mk (below_step (by repeat (first | (with_reducible first | exact HB.out | apply below_alloc | apply pw_below_drewN | apply below_drew1 | refine below_set ?_ GE221.out) | exact HB.out)) hb); clear BK221; clear HB; have BK221 := n0_; have HB := n1_; clear n0_ n1_; (try clear hb); (try clear hb2); (try clear hk); (try clear hi)))
        go_meet
        case rel => exact ⟨_, (!t224), (by first | rfl | (simp; done) | (simp [*]; done)), H', ⟨by first | omega | exact Nat.le_refl _⟩, ⟨by (with_reducible repeat (first | refine blk_drewN ?_ _ | refine blk_drew ?_ | refine blk_alloc ?_ _)); exact BK221.out⟩, ⟨by repeat (first | (with_reducible first | exact HB.out | apply below_alloc | apply pw_below_drewN | apply below_drew1 | refine below_set ?_ GE221.out) | exact HB.out)⟩⟩
      · replace c9 := Bool.eq_false_iff.mpr c9
        subst c9
        have H1 : (spec_IsStrict.j0 k l1 l2 true l0_0) = some (r1, r2) := by rw [if_neg (show ¬ (false = true) by decide)] at H; exact H
        clear H
        have H := H1
        clear H1
        have H' := Aside0.mk H
        clear H
        have hcz17_0 : w5.cell? ⟨gb221, 0, none⟩ = some (.slice A0_0 l0_0.length c0_0) := (blk_cell BK221.out 0).trans rfl
        have hfz17_0 := blk_frozen BK221.out 0
        go_wp2_with (first | ((with_reducible refine gate_callee (f := 16) rfl ?_); refine goesL_ (some 15) rfl rfl Try.func16 (by kernel_rfl) rfl #[.agg #[.slice A0_0 l0_0.length c0_0]] rfl (by (try simp only [List.map_toArray, List.map_cons, List.map_nil]); first | done | rfl | (simp only [List.length_drop, List.length_take]; rfl)) ?_; (with_reducible refine (spec_GoodGraph.calls k _ _ l0_0 true _ ?side1 ?side2 A6.out).mono ?_); (case side1 => repeat (first | exact (Kd.C_below HR0_0.out HB.out) | (with_reducible refine Kd.C_alloc ?_ _) | (with_reducible refine Kd.C_drewN ?_ _) | (with_reducible refine Kd.C_drew ?_))); (case side2 => exact HC0_0.out); rintro e w18 ⟨rfl, hb⟩; refine ⟨_, rfl, ?_⟩; have n0_ := Aside0.mk (blk_below (g := gb221) (o := .cells #[.slice A0_0 l0_0.length c0_0] 27 (0, 0)) (by (with_reducible repeat (first | refine blk_drewN ?_ _ | refine blk_drew ?_ | refine blk_alloc ?_ _)); exact BK221.out) hb); have n1_ := Aside0.mk (below_step (by repeat (first | (with_reducible first | exact HB.out | apply below_alloc | apply pw_below_drewN | apply below_drew1 | refine below_set ?_ GE221.out) | exact HB.out)) hb); clear BK221; clear HB; have BK221 := n0_; have HB := n1_; clear n0_ n1_; (try clear hb); (try clear hb2); (try clear hk); (try clear hi); have hcz19_0 : w18.cell? ⟨gb221, 0, none⟩ = some (.slice A0_0 l0_0.length c0_0) := (blk_cell BK221.out 0).trans rfl; have hfz19_0 := blk_frozen BK221.out 0) | (go_at_call 63; (with_reducible refine (spec_l11Blocks.calls k _ _ l0_0 _ _ l1 false _ ?side1 ?side2 ?side3 ?side4 A8.out).mono ?_); (case side1 => repeat (first | exact (Kd.C_below HR0_0.out HB.out) | (with_reducible refine Kd.C_alloc ?_ _) | (with_reducible refine Kd.C_drewN ?_ _) | (with_reducible refine Kd.C_drew ?_))); (case side2 => exact HC0_0.out); (case side3 => repeat (first | exact (Kd.C_below HR1.out HB.out) | (with_reducible refine Kd.C_alloc ?_ _) | (with_reducible refine Kd.C_drewN ?_ _) | (with_reducible refine Kd.C_drew ?_))); (case side4 => exact HC1.out); rintro e w20 ⟨rfl, hb⟩; have n0_ := Aside0.mk (blk_below (g := gb221) (o := .cells #[.slice A0_0 l0_0.length c0_0] 27 (0, 0)) (by (with_reducible repeat (first | refine blk_drewN ?_ _ | refine blk_drew ?_ | refine blk_alloc ?_ _)); exact BK221.out) hb); have n1_ := Aside0.mk (below_step (by repeat (first | (with_reducible first | exact HB.out | apply below_alloc | apply pw_below_drewN | apply below_drew1 | refine below_set ?_ GE221.out) | exact HB.out)) hb); clear BK221; clear HB; have BK221 := n0_; have HB := n1_; clear n0_ n1_; (try clear hb); (try clear hb2); (try clear hk); (try clear hi)))
        go_meet
        case rel => exact ⟨_, (true), (by first | rfl | (simp; done) | (simp [*]; done)), H', ⟨by first | omega | exact Nat.le_refl _⟩, ⟨by (with_reducible repeat (first | refine blk_drewN ?_ _ | refine blk_drew ?_ | refine blk_alloc ?_ _)); exact BK221.out⟩, ⟨by repeat (first | (with_reducible first | exact HB.out | apply below_alloc | apply pw_below_drewN | apply below_drew1 | refine below_set ?_ GE221.out) | exact HB.out)⟩⟩
    · replace c7 := Bool.eq_false_iff.mpr c7
      subst c7
      have H1 : (spec_IsStrict.j0 k l1 l2 true l0_0) = some (r1, r2) := by rw [if_neg (show ¬ (false = true) by decide)] at H; exact H
      clear H
      have H := H1
      clear H1
      have H' := Aside0.mk H
      clear H
      have hcz21_0 : w5.cell? ⟨gb221, 0, none⟩ = some (.slice A0_0 l0_0.length c0_0) := (blk_cell BK221.out 0).trans rfl
      have hfz21_0 := blk_frozen BK221.out 0
      go_wp2_with (first | ((with_reducible refine gate_callee (f := 16) rfl ?_); refine goesL_ (some 15) rfl rfl Try.func16 (by kernel_rfl) rfl #[.agg #[.slice A0_0 l0_0.length c0_0]] rfl (by (try simp only [List.map_toArray, List.map_cons, List.map_nil]); first | done | rfl | (simp only [List.length_drop, List.length_take]; rfl)) ?_; (with_reducible refine (spec_GoodGraph.calls k _ _ l0_0 false _ ?side1 ?side2 A6.out).mono ?_); (case side1 => repeat (first | exact (Kd.C_below HR0_0.out HB.out) | (with_reducible refine Kd.C_alloc ?_ _) | (with_reducible refine Kd.C_drewN ?_ _) | (with_reducible refine Kd.C_drew ?_))); (case side2 => exact HC0_0.out); rintro e w22 ⟨rfl, hb⟩; refine ⟨_, rfl, ?_⟩; have n0_ := Aside0.mk (blk_below (g := gb221) (o := .cells #[.slice A0_0 l0_0.length c0_0] 27 (0, 0)) (by (with_reducible repeat (first | refine blk_drewN ?_ _ | refine blk_drew ?_ | refine blk_alloc ?_ _)); exact BK221.out) hb); have n1_ := Aside0.mk (below_step (by repeat (first | (with_reducible first | exact HB.out | apply below_alloc | apply pw_below_drewN | apply below_drew1 | refine below_set ?_ GE221.out) | exact HB.out)) hb); clear BK221; clear HB; have BK221 := n0_; have HB := n1_; clear n0_ n1_; (try clear hb); (try clear hb2); (try clear hk); (try clear hi)))
      go_meet
      case rel => exact ⟨_, (true), (by first | rfl | (simp; done) | (simp [*]; done)), H', ⟨by first | omega | exact Nat.le_refl _⟩, ⟨by (with_reducible repeat (first | refine blk_drewN ?_ _ | refine blk_drew ?_ | refine blk_alloc ?_ _)); exact BK221.out⟩, ⟨by repeat (first | (with_reducible first | exact HB.out | apply below_alloc | apply pw_below_drewN | apply below_drew1 | refine below_set ?_ GE221.out) | exact HB.out)⟩⟩
  case rest =>
    clear HC4
    try clear c1
    try clear c2
    try clear p2
    try clear c7
    try clear c9
    try clear c16
    try clear hcz11_0
    try clear hcz13_0
    try clear hcz15_0
    try clear hcz17_0
    try clear hcz19_0
    try clear hcz21_0
    try clear hfz11_0
    try clear hfz13_0
    try clear hfz15_0
    try clear hfz17_0
    try clear hfz19_0
    try clear hfz21_0
    obtain ⟨kq, x28_3, rfl, HA, HJ3, BK221, HB⟩ := hcut
    cases kq with
    | zero => exact absurd HA.out (by simp [spec_IsStrict.j0])
    | succ kj3 =>
      have H := HA.out
      clear HA
      simp only [spec_IsStrict.j0] at H
      by_cases c23 : x28_3 = true
      · subst c23
        have H1 : (some (false, false)) = some (r1, r2) := by rw [if_pos rfl] at H; exact H
        clear H
        have H := H1
        clear H1
        simp only [Option.some.injEq, Prod.mk.injEq] at H
        obtain ⟨rfl, rfl⟩ := H
        go_wp2
        go_ret2
        exact ⟨by first | rfl | (simp [errW_none, errW_some] <;> rfl) | (simp [*, errW_none, errW_some] <;> rfl), by repeat (first | (with_reducible first | exact HB.out | apply below_alloc | apply pw_below_drewN | apply below_drew1 | refine below_set ?_ GE221.out) | exact HB.out)⟩
      · replace c23 := Bool.eq_false_iff.mpr c23
        subst c23
        have H1 : ((spec_l10Dominators.f l0_0).bind fun t225 => (spec_IsStrict.l0 kj3 l1 t225 l2 (l2.length : Int) 0)) = some (r1, r2) := by rw [if_neg (show ¬ (false = true) by decide)] at H; exact H
        clear H
        have H := H1
        clear H1
        replace H := Option.bind_eq_some_iff.mp H
        obtain ⟨t225, A240, H⟩ := H
        replace H : (spec_IsStrict.l0 kj3 l1 t225 l2 (l2.length : Int) 0) = some (r1, r2) := H
        have A24 := Aside0.mk A240
        clear A240
        have H' := Aside0.mk H
        clear H
        have hcz25_0 : wc.cell? ⟨gb221, 0, none⟩ = some (.slice A0_0 l0_0.length c0_0) := (blk_cell BK221.out 0).trans rfl
        have hfz25_0 := blk_frozen BK221.out 0
        go_wp2_with (first | ((with_reducible refine gate_callee (f := 64) rfl ?_); refine goesL_ (some 30) rfl rfl Try.func64 (by kernel_rfl) rfl #[.agg #[.slice A0_0 l0_0.length c0_0]] rfl (by (try simp only [List.map_toArray, List.map_cons, List.map_nil]); first | done | rfl | (simp only [List.length_drop, List.length_take]; rfl)) ?_; (with_reducible refine (spec_l10Dominators.calls _ _ l0_0 t225 _ ?side1 ?side2 A24.out).mono ?_); (case side1 => repeat (first | exact (Kd.C_below HR0_0.out HB.out) | (with_reducible refine Kd.C_alloc ?_ _) | (with_reducible refine Kd.C_drewN ?_ _) | (with_reducible refine Kd.C_drew ?_))); (case side2 => exact HC0_0.out); rintro e w26 ⟨v226, rfl, ho0, hb⟩; refine ⟨_, rfl, ?_⟩; have n0_ := Aside0.mk (Kd.S_lower ho0 (below_size (by repeat (first | (with_reducible first | exact HB.out | apply below_alloc | apply pw_below_drewN | apply below_drew1 | refine below_set ?_ GE221.out) | exact HB.out)))); have n1_ := Aside0.mk (blk_below (g := gb221) (o := .cells #[.slice A0_0 l0_0.length c0_0] 27 (0, 0)) (by (with_reducible repeat (first | refine blk_drewN ?_ _ | refine blk_drew ?_ | refine blk_alloc ?_ _)); exact BK221.out) hb); have n2_ := Aside0.mk (below_step (by repeat (first | (with_reducible first | exact HB.out | apply below_alloc | apply pw_below_drewN | apply below_drew1 | refine below_set ?_ GE221.out) | exact HB.out)) hb); clear BK221; clear HB; have HO227 := n0_; have BK221 := n1_; have HB := n2_; clear n0_ n1_ n2_; (try clear hb); (try clear hb2); (try clear hk); (try clear hi); (try clear ho0)))
        go_loopg [33] kj3 (fun kq v33 w' => ∃ (x33_2 : Int), v33 = .int .i64 x33_2 ∧ Aside0 (spec_IsStrict.l0 kq l1 t225 l2 (l2.length : Int) x33_2 = some (r1, r2)) ∧ Aside0 (kq ≤ kj3) ∧ Aside0 (Kd.S (Kd.slice 3 (Kd.int .i64)) 31 w' w.heap.size (fun _ => True) v226 t225) ∧ Aside0 (w'.heap[gb221]? = some (.cells #[(.slice A0_0 l0_0.length c0_0)] 27 (0, 0))) ∧ Aside0 (Below w.heap.size w w'))
        case atStart => exact ⟨(0), (by first | rfl | (simp; done) | (simp [*]; done)), H', ⟨Nat.le_refl _⟩, ⟨by (with_reducible repeat (first | apply Kd.S_alloc | apply Kd.S_drewN | apply Kd.S_drew)); exact HO227.out⟩, ⟨by (with_reducible repeat (first | refine blk_drewN ?_ _ | refine blk_drew ?_ | refine blk_alloc ?_ _)); exact BK221.out⟩, ⟨by repeat (first | (with_reducible first | exact HB.out | apply below_alloc | apply pw_below_drewN | apply below_drew1 | refine below_set ?_ GE221.out) | exact HB.out)⟩⟩
        case round =>
          clear H'
          try clear c1
          try clear c2
          try clear p2
          try clear c6
          try clear c7
          try clear c9
          try clear c16
          try clear c23
          try clear hcz11_0
          try clear hcz13_0
          try clear hcz15_0
          try clear hcz17_0
          try clear hcz19_0
          try clear hcz21_0
          try clear hcz25_0
          try clear hfz11_0
          try clear hfz13_0
          try clear hfz15_0
          try clear hfz17_0
          try clear hfz19_0
          try clear hfz21_0
          try clear hfz25_0
          try clear p2
          obtain ⟨x33_2, rfl, HA, HK2, HO_8, BK221, HB⟩ := hrel
          cases gk with
          | zero => exact absurd HA.out (by simp [spec_IsStrict.l0])
          | succ k2 =>
            have H := HA.out
            clear HA
            simp only [spec_IsStrict.l0] at H
            by_cases c27 : x33_2 < (l2.length : Int)
            · rw [if_pos c27] at H
              have c27b0 : decide (x33_2 < (l2.length : Int)) = true := decide_eq_true c27
              clear c27
              by_cases c28 : 0 ≤ x33_2
              · rw [if_pos c28] at H
                have c28b0 : decide (0 ≤ x33_2) = true := decide_eq_true c28
                clear c28
                by_cases c29 : x33_2 < (l2.length : Int)
                · rw [if_pos c29] at H
                  have c29b0 : decide (x33_2 < (l2.length : Int)) = true := decide_eq_true c29
                  clear c29
                  have H' := Aside0.mk H
                  clear H
                  have p228 : 0 ≤ (x33_2 : Int) := of_decide_eq_true (by first | (with_reducible assumption) | assumption)
                  have q228 : x33_2 < (l2.length : Int) := of_decide_eq_true (by first | (with_reducible assumption) | assumption)
                  obtain ⟨ad228, e228, hx228_0⟩ := Kd.at_int HR2.out x33_2 p228 q228
                  cases e228
                  replace hx228_0 := (HB.out.cell (World.block_lt_of_cell? w _ hx228_0)).trans hx228_0
                  replace p228 := eq_true p228
                  replace q228 := eq_true q228
                  go_wp2
                  go_loopg [11, 39] k2 (fun kq v11 v39 w' => ∃ (x11_3 : Bool) (x39_3 : Int), v11 = .bool x11_3 ∧ v39 = .int .i64 x39_3 ∧ Aside0 (spec_IsStrict.l1 kq l1 t225 (rd l2 x33_2) x11_3 l2 (l2.length : Int) x33_2 l1 (l1.length : Int) x39_3 = some (r1, r2)) ∧ Aside0 (kq ≤ k2) ∧ Aside0 (Kd.S (Kd.slice 3 (Kd.int .i64)) 31 w' w.heap.size (fun _ => True) v226 t225) ∧ Aside0 (w'.heap[gb221]? = some (.cells #[(.slice A0_0 l0_0.length c0_0)] 27 (0, 0))) ∧ Aside0 (Below w.heap.size w w'))
                  case atStart => exact ⟨(false), (0), (by first | rfl | (simp; done) | (simp [*]; done)), (by first | rfl | (simp; done) | (simp [*]; done)), H', ⟨Nat.le_refl _⟩, ⟨by (with_reducible repeat (first | apply Kd.S_alloc | apply Kd.S_drewN | apply Kd.S_drew)); exact HO_8.out⟩, ⟨by (with_reducible repeat (first | refine blk_drewN ?_ _ | refine blk_drew ?_ | refine blk_alloc ?_ _)); exact BK221.out⟩, ⟨by repeat (first | (with_reducible first | exact HB.out | apply below_alloc | apply pw_below_drewN | apply below_drew1 | refine below_set ?_ GE221.out) | exact HB.out)⟩⟩
                  case round =>
                    clear H'
                    try clear c1
                    try clear c2
                    try clear p2
                    try clear q2
                    try clear hx2
                    try clear c6
                    try clear c7
                    try clear c9
                    try clear c16
                    try clear p22
                    try clear q22
                    try clear hx22
                    try clear c23
                    try clear c27
                    try clear c27b0
                    try clear c28
                    try clear c28b0
                    try clear c29
                    try clear c29b0
                    try clear hcz11_0
                    try clear hcz13_0
                    try clear hcz15_0
                    try clear hcz17_0
                    try clear hcz19_0
                    try clear hcz21_0
                    try clear hcz25_0
                    try clear hfz11_0
                    try clear hfz13_0
                    try clear hfz15_0
                    try clear hfz17_0
                    try clear hfz19_0
                    try clear hfz21_0
                    try clear hfz25_0
                    try clear hx228_0
                    try clear p2
                    try clear p228
                    try clear q228
                    obtain ⟨x11_3, x39_3, rfl, rfl, HA, HK3, HO_8, BK221, HB⟩ := hrel
                    cases gk with
                    | zero => exact absurd HA.out (by simp [spec_IsStrict.l1])
                    | succ k3 =>
                      have H := HA.out
                      clear HA
                      simp only [spec_IsStrict.l1] at H
                      by_cases c30 : x39_3 < (l1.length : Int)
                      · rw [if_pos c30] at H
                        have c30b0 : decide (x39_3 < (l1.length : Int)) = true := decide_eq_true c30
                        clear c30
                        by_cases c31 : 0 ≤ x39_3
                        · rw [if_pos c31] at H
                          have c31b0 : decide (0 ≤ x39_3) = true := decide_eq_true c31
                          clear c31
                          by_cases c32 : x39_3 < (l1.length : Int)
                          · rw [if_pos c32] at H
                            have c32b0 : decide (x39_3 < (l1.length : Int)) = true := decide_eq_true c32
                            clear c32
                            by_cases c33 : x11_3 = true
                            · subst c33
                              have H1 : (spec_IsStrict.l1 k3 l1 t225 (rd l2 x33_2) true l2 (l2.length : Int) x33_2 l1 (l1.length : Int) (wrap64 (x39_3 + 1))) = some (r1, r2) := by rw [if_pos rfl] at H; exact H
                              clear H
                              have H := H1
                              clear H1
                              have H' := Aside0.mk H
                              clear H
                              have p229 : 0 ≤ (x39_3 : Int) := of_decide_eq_true (by first | (with_reducible assumption) | assumption)
                              have q229 : x39_3 < (l1.length : Int) := of_decide_eq_true (by first | (with_reducible assumption) | assumption)
                              obtain ⟨ad229, e229, hx229_0⟩ := Kd.at_int HR1.out x39_3 p229 q229
                              cases e229
                              replace hx229_0 := (HB.out.cell (World.block_lt_of_cell? w _ hx229_0)).trans hx229_0
                              replace p229 := eq_true p229
                              replace q229 := eq_true q229
                              go_wp2
                              go_roundg k3
                              case measure => have := HJ3.out; have := HK2.out; have := HK3.out; omega
                              case rel => exact ⟨(true), (wrap64 (x39_3 + 1)), (by first | rfl | (simp; done) | (simp [*]; done)), (by first | rfl | (simp; done) | (simp [*]; done)), H', ⟨by have := HJ3.out; have := HK2.out; have := HK3.out; omega⟩, ⟨by (with_reducible repeat (first | apply Kd.S_alloc | apply Kd.S_drewN | apply Kd.S_drew)); exact HO_8.out⟩, ⟨by (with_reducible repeat (first | refine blk_drewN ?_ _ | refine blk_drew ?_ | refine blk_alloc ?_ _)); exact BK221.out⟩, ⟨by repeat (first | (with_reducible first | exact HB.out | apply below_alloc | apply pw_below_drewN | apply below_drew1 | refine below_set ?_ GE221.out) | exact HB.out)⟩⟩
                            · replace c33 := Bool.eq_false_iff.mpr c33
                              subst c33
                              have H1 : (if 0 ≤ (rd l2 x33_2) then (if (rd l2 x33_2) < (t225.length : Int) then ((spec_l1Has.f k3 (rd_L1 t225 (rd l2 x33_2)) (rd l1 x39_3)).bind fun t231 => (spec_IsStrict.l1 k3 l1 t225 (rd l2 x33_2) t231 l2 (l2.length : Int) x33_2 l1 (l1.length : Int) (wrap64 (x39_3 + 1)))) else (none)) else (none)) = some (r1, r2) := by rw [if_neg (show ¬ (false = true) by decide)] at H; exact H
                              clear H
                              have H := H1
                              clear H1
                              by_cases c34 : 0 ≤ (rd l2 x33_2)
                              · rw [if_pos c34] at H
                                have c34b0 : decide (0 ≤ (rd l2 x33_2)) = true := decide_eq_true c34
                                clear c34
                                by_cases c35 : (rd l2 x33_2) < (t225.length : Int)
                                · rw [if_pos c35] at H
                                  have c35b0 : decide ((rd l2 x33_2) < (t225.length : Int)) = true := decide_eq_true c35
                                  clear c35
                                  replace H := Option.bind_eq_some_iff.mp H
                                  obtain ⟨t231, A360, H⟩ := H
                                  replace H : (spec_IsStrict.l1 k3 l1 t225 (rd l2 x33_2) t231 l2 (l2.length : Int) x33_2 l1 (l1.length : Int) (wrap64 (x39_3 + 1))) = some (r1, r2) := H
                                  have A36 := Aside0.mk A360
                                  clear A360
                                  have H' := Aside0.mk H
                                  clear H
                                  have p229 : 0 ≤ (x39_3 : Int) := of_decide_eq_true (by first | (with_reducible assumption) | assumption)
                                  have q229 : x39_3 < (l1.length : Int) := of_decide_eq_true (by first | (with_reducible assumption) | assumption)
                                  obtain ⟨ad229, e229, hx229_0⟩ := Kd.at_int HR1.out x39_3 p229 q229
                                  cases e229
                                  replace hx229_0 := (HB.out.cell (World.block_lt_of_cell? w _ hx229_0)).trans hx229_0
                                  replace p229 := eq_true p229
                                  replace q229 := eq_true q229
                                  obtain ⟨Ao37, co37, eo37⟩ := Kd.S_slice HO_8.out
                                  subst eo37
                                  have p230 : 0 ≤ ((rd l2 x33_2) : Int) := of_decide_eq_true (by first | (with_reducible assumption) | assumption)
                                  have q230 : (rd l2 x33_2) < (t225.length : Int) := of_decide_eq_true (by first | (with_reducible assumption) | assumption)
                                  obtain ⟨ad230, A230_0, c230_0, e230, hx230_0, hl230_0, hi230_0⟩ := at_L1 (Kd.S_reads' HO_8.out).2.2 (rd l2 x33_2) p230 q230
                                  cases e230
                                  obtain ⟨ce230, hce230, hMe230, hcc230⟩ := Kd.S_get HO_8.out [] (rd l2 x33_2) p230 (by first | exact q230 | exact of_decide_eq_true (by first | (with_reducible assumption) | assumption) | (have e_ := (Kd.S_reads' HO_8.out).1; omega))
                                  obtain ⟨ve230_0, rfl, ge230_0⟩ := hMe230
                                  have hv230_0 := hcc230 0 _ rfl
                                  rw [Nat.add_zero, show ((Kd.slice 3 (Kd.int .i64))).sz = 1 from rfl, Nat.mul_one] at hv230_0
                                  replace hv230_0 := Option.some.inj (hv230_0.symm.trans hx230_0)
                                  rw [hv230_0] at ge230_0
                                  have HL230_0 := Aside0.mk (show Kd.R (Kd.int .i64) 3 _ _ _ _ (rd_L1 t225 (rd l2 x33_2)) from ge230_0)
                                  clear hv230_0 ge230_0
                                  clear hcc230 hce230
                                  have HR230_0 := Aside0.mk hi230_0
                                  have HC230_0 := Aside0.mk hl230_0
                                  clear hi230_0 hl230_0
                                  replace p230 := eq_true p230
                                  replace q230 := eq_true q230
                                  go_wp2_with (first | (go_at_call 65; (with_reducible refine (spec_l1Has.calls k3 _ _ (rd_L1 t225 (rd l2 x33_2)) (rd l1 x39_3) t231 _ ?side1 ?side2 A36.out).mono ?_); (case side1 => repeat (first | exact (by repeat (first | (with_reducible exact HR230_0.out) | (with_reducible refine Kd.C_alloc ?_ _) | (with_reducible refine Kd.C_drewN ?_ _) | (with_reducible refine Kd.C_drew ?_) | exact HR230_0.out)) | (with_reducible refine Kd.C_alloc ?_ _) | (with_reducible refine Kd.C_drewN ?_ _) | (with_reducible refine Kd.C_drew ?_))); (case side2 => exact HC230_0.out); rintro e w' ⟨rfl, ⟨nd, rfl⟩⟩))
                                  go_roundg k3
                                  case measure => have := HJ3.out; have := HK2.out; have := HK3.out; omega
                                  case rel => exact ⟨(t231), (wrap64 (x39_3 + 1)), (by first | rfl | (simp; done) | (simp [*]; done)), (by first | rfl | (simp; done) | (simp [*]; done)), H', ⟨by have := HJ3.out; have := HK2.out; have := HK3.out; omega⟩, ⟨by (with_reducible repeat (first | apply Kd.S_alloc | apply Kd.S_drewN | apply Kd.S_drew)); exact HO_8.out⟩, ⟨by (with_reducible repeat (first | refine blk_drewN ?_ _ | refine blk_drew ?_ | refine blk_alloc ?_ _)); exact BK221.out⟩, ⟨by repeat (first | (with_reducible first | exact HB.out | apply below_alloc | apply pw_below_drewN | apply below_drew1 | refine below_set ?_ GE221.out) | exact HB.out)⟩⟩
                                · rw [if_neg c35] at H
                                  exact absurd H (by simp)
                              · rw [if_neg c34] at H
                                exact absurd H (by simp)
                          · rw [if_neg c32] at H
                            exact absurd H (by simp)
                        · rw [if_neg c31] at H
                          exact absurd H (by simp)
                      · rw [if_neg c30] at H
                        have c30b0 : decide (x39_3 < (l1.length : Int)) = false := decide_eq_false c30
                        clear c30
                        by_cases c38 : x11_3 = true
                        · subst c38
                          have H1 : (spec_IsStrict.l0 k3 l1 t225 l2 (l2.length : Int) (wrap64 (x33_2 + 1))) = some (r1, r2) := by rw [if_pos rfl] at H; exact H
                          clear H
                          have H := H1
                          clear H1
                          have H' := Aside0.mk H
                          clear H
                          go_wp2
                          go_roundg k3
                          case measure => have := HJ3.out; have := HK2.out; have := HK3.out; omega
                          case rel => exact ⟨(wrap64 (x33_2 + 1)), (by first | rfl | (simp; done) | (simp [*]; done)), H', ⟨by have := HJ3.out; have := HK2.out; have := HK3.out; omega⟩, ⟨by (with_reducible repeat (first | apply Kd.S_alloc | apply Kd.S_drewN | apply Kd.S_drew)); exact HO_8.out⟩, ⟨by (with_reducible repeat (first | refine blk_drewN ?_ _ | refine blk_drew ?_ | refine blk_alloc ?_ _)); exact BK221.out⟩, ⟨by repeat (first | (with_reducible first | exact HB.out | apply below_alloc | apply pw_below_drewN | apply below_drew1 | refine below_set ?_ GE221.out) | exact HB.out)⟩⟩
                        · replace c38 := Bool.eq_false_iff.mpr c38
                          subst c38
                          have H1 : (some (false, true)) = some (r1, r2) := by rw [if_neg (show ¬ (false = true) by decide)] at H; exact H
                          clear H
                          have H := H1
                          clear H1
                          simp only [Option.some.injEq, Prod.mk.injEq] at H
                          obtain ⟨rfl, rfl⟩ := H
                          go_wp2
                          go_ret2
                          exact ⟨by first | rfl | (simp [errW_none, errW_some] <;> rfl) | (simp [*, errW_none, errW_some] <;> rfl), by repeat (first | (with_reducible first | exact HB.out | apply below_alloc | apply pw_below_drewN | apply below_drew1 | refine below_set ?_ GE221.out) | exact HB.out)⟩
                · rw [if_neg c29] at H
                  exact absurd H (by simp)
              · rw [if_neg c28] at H
                exact absurd H (by simp)
            · rw [if_neg c27] at H
              have c27b0 : decide (x33_2 < (l2.length : Int)) = false := decide_eq_false c27
              clear c27
              simp only [Option.some.injEq, Prod.mk.injEq] at H
              obtain ⟨rfl, rfl⟩ := H
              go_wp2
              go_ret2
              exact ⟨by first | rfl | (simp [errW_none, errW_some] <;> rfl) | (simp [*, errW_none, errW_some] <;> rfl), by repeat (first | (with_reducible first | exact HB.out | apply below_alloc | apply pw_below_drewN | apply below_drew1 | refine below_set ?_ GE221.out) | exact HB.out)⟩
end Go.Proofs.Ytplcipjlkogadaa.P
