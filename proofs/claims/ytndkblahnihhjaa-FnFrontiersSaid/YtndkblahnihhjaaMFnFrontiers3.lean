import Derived.Test.YtndkblahnihhjaaMFnFrontiers1
import Derived.Test.YtndkblahnihhjaaMFnFrontiers2
set_option linter.unusedVariables false
set_option linter.unusedSimpArgs false
set_option linter.unusedSectionVars false
namespace Go.Proofs.Ytndkblahnihhjaa.Q
open Go.RowKit Go.Proofs.Ytndkblahnihhjaa.P Go.Proofs.Ytndkblahnihhjaa.H Go.Proofs.YtndkblahnihhjaaW.PrintWords
def Srt (l : List Int) : Prop := l.Pairwise (· < ·)
theorem srt_ext : ∀ {a b : List Int}, Srt a → Srt b → (∀ x, x ∈ a ↔ x ∈ b) → a = b
  | [], [], _, _, _ => rfl
  | [], y :: b, _, _, h => by have := (h y).2 (by simp); simp at this
  | x :: a, [], _, _, h => by have := (h x).1 (by simp); simp at this
  | x :: a, y :: b, ha, hb, h => by
    have ha' := List.pairwise_cons.1 ha
    have hb' := List.pairwise_cons.1 hb
    have e : x = y := by
      rcases List.mem_cons.1 ((h x).1 (by simp)) with e | e
      · exact e
      · rcases List.mem_cons.1 ((h y).2 (by simp)) with e2 | e2
        · exact e2.symm
        · have h1 := hb'.1 x e
          have h2 := ha'.1 y e2
          omega
    subst e
    congr 1
    refine srt_ext ha'.2 hb'.2 (fun z => ?_)
    constructor
    · intro hz
      rcases List.mem_cons.1 ((h z).1 (by simp [hz])) with e | e
      · have := ha'.1 z hz; omega
      · exact e
    · intro hz
      rcases List.mem_cons.1 ((h z).2 (by simp [hz])) with e | e
      · have := hb'.1 z hz; omega
      · exact e
def putL : List Int → Int → List Int
  | [], x => [x]
  | y :: l, x => if y < x then y :: putL l x else if y = x then y :: l else x :: y :: l
theorem putL_mem (x : Int) : ∀ (l : List Int) (y : Int), y ∈ putL l x ↔ y ∈ l ∨ y = x
  | [], y => by simp [putL]
  | z :: l, y => by
    unfold putL
    by_cases h1 : z < x
    · rw [if_pos h1, List.mem_cons, putL_mem x l y, List.mem_cons, or_assoc]
    · rw [if_neg h1]
      by_cases h2 : z = x
      · rw [if_pos h2]
        constructor
        · exact .inl
        · rintro (h | h)
          · exact h
          · rw [h, ← h2]; simp
      · rw [if_neg h2, List.mem_cons, or_comm]
theorem putL_srt (x : Int) : ∀ (l : List Int), Srt l → Srt (putL l x)
  | [], _ => by unfold putL Srt; simp
  | z :: l, h => by
    have h' := List.pairwise_cons.1 h
    unfold putL
    by_cases h1 : z < x
    · rw [if_pos h1]
      refine List.pairwise_cons.2 ⟨fun y hy => ?_, putL_srt x l h'.2⟩
      rcases (putL_mem x l y).1 hy with e | e
      · exact h'.1 y e
      · omega
    · rw [if_neg h1]
      by_cases h2 : z = x
      · rw [if_pos h2]; exact h
      · rw [if_neg h2]
        refine List.pairwise_cons.2 ⟨fun y hy => ?_, h⟩
        rcases List.mem_cons.1 hy with e | e
        · omega
        · have := h'.1 y e; omega
theorem putL_len (x : Int) : ∀ (l : List Int), (putL l x).length ≤ l.length + 1
  | [] => by simp [putL]
  | z :: l => by
    have := putL_len x l
    unfold putL
    split
    · simp; omega
    · split
      · simp
      · simp
theorem putL_split (x : Int) : ∀ (l : List Int) (i : Nat), (∀ j, j < i → l.getD j 0 < x) → i ≤ l.length → putL l x = l.take i ++ putL (l.drop i) x
  | l, 0, _, _ => by simp
  | [], i + 1, _, h => by simp at h
  | z :: l, i + 1, h, hl => by
    have h0 : z < x := h 0 (by omega)
    show (if z < x then z :: putL l x else _) = _
    rw [if_pos h0, List.take_succ_cons, List.drop_succ_cons, List.cons_append, ← putL_split x l i (fun j hj => h (j + 1) (by omega)) (by simpa using hl)]
theorem put_ev (l : List Int) (x : Int) (hl : l.length ≤ 1048576) : Ev (fun k => spec_l1Put.f k l x) (putL l x) := by
  unfold spec_l1Put.f
  refine down (n := l.length) (p := fun i => (∀ j, j < i → l.getD j 0 < x) → Ev (fun k => spec_l1Put.l0 k l x (i : Int)) (putL l x)) ?h0 ?hs 0 (Nat.zero_le _) (fun j h => by omega)
  case h0 =>
    intro hj
    refine Ev.step (f := fun _ => some (putL l x)) (fun k => ?_) (Ev.now _)
    simp only [spec_l1Put.l0]
    rw [if_neg (by omega), if_pos (by omega), if_pos (by omega)]
    simp only [Option.bind_some, List.nil_append, List.length_nil, Int.toNat_natCast, List.take_length, List.drop_length, List.append_nil, Nat.zero_add, Nat.add_zero]
    have h2 : (l ++ [x]).length < 17592186044416 := by rw [List.length_append, List.length_cons, List.length_nil]; omega
    rw [if_pos (by omega), if_pos (by omega), if_pos h2, putL_split x l l.length hj (Nat.le_refl _), List.take_length, List.drop_length]
    rfl
  case hs =>
    intro i hi ih hj
    have hr : rd l (i : Int) = l.getD i 0 := rfl
    by_cases c : l.getD i 0 < x
    · refine Ev.step (fun k => ?_) (ih (fun j h => by
        by_cases e : j = i
        · rw [e]; exact c
        · exact hj j (by omega)))
      simp only [spec_l1Put.l0]
      rw [if_pos (by omega), if_pos (by omega), hr, if_pos c, w64 (by omega) (by omega)]
      rfl
    · have hs := putL_split x l i hj (by omega)
      rw [drop_eq hi] at hs
      by_cases c2 : l.getD i 0 = x
      · refine Ev.step (f := fun _ => some l) (fun k => ?_) (ev_is fun k => ?_)
        · simp only [spec_l1Put.l0]
          rw [if_pos (by omega), if_pos (by omega), hr, if_neg c, if_pos c2]
        · rw [hs]
          show some l = some (l.take i ++ (if l.getD i 0 < x then _ else if l.getD i 0 = x then _ else _))
          rw [if_neg c, if_pos c2, ← drop_eq hi, List.take_append_drop]
      · refine Ev.step (f := fun _ => some (putL l x)) (fun k => ?_) (Ev.now _)
        have hp : putL l x = l.take i ++ x :: l.drop i := by
          rw [hs]
          show l.take i ++ (if l.getD i 0 < x then _ else if l.getD i 0 = x then _ else _) = _
          rw [if_neg c, if_neg c2, ← drop_eq hi]
        simp only [spec_l1Put.l0]
        rw [if_pos (by omega), if_pos (by omega), hr, if_neg c, if_neg c2, if_pos (by omega)]
        simp only [Option.bind_some, List.nil_append, List.length_nil, Int.toNat_natCast, Nat.zero_add]
        have h1 : (l.take i).length < 17592186044416 := by rw [List.length_take]; omega
        have h2 : (l.take i ++ [x]).length + (l.drop i).length < 17592186044416 := by rw [List.length_append, List.length_cons, List.length_nil, List.length_take, List.length_drop]; omega
        rw [if_pos h1, if_pos h1, if_pos h2, hp, List.append_assoc]
        rfl
end Go.Proofs.Ytndkblahnihhjaa.Q

namespace Go.Proofs.Ytndkblahnihhjaa.P
open Go.RowKit Go.Proofs.YtndkblahnihhjaaW.PrintWords Go.Proofs.YtndkblahnihhjaaW.PrintLast Go.Proofs.YtndkblahnihhjaaW.PrintMore
attribute [local go_sem] max2_int min2_int max_two min_two max_three min_three max_four min_four
def impl_within.f (a0 : Int) (a1 : Int) (a2 : Int) : Option (Bool) := if a0 ≥ a1 then (some (decide (a0 ≤ a2))) else (some false)
set_option maxHeartbeats 8000000 in
set_option maxRecDepth 100000 in
theorem impl_within.calls (a0 : Int) (a1 : Int) (a2 : Int) (r : Bool) (w : World) (h : impl_within.f a0 a1 a2 = some r) :
    Calls Try.prog 69 #[.int .i64 a0, .int .i64 a1, .int .i64 a2] w fun e w' => e = .returned (.bool r) ∧ Drawn0 w w' := by
  have H : (if a0 ≥ a1 then (some (decide (a0 ≤ a2))) else (some false)) = some r := h
  clear h
  by_cases c4 : a0 ≥ a1
  · rw [if_pos c4] at H
    have c4b0 : decide (a1 ≤ a0) = true := decide_eq_true c4
    clear c4
    obtain rfl := Option.some.inj H
    go_enter Try.func69, Try.ntmps69
    go_wp2
    go_ret
    exact ⟨by first | rfl | (simp; done) | (simp [*]; done), by repeat (first | exact Drawn0.refl _ | apply Drawn0.step)⟩
  · rw [if_neg c4] at H
    have c4b0 : decide (a1 ≤ a0) = false := decide_eq_false c4
    clear c4
    obtain rfl := Option.some.inj H
    go_enter Try.func69, Try.ntmps69
    go_wp2
    go_ret
    exact ⟨by first | rfl | (simp; done) | (simp [*]; done), by repeat (first | exact Drawn0.refl _ | apply Drawn0.step)⟩
end Go.Proofs.Ytndkblahnihhjaa.P

namespace Go.Proofs.Ytndkblahnihhjaa.P
open Go.RowKit Go.Proofs.YtndkblahnihhjaaW.PrintWords Go.Proofs.YtndkblahnihhjaaW.PrintLast Go.Proofs.YtndkblahnihhjaaW.PrintMore
attribute [local go_sem] max2_int min2_int max_two min_two max_three min_three max_four min_four
set_option maxHeartbeats 8000000 in
theorem slices_IndexFunc_Row.calls (F : Nat) (cv : Value) (p : List Int → Bool) (A0 : Option Addr) (c0 : Nat) (l0 : List (List Int)) (w : World) (hr0 : Kd.C (Kd.slice 3 (Kd.int .i64)) w A0 l0.length l0) (hc0 : l0.length ≤ c0)
    (hE : ∀ (args : Array Value) (W : World), (callFunc F args).run Try.prog W = .ok (.enter F args) W)
    (hF : ∀ (A : Option Addr) (c : Nat) (x : List Int) (W : World), x ∈ l0 → Below w.heap.size w W → x.length ≤ c → (Kd.int .i64).C W A x.length x → Calls Try.prog F #[.slice A x.length c, cv] W fun e w' => e = .returned (.bool (p x)) ∧ Below W.heap.size W w') :
    Calls Try.prog 76 #[.slice A0 l0.length c0, .func (.func F) #[] #[cv]] w fun e w' => e = .returned (.int .i64 (H.idxB p l0)) ∧ Below w.heap.size w w' := by
  have HR := Aside0.mk hr0
  have HF := Aside0.mk hF
  have hn := hr0.2.1
  clear hr0 hF
  go_enter Try.func76, Try.ntmps76
  go_wp2
  go_loopw [8] (fun v8 wr => ∃ i : Nat, v8 = .int .i64 i ∧ i ≤ l0.length ∧ Aside0 (∀ j, j < i → p (l0.getD j []) = false) ∧ Aside0 (Below w.heap.size w wr)) (fun v8 _ => l0.length - (intOf v8).toNat)
  case atStart => exact ⟨0, rfl, Nat.zero_le _, ⟨by intro j h; omega⟩, ⟨Below.refl _ _⟩⟩
  case round =>
    obtain ⟨i, rfl, hi, HA, HB⟩ := hrel
    by_cases hlt : i < l0.length
    · obtain ⟨ad, A1, c1, e, h0, h1, h2⟩ := at_L1 HR.out (i : Int) (by omega) (by omega)
      cases e
      have hm : rd_L1 l0 (i : Int) ∈ l0 := by
        unfold rd_L1
        rw [Int.toNat_natCast, List.getD_eq_getElem?_getD, List.getElem?_eq_getElem hlt]
        exact List.getElem_mem hlt
      replace h0 := (HB.out.cell (World.block_lt_of_cell? w _ h0)).trans h0
      rw [Int.toNat_natCast] at h0
      have H2 := Aside0.mk (Kd.C_below h2 HB.out)
      clear h2
      have HX : ∃ x, rd_L1 l0 (i : Int) = x := ⟨_, rfl⟩
      obtain ⟨x, hx⟩ := HX
      rw [hx] at h0 h1 hm H2
      have hx' : l0.getD i [] = x := by rw [← hx]; rfl
      have HX := Aside0.mk hx'
      clear hx hx'
      go_wp2_with fail
      refine (HF.out A1 c1 x _ hm HB.out h1 H2.out).mono ?_
      rintro e w' ⟨rfl, hb⟩
      have HB' := Aside0.mk (HB.out.trans (hb.mono HB.out.size))
      clear hb HB h0 h1
      cases hp : p x with
      | true =>
        have HP := Aside0.mk hp
        clear hp
        go_wp2
        go_ret
        exact ⟨H.ret_int (H.idxB_at [] hlt (by rw [HX.out]; exact HP.out) HA.out), HB'.out⟩
      | false =>
        have HP := Aside0.mk hp
        clear hp
        go_wp2
        go_roundw
        case rel => exact ⟨i + 1, by go_num, by omega, ⟨fun j hj => by rcases Nat.lt_succ_iff_lt_or_eq.1 hj with h | rfl; exact HA.out j h; rw [HX.out]; exact HP.out⟩, HB'⟩
        case measure => simp [intOf]; omega
    · go_wp2
      go_ret
      exact ⟨H.ret_int (H.idxB_none [] (fun j hj => HA.out j (by omega))), HB.out⟩
end Go.Proofs.Ytndkblahnihhjaa.P

namespace Go.Proofs.Ytndkblahnihhjaa.P
open Go.RowKit Go.Proofs.YtndkblahnihhjaaW.PrintWords Go.Proofs.YtndkblahnihhjaaW.PrintLast Go.Proofs.YtndkblahnihhjaaW.PrintMore
attribute [local go_sem] max2_int min2_int max_two min_two max_three min_three max_four min_four
theorem slices_ContainsFunc_Row.calls (F : Nat) (cv : Value) (p : List Int → Bool) (A0 : Option Addr) (c0 : Nat) (l0 : List (List Int)) (w : World) (hr0 : Kd.C (Kd.slice 3 (Kd.int .i64)) w A0 l0.length l0) (hc0 : l0.length ≤ c0)
    (hE : ∀ (args : Array Value) (W : World), (callFunc F args).run Try.prog W = .ok (.enter F args) W)
    (hF : ∀ (A : Option Addr) (c : Nat) (x : List Int) (W : World), x ∈ l0 → Below w.heap.size w W → x.length ≤ c → (Kd.int .i64).C W A x.length x → Calls Try.prog F #[.slice A x.length c, cv] W fun e w' => e = .returned (.bool (p x)) ∧ Below W.heap.size W w') :
    Calls Try.prog 70 #[.slice A0 l0.length c0, .func (.func F) #[] #[cv]] w fun e w' => e = .returned (.bool (l0.any p)) ∧ Below w.heap.size w w' := by
  have HC := Aside0.mk (slices_IndexFunc_Row.calls F cv p A0 c0 l0 w hr0 hc0 hE hF)
  clear hr0 hF hE
  go_enter Try.func70, Try.ntmps70
  go_wp2_with fail
  refine HC.out.mono ?_
  rintro e w' ⟨rfl, hb⟩
  have HB := Aside0.mk hb
  clear hb
  go_wp2
  go_ret
  exact ⟨H.ret_bool (H.idxB_any p l0), HB.out⟩
end Go.Proofs.Ytndkblahnihhjaa.P

namespace Go.Proofs.Ytndkblahnihhjaa.P
open Go.RowKit Go.Proofs.YtndkblahnihhjaaW.PrintWords Go.Proofs.YtndkblahnihhjaaW.PrintLast Go.Proofs.YtndkblahnihhjaaW.PrintMore
attribute [local go_sem] max2_int min2_int max_two min_two max_three min_three max_four min_four
def impl_rising.l0 : Nat → List Int → Int → Int → List Int → Int → Int → Option (Bool)
  | 0, _, _, _, _, _, _ => none
  | k + 1, x0, x1, x2, x9, x10, x11 => if x11 < x10 then (if 0 ≤ x11 then (if x11 < (x9.length : Int) then ((impl_within.f (rd x9 x11) x1 x2).bind fun t191 => (if t191 = true then (if x11 > 0 then (if 0 ≤ (wrap64 (x11 - 1)) then (if (wrap64 (x11 - 1)) < (x0.length : Int) then (if (rd x0 (wrap64 (x11 - 1))) ≥ (rd x9 x11) then (some false) else (impl_rising.l0 k x0 x1 x2 x9 x10 (wrap64 (x11 + 1)))) else (none)) else (none)) else (impl_rising.l0 k x0 x1 x2 x9 x10 (wrap64 (x11 + 1)))) else (some false))) else (none)) else (none)) else (some true)
def impl_rising.f (k : Nat) (l0 : List Int) (a1 : Int) (a2 : Int) : Option (Bool) := impl_rising.l0 k l0 a1 a2 l0 (l0.length : Int) 0
set_option maxHeartbeats 8000000 in
set_option maxRecDepth 100000 in
theorem impl_rising.calls (k : Nat) (A0 : Option Addr) (c0 : Nat) (l0 : List Int) (a1 : Int) (a2 : Int) (r : Bool) (w : World) (hr0 : Kd.C (Kd.int .i64) w A0 l0.length l0) (hc0 : l0.length ≤ c0) (h : impl_rising.f k l0 a1 a2 = some r) :
    Calls Try.prog 72 #[.slice A0 l0.length c0, .int .i64 a1, .int .i64 a2] w fun e w' => e = .returned (.bool r) ∧ Drawn0 w w' := by
  have HR0 := Aside0.mk hr0
  have HC0 := Aside0.mk hc0
  clear hr0 hc0
  have H : (impl_rising.l0 k l0 a1 a2 l0 (l0.length : Int) 0) = some r := h
  clear h
  have H' := Aside0.mk H
  clear H
  go_enter Try.func72, Try.ntmps72
  go_wp2
  go_loopg [11] k (fun kq v11 w' => ∃ (x11_1 : Int), v11 = .int .i64 x11_1 ∧ Aside0 (impl_rising.l0 kq l0 a1 a2 l0 (l0.length : Int) x11_1 = some r) ∧ Aside0 (kq ≤ k) ∧ Drawn0 w w')
  case atStart => exact ⟨(0), (by first | rfl | (simp; done) | (simp [*]; done)), H', ⟨Nat.le_refl _⟩, by repeat (first | exact Drawn0.refl _ | apply Drawn0.step)⟩
  case round =>
    clear H'
    try clear p2
    obtain ⟨x11_1, rfl, HA, HK1, ⟨m1, rfl⟩⟩ := hrel
    cases gk with
    | zero => exact absurd HA.out (by simp [impl_rising.l0])
    | succ k1 =>
      have H := HA.out
      clear HA
      simp only [impl_rising.l0] at H
      by_cases c4 : x11_1 < (l0.length : Int)
      · rw [if_pos c4] at H
        have c4b0 : decide (x11_1 < (l0.length : Int)) = true := decide_eq_true c4
        clear c4
        by_cases c5 : 0 ≤ x11_1
        · rw [if_pos c5] at H
          have c5b0 : decide (0 ≤ x11_1) = true := decide_eq_true c5
          clear c5
          by_cases c6 : x11_1 < (l0.length : Int)
          · rw [if_pos c6] at H
            have c6b0 : decide (x11_1 < (l0.length : Int)) = true := decide_eq_true c6
            clear c6
            replace H := Option.bind_eq_some_iff.mp H
            obtain ⟨t191, A70, H⟩ := H
            replace H : (if t191 = true then (if x11_1 > 0 then (if 0 ≤ (wrap64 (x11_1 - 1)) then (if (wrap64 (x11_1 - 1)) < (l0.length : Int) then (if (rd l0 (wrap64 (x11_1 - 1))) ≥ (rd l0 x11_1) then (some false) else (impl_rising.l0 k1 l0 a1 a2 l0 (l0.length : Int) (wrap64 (x11_1 + 1)))) else (none)) else (none)) else (impl_rising.l0 k1 l0 a1 a2 l0 (l0.length : Int) (wrap64 (x11_1 + 1)))) else (some false)) = some r := H
            have A7 := Aside0.mk A70
            clear A70
            by_cases c8 : t191 = true
            · subst c8
              have H1 : (if x11_1 > 0 then (if 0 ≤ (wrap64 (x11_1 - 1)) then (if (wrap64 (x11_1 - 1)) < (l0.length : Int) then (if (rd l0 (wrap64 (x11_1 - 1))) ≥ (rd l0 x11_1) then (some false) else (impl_rising.l0 k1 l0 a1 a2 l0 (l0.length : Int) (wrap64 (x11_1 + 1)))) else (none)) else (none)) else (impl_rising.l0 k1 l0 a1 a2 l0 (l0.length : Int) (wrap64 (x11_1 + 1)))) = some r := by rw [if_pos rfl] at H; exact H
              clear H
              have H := H1
              clear H1
              by_cases c9 : x11_1 > 0
              · rw [if_pos c9] at H
                have c9b0 : decide (0 < x11_1) = true := decide_eq_true c9
                clear c9
                obtain ⟨ji10, hji10⟩ : ∃ j_ : Int, (wrap64 (x11_1 - 1)) = j_ := ⟨_, rfl⟩
                replace H : (if 0 ≤ (ji10) then (if (ji10) < (l0.length : Int) then (if (rd l0 (ji10)) ≥ (rd l0 x11_1) then (some false) else (impl_rising.l0 k1 l0 a1 a2 l0 (l0.length : Int) (wrap64 (x11_1 + 1)))) else (none)) else (none)) = some r := by first | (rw [hji10] at H; exact H) | (simp only [hji10] at H ⊢; exact H)
                (try rw [hji10] at A7)
                have hji10w : (IntKind.i64.wrap (x11_1 - 1)) = ji10 := (i64_w _).trans hji10
                by_cases c11 : 0 ≤ (ji10)
                · rw [if_pos c11] at H
                  have c11b0 : decide (0 ≤ (ji10)) = true := decide_eq_true c11
                  clear c11
                  by_cases c12 : (ji10) < (l0.length : Int)
                  · rw [if_pos c12] at H
                    have c12b0 : decide ((ji10) < (l0.length : Int)) = true := decide_eq_true c12
                    clear c12
                    by_cases c13 : (rd l0 (ji10)) ≥ (rd l0 x11_1)
                    · rw [if_pos c13] at H
                      have c13b0 : decide ((rd l0 x11_1) ≤ (rd l0 (ji10))) = true := decide_eq_true c13
                      clear c13
                      obtain rfl := Option.some.inj H
                      have p190 : 0 ≤ (x11_1 : Int) := of_decide_eq_true (by first | (with_reducible assumption) | assumption)
                      have q190 : x11_1 < (l0.length : Int) := of_decide_eq_true (by first | (with_reducible assumption) | assumption)
                      obtain ⟨ad190, e190, hx190_0⟩ := Kd.at_int HR0.out x11_1 p190 q190
                      cases e190
                      replace p190 := eq_true p190
                      replace q190 := eq_true q190
                      go_wp2_with (first | ((with_reducible refine gate_callee (f := 69) rfl ?_); refine goesL_ (some 19) rfl rfl Try.func69 (by kernel_rfl) rfl #[.int .i64 (rd l0 x11_1), .int .i64 a1, .int .i64 a2] rfl (by (try simp only [List.map_toArray, List.map_cons, List.map_nil]); first | done | rfl | (simp only [List.length_drop, List.length_take]; rfl)) ?_; (with_reducible refine (impl_within.calls (rd l0 x11_1) a1 a2 true _ A7.out).mono ?_); rintro e w' ⟨rfl, ⟨nd, rfl⟩⟩; refine ⟨_, rfl, ?_⟩; have p192 : 0 ≤ ((ji10) : Int) := of_decide_eq_true (by first | (with_reducible assumption) | assumption); have q192 : (ji10) < (l0.length : Int) := of_decide_eq_true (by first | (with_reducible assumption) | assumption); obtain ⟨ad192, e192, hx192_0⟩ := Kd.at_int HR0.out (ji10) p192 q192; obtain rfl : ad190 = ad192 := (by injection e192); replace p192 := eq_true p192; replace q192 := eq_true q192))
                      go_ret
                      exact ⟨by first | rfl | (simp; done) | (simp only [← hji10] <;> (first | rfl | simp)) | (simp [*]; done), by repeat (first | exact Drawn0.refl _ | apply Drawn0.step)⟩
                    · rw [if_neg c13] at H
                      have c13b0 : decide ((rd l0 x11_1) ≤ (rd l0 (ji10))) = false := decide_eq_false c13
                      clear c13
                      have H' := Aside0.mk H
                      clear H
                      have p190 : 0 ≤ (x11_1 : Int) := of_decide_eq_true (by first | (with_reducible assumption) | assumption)
                      have q190 : x11_1 < (l0.length : Int) := of_decide_eq_true (by first | (with_reducible assumption) | assumption)
                      obtain ⟨ad190, e190, hx190_0⟩ := Kd.at_int HR0.out x11_1 p190 q190
                      cases e190
                      replace p190 := eq_true p190
                      replace q190 := eq_true q190
                      go_wp2_with (first | ((with_reducible refine gate_callee (f := 69) rfl ?_); refine goesL_ (some 19) rfl rfl Try.func69 (by kernel_rfl) rfl #[.int .i64 (rd l0 x11_1), .int .i64 a1, .int .i64 a2] rfl (by (try simp only [List.map_toArray, List.map_cons, List.map_nil]); first | done | rfl | (simp only [List.length_drop, List.length_take]; rfl)) ?_; (with_reducible refine (impl_within.calls (rd l0 x11_1) a1 a2 true _ A7.out).mono ?_); rintro e w' ⟨rfl, ⟨nd, rfl⟩⟩; refine ⟨_, rfl, ?_⟩; have p192 : 0 ≤ ((ji10) : Int) := of_decide_eq_true (by first | (with_reducible assumption) | assumption); have q192 : (ji10) < (l0.length : Int) := of_decide_eq_true (by first | (with_reducible assumption) | assumption); obtain ⟨ad192, e192, hx192_0⟩ := Kd.at_int HR0.out (ji10) p192 q192; obtain rfl : ad190 = ad192 := (by injection e192); replace p192 := eq_true p192; replace q192 := eq_true q192))
                      go_roundg k1
                      case measure => have := HK1.out; omega
                      case rel => exact ⟨(wrap64 (x11_1 + 1)), (by first | rfl | (simp; done) | (simp [*]; done)), H', ⟨by have := HK1.out; omega⟩, by repeat (first | exact Drawn0.refl _ | apply Drawn0.step)⟩
                  · rw [if_neg c12] at H
                    exact absurd H (by simp)
                · rw [if_neg c11] at H
                  exact absurd H (by simp)
              · rw [if_neg c9] at H
                have c9b0 : decide (0 < x11_1) = false := decide_eq_false c9
                clear c9
                have H' := Aside0.mk H
                clear H
                have p190 : 0 ≤ (x11_1 : Int) := of_decide_eq_true (by first | (with_reducible assumption) | assumption)
                have q190 : x11_1 < (l0.length : Int) := of_decide_eq_true (by first | (with_reducible assumption) | assumption)
                obtain ⟨ad190, e190, hx190_0⟩ := Kd.at_int HR0.out x11_1 p190 q190
                cases e190
                replace p190 := eq_true p190
                replace q190 := eq_true q190
                go_wp2_with (first | ((with_reducible refine gate_callee (f := 69) rfl ?_); refine goesL_ (some 19) rfl rfl Try.func69 (by kernel_rfl) rfl #[.int .i64 (rd l0 x11_1), .int .i64 a1, .int .i64 a2] rfl (by (try simp only [List.map_toArray, List.map_cons, List.map_nil]); first | done | rfl | (simp only [List.length_drop, List.length_take]; rfl)) ?_; (with_reducible refine (impl_within.calls (rd l0 x11_1) a1 a2 true _ A7.out).mono ?_); rintro e w' ⟨rfl, ⟨nd, rfl⟩⟩; refine ⟨_, rfl, ?_⟩))
                go_roundg k1
                case measure => have := HK1.out; omega
                case rel => exact ⟨(wrap64 (x11_1 + 1)), (by first | rfl | (simp; done) | (simp [*]; done)), H', ⟨by have := HK1.out; omega⟩, by repeat (first | exact Drawn0.refl _ | apply Drawn0.step)⟩
            · replace c8 := Bool.eq_false_iff.mpr c8
              subst c8
              have H1 : (some false) = some r := by rw [if_neg (show ¬ (false = true) by decide)] at H; exact H
              clear H
              have H := H1
              clear H1
              obtain rfl := Option.some.inj H
              have p190 : 0 ≤ (x11_1 : Int) := of_decide_eq_true (by first | (with_reducible assumption) | assumption)
              have q190 : x11_1 < (l0.length : Int) := of_decide_eq_true (by first | (with_reducible assumption) | assumption)
              obtain ⟨ad190, e190, hx190_0⟩ := Kd.at_int HR0.out x11_1 p190 q190
              cases e190
              replace p190 := eq_true p190
              replace q190 := eq_true q190
              go_wp2_with (first | ((with_reducible refine gate_callee (f := 69) rfl ?_); refine goesL_ (some 19) rfl rfl Try.func69 (by kernel_rfl) rfl #[.int .i64 (rd l0 x11_1), .int .i64 a1, .int .i64 a2] rfl (by (try simp only [List.map_toArray, List.map_cons, List.map_nil]); first | done | rfl | (simp only [List.length_drop, List.length_take]; rfl)) ?_; (with_reducible refine (impl_within.calls (rd l0 x11_1) a1 a2 false _ A7.out).mono ?_); rintro e w' ⟨rfl, ⟨nd, rfl⟩⟩; refine ⟨_, rfl, ?_⟩))
              go_ret
              exact ⟨by first | rfl | (simp; done) | (simp [*]; done), by repeat (first | exact Drawn0.refl _ | apply Drawn0.step)⟩
          · rw [if_neg c6] at H
            exact absurd H (by simp)
        · rw [if_neg c5] at H
          exact absurd H (by simp)
      · rw [if_neg c4] at H
        have c4b0 : decide (x11_1 < (l0.length : Int)) = false := decide_eq_false c4
        clear c4
        obtain rfl := Option.some.inj H
        go_wp2
        go_ret
        exact ⟨by first | rfl | (simp; done) | (simp [*]; done), by repeat (first | exact Drawn0.refl _ | apply Drawn0.step)⟩
end Go.Proofs.Ytndkblahnihhjaa.P

namespace Go.Proofs.Ytndkblahnihhjaa.P
open Go.RowKit Go.Proofs.YtndkblahnihhjaaW.PrintWords Go.Proofs.YtndkblahnihhjaaW.PrintLast Go.Proofs.YtndkblahnihhjaaW.PrintMore
attribute [local go_sem] max2_int min2_int max_two min_two max_three min_three max_four min_four
theorem impl_within.tell (a b c : Int) : impl_within.f a b c = some (decide (b ≤ a) && decide (a ≤ c)) := by
  unfold impl_within.f
  by_cases h : a ≥ b
  · rw [if_pos h, decide_eq_true h, Bool.true_and]
  · rw [if_neg h, decide_eq_false h, Bool.false_and]
theorem impl_rising.ends (l : List Int) (lo hi : Int) (hn : l.length ≤ 9223372036854775807) : ∃ k, impl_rising.f k l lo hi = some (H.upB l lo hi 0) := by
  apply Ev.rounds
  unfold impl_rising.f
  refine H.down0 (n := l.length) (p := fun i => Ev (fun k => impl_rising.l0 k l lo hi l (l.length : Int) (i : Int)) (H.upB l lo hi i)) ?h0 ?hs
  case h0 =>
    rw [H.upB_end]
    exact Ev.step (f := fun _ => some true) (fun k => by simp only [impl_rising.l0]; rw [if_neg (by omega)]) (Ev.now _)
  case hs =>
    intro i hi' ih
    rw [H.upB_step l lo hi hi']
    have hr : rd l (i : Int) = l.getD i 0 := rfl
    by_cases c : (decide (lo ≤ l.getD i 0) && decide (l.getD i 0 ≤ hi)) = true
    · by_cases ci : i = 0
      · have e : H.upAt l lo hi i = true := by unfold H.upAt; rw [c, ci]; rfl
        rw [e, Bool.true_and]
        refine Ev.step (fun k => ?_) ih
        simp only [impl_rising.l0]
        rw [if_pos (by omega), if_pos (by omega), if_pos (by omega), hr, impl_within.tell, c, Option.bind_some, if_pos rfl, if_neg (by omega), H.w64 (by omega) (by omega)]
        rfl
      · have ew : wrap64 ((i : Int) - 1) = ((i - 1 : Nat) : Int) := by rw [H.w64 (by omega) (by omega)]; omega
        have hr1 : rd l (wrap64 ((i : Int) - 1)) = l.getD (i - 1) 0 := by rw [ew]; rfl
        by_cases c2 : l.getD (i - 1) 0 < l.getD i 0
        · have e : H.upAt l lo hi i = true := by unfold H.upAt; rw [c, decide_eq_true c2]; simp
          rw [e, Bool.true_and]
          refine Ev.step (fun k => ?_) ih
          simp only [impl_rising.l0]
          rw [if_pos (by omega), if_pos (by omega), if_pos (by omega), hr, impl_within.tell, c, Option.bind_some, if_pos rfl, if_pos (by omega), if_pos (by rw [ew]; omega), if_pos (by rw [ew]; omega), hr1, if_neg (by omega), H.w64 (by omega) (by omega)]
          rfl
        · have e : H.upAt l lo hi i = false := by unfold H.upAt; rw [c, decide_eq_false c2, decide_eq_false ci]; rfl
          rw [e, Bool.false_and]
          refine Ev.step (f := fun _ => some false) (fun k => ?_) (Ev.now _)
          simp only [impl_rising.l0]
          rw [if_pos (by omega), if_pos (by omega), if_pos (by omega), hr, impl_within.tell, c, Option.bind_some, if_pos rfl, if_pos (by omega), if_pos (by rw [ew]; omega), if_pos (by rw [ew]; omega), hr1, if_pos (by omega)]
    · have c' : (decide (lo ≤ l.getD i 0) && decide (l.getD i 0 ≤ hi)) = false := by simpa using c
      have e : H.upAt l lo hi i = false := by unfold H.upAt; rw [c', Bool.false_and]
      rw [e, Bool.false_and]
      refine Ev.step (f := fun _ => some false) (fun k => ?_) (Ev.now _)
      simp only [impl_rising.l0]
      rw [if_pos (by omega), if_pos (by omega), if_pos (by omega), hr, impl_within.tell, c', Option.bind_some, if_neg (by simp)]
set_option maxHeartbeats 8000000 in
theorem impl_GoodGraph_1.calls (g : Addr) (Ag : Option Addr) (cg n : Nat) (A : Option Addr) (c : Nat) (l : List Int) (w : World) (hl : l.length ≤ c) (hr : Kd.C (Kd.int .i64) w A l.length l) (hg : w.cell? g = some (.slice Ag n cg)) (hn1 : 1 ≤ n) (hn2 : n ≤ 12) :
    Calls Try.prog 71 #[.slice A l.length c, .pointer (some g)] w fun e w' => e = .returned (.bool (!H.upB l 0 ((n : Int) - 1) 0)) ∧ Below w.heap.size w w' := by
  obtain ⟨k, hk⟩ := impl_rising.ends l 0 ((n : Int) - 1) (by have := hr.2.1; omega)
  have HC := Aside0.mk (impl_rising.calls k A c l 0 ((n : Int) - 1) _ w hr hl hk)
  have ew : IntKind.i64.wrap ((n : Int) - 1) = (n : Int) - 1 := (i64_w _).trans (H.w64 (by omega) (by omega))
  have EW := Aside0.mk ew
  clear hr hk ew
  obtain ⟨rr, hrr⟩ : ∃ rr, H.upB l 0 ((n : Int) - 1) 0 = rr := ⟨_, rfl⟩
  rw [hrr] at HC ⊢
  clear hrr
  go_enter Try.func71, Try.ntmps71
  go_wp2_with fail
  refine HC.out.mono ?_
  rintro e w' ⟨rfl, ⟨m, rfl⟩⟩
  go_wp2
  go_ret
  exact ⟨rfl, pw_below_drewN (Below.refl _ _) m⟩
end Go.Proofs.Ytndkblahnihhjaa.P

namespace Go.Proofs.Ytndkblahnihhjaa.P
open Go.RowKit Go.Proofs.YtndkblahnihhjaaW.PrintWords Go.Proofs.YtndkblahnihhjaaW.PrintLast Go.Proofs.YtndkblahnihhjaaW.PrintMore
attribute [local go_sem] max2_int min2_int max_two min_two max_three min_three max_four min_four
def impl_GoodGraph.f (l0_0 : List (List Int)) : Option (Bool) := some (H.goodG l0_0)
set_option maxHeartbeats 8000000 in
theorem impl_GoodGraph.calls (A0_0 : Option Addr) (c0_0 : Nat) (l0_0 : List (List Int)) (r : Bool) (w : World) (hr0_0 : Kd.C (Kd.slice 3 (Kd.int .i64)) w A0_0 l0_0.length l0_0) (hc0_0 : l0_0.length ≤ c0_0) (h : impl_GoodGraph.f l0_0 = some r) :
    Calls Try.prog 45 #[.agg #[.slice A0_0 l0_0.length c0_0]] w fun e w' => e = .returned (.bool r) ∧ Below w.heap.size w w' := by
  obtain rfl := Option.some.inj h
  clear h
  have hn := hr0_0.2.1
  have HW := Aside0.mk (fun (m : Nat) (n : Int) (W : World) => impl_within.calls n 1 12 _ W (impl_within.tell n 1 12))
  have HR := Aside0.mk hr0_0
  have HC0 := Aside0.mk hc0_0
  clear hr0_0 hc0_0
  by_cases c : 1 ≤ l0_0.length ∧ l0_0.length ≤ 12
  · have c' : (decide (1 ≤ (l0_0.length : Int)) && decide ((l0_0.length : Int) ≤ 12)) = true := by simp; omega
    have HG := Aside0.mk (show H.goodG l0_0 = !l0_0.any (fun l => !H.upB l 0 ((l0_0.length : Int) - 1) 0) by unfold H.goodG; rw [decide_eq_true c.1, decide_eq_true c.2, Bool.true_and, Bool.true_and, List.all_eq_not_any_not])
    obtain ⟨rr, hrr⟩ : ∃ rr, H.goodG l0_0 = rr := ⟨_, rfl⟩
    rw [hrr] at HG ⊢
    clear hrr
    have C := Aside0.mk c
    clear c
    go_enter Try.func45, Try.ntmps45
    go_wp2_with (first | (go_at_call 69; refine (HW.out 0 _ _).mono ?_; rw [c']; rintro e w' ⟨rfl, ⟨m, rfl⟩⟩) | (go_at_call 70; fail))
    have hbx : World.cell? ((w.alloc (Obj.cells #[Value.slice A0_0 l0_0.length c0_0] 28)).drewN m) ⟨w.heap.size, 0, none⟩ = some (Value.slice A0_0 l0_0.length c0_0) := blk_cell (blk_drewN (blk_new w _) m) 0
    have HB := Aside0.mk (pw_below_drewN (below_alloc (Below.refl w.heap.size w) (Obj.cells #[Value.slice A0_0 l0_0.length c0_0] 28)) m)
    generalize hW : World.drewN (w.alloc (Obj.cells #[Value.slice A0_0 l0_0.length c0_0] 28)) m = W0 at hbx HB ⊢
    clear hW
    refine (slices_ContainsFunc_Row.calls 71 _ (fun l => !H.upB l 0 ((l0_0.length : Int) - 1) 0) A0_0 c0_0 l0_0 W0 (Kd.C_below HR.out HB.out) HC0.out (fun _ _ => by go_simp) (fun A c x W hx hb hl hr => impl_GoodGraph_1.calls ⟨w.heap.size, 0, none⟩ A0_0 c0_0 l0_0.length A c x W hl hr ((hb.cell (World.block_lt_of_cell? W0 _ hbx)).trans hbx) C.out.1 C.out.2)).mono ?_
    rintro e w' ⟨rfl, hb⟩
    have HB' := Aside0.mk (HB.out.trans (hb.mono HB.out.size))
    clear hb HB
    go_wp2
    go_ret
    exact ⟨H.ret_bool HG.out.symm, HB'.out⟩
  · have c' : (decide (1 ≤ (l0_0.length : Int)) && decide ((l0_0.length : Int) ≤ 12)) = false := by simp; omega
    have HG := Aside0.mk (show H.goodG l0_0 = false by unfold H.goodG; have : (decide (1 ≤ l0_0.length) && decide (l0_0.length ≤ 12)) = false := (by simp; omega); rw [this, Bool.false_and])
    obtain ⟨rr, hrr⟩ : ∃ rr, H.goodG l0_0 = rr := ⟨_, rfl⟩
    rw [hrr] at HG ⊢
    obtain rfl := HG.out
    clear hrr c
    go_enter Try.func45, Try.ntmps45
    go_wp2_with (go_at_call 69; refine (HW.out 0 _ _).mono ?_; rw [c']; rintro e w' ⟨rfl, ⟨m, rfl⟩⟩)
    go_ret
    exact ⟨rfl, pw_below_drewN (below_alloc (Below.refl w.heap.size w) _) m⟩
end Go.Proofs.Ytndkblahnihhjaa.P

namespace Go.Proofs.Ytndkblahnihhjaa.P
open Go.RowKit Go.Proofs.YtndkblahnihhjaaW.PrintWords Go.Proofs.YtndkblahnihhjaaW.PrintLast Go.Proofs.YtndkblahnihhjaaW.PrintMore
attribute [local go_sem] max2_int min2_int max_two min_two max_three min_three max_four min_four
def laws_toGraph.f (k : Nat) (l0_0 : List (List Int)) : Option ((List (List Int))) := (laws_toIntSS.f k l0_0).bind fun t210 => (some t210)
end Go.Proofs.Ytndkblahnihhjaa.P

namespace Go.Proofs.Ytndkblahnihhjaa.P
open Go.RowKit Go.Proofs.YtndkblahnihhjaaW.PrintWords Go.Proofs.YtndkblahnihhjaaW.PrintLast Go.Proofs.YtndkblahnihhjaaW.PrintMore
attribute [local go_sem] max2_int min2_int max_two min_two max_three min_three max_four min_four
def laws_eqGraph.f (k : Nat) (l0_0 : List (List Int)) (l1_0 : List (List Int)) : Option (Bool) := (laws_eqIntSS.f k l0_0 l1_0).bind fun t223 => (if t223 = true then (some true) else (some false))
end Go.Proofs.Ytndkblahnihhjaa.P

namespace Go.Proofs.Ytndkblahnihhjaa.P
open Go.RowKit Go.Proofs.YtndkblahnihhjaaW.PrintWords Go.Proofs.YtndkblahnihhjaaW.PrintLast Go.Proofs.YtndkblahnihhjaaW.PrintMore
attribute [local go_sem] max2_int min2_int max_two min_two max_three min_three max_four min_four
def laws_szGraph.f (k : Nat) (l0_0 : List (List Int)) (a1 : Int) : Option (Int) := (laws_szIntSS.f k l0_0 a1).bind fun t104 => (if t104 < 0 then (some (-1)) else (some t104))
end Go.Proofs.Ytndkblahnihhjaa.P

namespace Go.Proofs.Ytndkblahnihhjaa.Q
open Go.RowKit Go.Proofs.Ytndkblahnihhjaa.P Go.Proofs.Ytndkblahnihhjaa.H Go.Proofs.YtndkblahnihhjaaW.PrintWords
theorem l1In_tell (a b c : Int) : spec_l1In.f a b c = some (decide (b ≤ a) && decide (a ≤ c)) := by
  unfold spec_l1In.f
  by_cases h : a ≥ b
  · rw [if_pos h, decide_eq_true h, Bool.true_and]
  · rw [if_neg h, decide_eq_false h, Bool.false_and]
theorem upAt_yes {l : List Int} {lo hi : Int} {j : Nat} (h0 : lo ≤ l.getD j 0) (h1 : l.getD j 0 ≤ hi) (h2 : j = 0 ∨ l.getD (j - 1) 0 < l.getD j 0) : upAt l lo hi j = true := by
  unfold upAt
  rw [decide_eq_true h0, decide_eq_true h1]
  rcases h2 with h2 | h2
  · rw [decide_eq_true h2]; rfl
  · rw [decide_eq_true h2, Bool.or_true]; rfl
theorem upAt_no {l : List Int} {lo hi : Int} {j : Nat} (h : ¬ (lo ≤ l.getD j 0 ∧ l.getD j 0 ≤ hi ∧ (j = 0 ∨ l.getD (j - 1) 0 < l.getD j 0))) : upAt l lo hi j = false := by
  cases e : upAt l lo hi j with
  | false => rfl
  | true =>
    unfold upAt at e
    simp only [Bool.and_eq_true, Bool.or_eq_true, decide_eq_true_eq] at e
    exact absurd ⟨e.1.1, e.1.2, e.2⟩ h
theorem specGoodGraph_ev (g : List (List Int)) (hg : Small g) : Ev (fun k => spec_GoodGraph.f k g) (goodG g) := by
  have hlen := hg.1
  unfold spec_GoodGraph.f
  have key := down0 (n := g.length) (p := fun i => Ev (fun k => spec_GoodGraph.l0 k (g.length : Int) g (g.length : Int) (i : Int)) (((g.drop i).all fun l => upB l 0 ((g.length : Int) - 1) 0) && (decide (1 ≤ g.length) && decide (g.length ≤ 12)))) ?h0 ?hs
  · refine ev_eq key ?_
    unfold goodG
    rw [List.drop_zero, Bool.and_comm]
  case h0 =>
    refine Ev.step (f := fun _ => some (decide (1 ≤ g.length) && decide (g.length ≤ 12))) (fun k => ?_) ?_
    · simp only [spec_GoodGraph.l0]
      rw [if_neg (by omega), l1In_tell, Option.bind_some]
      congr 1
      rw [Bool.eq_iff_iff]
      simp
      omega
    · simpa using Ev.now _
  case hs =>
    intro i hi ih
    have e : g.drop i = g.getD i [] :: g.drop (i + 1) := by
      rw [List.drop_eq_getElem_cons hi, List.getD_eq_getElem?_getD, List.getElem?_eq_getElem hi]
      rfl
    rw [e, List.all_cons, Bool.and_assoc]
    have hr : rd_L1 g (i : Int) = g.getD i [] := rfl
    refine Ev.step (fun k => by simp only [spec_GoodGraph.l0]; rw [if_pos (by omega), if_pos (by omega), if_pos (by omega), hr]) ?_
    have hll := hg.at hi
    generalize g.getD i [] = l at hll ⊢
    generalize (((g.drop (i + 1)).all fun l => upB l 0 ((g.length : Int) - 1) 0) && (decide (1 ≤ g.length) && decide (g.length ≤ 12))) = R at ih ⊢
    refine down0 (n := l.length) (p := fun j => Ev (fun k => spec_GoodGraph.l1 k (g.length : Int) l g (g.length : Int) (i : Int) l (l.length : Int) (j : Int)) (upB l 0 ((g.length : Int) - 1) j && R)) ?h0' ?hs'
    case h0' =>
      rw [upB_end, Bool.true_and]
      refine Ev.step (fun k => ?_) ih
      simp only [spec_GoodGraph.l1]
      rw [if_neg (by omega), w64 (by omega) (by omega)]
      rfl
    case hs' =>
      intro j hj ih
      rw [upB_step l 0 _ hj, Bool.and_assoc]
      have hx : rd l (j : Int) = l.getD j 0 := rfl
      have stop : ∀ b, upAt l 0 ((g.length : Int) - 1) j = false → b = false → Ev (fun _ => some b) (upAt l 0 ((g.length : Int) - 1) j && (upB l 0 ((g.length : Int) - 1) (j + 1) && R)) := by
        intro b h1 h2
        rw [h1, h2]
        exact Ev.now _
      by_cases c0 : l.getD j 0 < 0
      · refine Ev.step (f := fun _ => some false) (fun k => ?_) (stop _ (upAt_no (by omega)) rfl)
        simp only [spec_GoodGraph.l1]
        rw [if_pos (by omega), if_pos (by omega), if_pos (by omega), hx, if_pos c0]
      · by_cases c1 : l.getD j 0 ≥ (g.length : Int)
        · refine Ev.step (f := fun _ => some false) (fun k => ?_) (stop _ (upAt_no (by omega)) rfl)
          simp only [spec_GoodGraph.l1]
          rw [if_pos (by omega), if_pos (by omega), if_pos (by omega), hx, if_neg c0, if_pos c1]
        · by_cases cj : j = 0
          · have e : upAt l 0 ((g.length : Int) - 1) j = true := upAt_yes (by omega) (by omega) (.inl cj)
            rw [e, Bool.true_and]
            refine Ev.step (fun k => ?_) ih
            simp only [spec_GoodGraph.l1]
            rw [if_pos (by omega), if_pos (by omega), if_pos (by omega), hx, if_neg c0, if_neg c1, if_neg (by omega), w64 (by omega) (by omega)]
            rfl
          · have ew : wrap64 ((j : Int) - 1) = ((j - 1 : Nat) : Int) := by rw [w64 (by omega) (by omega)]; omega
            have hx1 : rd l (wrap64 ((j : Int) - 1)) = l.getD (j - 1) 0 := by rw [ew]; rfl
            by_cases c2 : l.getD (j - 1) 0 ≥ l.getD j 0
            · refine Ev.step (f := fun _ => some false) (fun k => ?_) (stop _ (upAt_no (by omega)) rfl)
              simp only [spec_GoodGraph.l1]
              rw [if_pos (by omega), if_pos (by omega), if_pos (by omega), hx, if_neg c0, if_neg c1, if_pos (by omega), if_pos (by rw [ew]; omega), if_pos (by rw [ew]; omega), hx1, if_pos c2]
            · have e : upAt l 0 ((g.length : Int) - 1) j = true := upAt_yes (by omega) (by omega) (.inr (by omega))
              rw [e, Bool.true_and]
              refine Ev.step (fun k => ?_) ih
              simp only [spec_GoodGraph.l1]
              rw [if_pos (by omega), if_pos (by omega), if_pos (by omega), hx, if_neg c0, if_neg c1, if_pos (by omega), if_pos (by rw [ew]; omega), if_pos (by rw [ew]; omega), hx1, if_neg c2, w64 (by omega) (by omega)]
              rfl
end Go.Proofs.Ytndkblahnihhjaa.Q

namespace Go.Proofs.Ytndkblahnihhjaa.P
open Go.RowKit Go.Proofs.YtndkblahnihhjaaW.PrintWords Go.Proofs.YtndkblahnihhjaaW.PrintLast Go.Proofs.YtndkblahnihhjaaW.PrintMore
attribute [local go_sem] max2_int min2_int max_two min_two max_three min_three max_four min_four
def listTo (bs : List Bool) (i : Nat) : List Int := ((List.range i).filter (fun j => bs.getD j false)).map (fun j : Nat => (j : Int))
theorem listTo_len (bs : List Bool) (i : Nat) : (listTo bs i).length ≤ i := by
  unfold listTo
  rw [List.length_map]
  exact Nat.le_trans (List.length_filter_le _ _) (by rw [List.length_range]; exact Nat.le_refl _)
theorem listTo_step (bs : List Bool) (i : Nat) : listTo bs (i + 1) = if bs.getD i false then listTo bs i ++ [(i : Int)] else listTo bs i := by
  unfold listTo
  rw [List.range_succ, List.filter_append, List.map_append]
  cases h : bs.getD i false with
  | true =>
    rw [if_pos rfl]
    congr 1
    rw [List.filter_cons, h, if_pos rfl]
    rfl
  | false =>
    rw [if_neg (by simp), List.filter_cons, h, if_neg (by simp)]
    simp
set_option maxHeartbeats 8000000 in
set_option maxRecDepth 100000 in
theorem impl_list.calls (gb off : Nat) (bs : List Bool) (w : World) (hr : w.rangeAt gb off (bs.map Value.bool)) (hb : bs.length = 12) :
    Calls Try.prog 51 #[.pointer (some ⟨gb, off, none⟩)] w fun e w' => ∃ v0_ : Value, e = .returned v0_ ∧ Kd.R (Kd.int .i64) 3 w' w.heap.size (fun _ => True) v0_ (listTo bs 12) ∧ Below w.heap.size w w' := by
  have HR := Aside0.mk hr
  have HL := Aside0.mk hb
  clear hr hb
  have HO := Aside0.mk (H.Own.nil w)
  go_enter Try.func51, Try.ntmps51
  go_wp2_with ((with_reducible refine gate_dst (N := 6) rfl ?_); refine Kd.R_lit (Kd.int .i64) (w0 := w) w.heap.size 3 ?bxg (N := 6) ?bxd (xs := ([] : List Int)) (inner := []) (ok := fun _ => True) (okp := fun _ => True) ?bxr ?bxp (fun _ hk => hk) trivial HO.out.below HO.out.size (by simp) ?_; (case bxd => rfl); (case bxg => rfl); (case bxr => first | (go_simp; done) | (go_simp; rfl)); (case bxp => exact Reps.none _ _); intro vo w_ ho_ hb_ hg_ hnew_; replace HO := Aside0.mk (HO.out.grown hg_ (fun k hk => by cases hk)); have HV := Aside0.mk ho_; clear ho_ hb_ hg_ hnew_)
  go_loopw [8, 3] (fun v8 v3 wr => ∃ i : Nat, v8 = .int .i64 i ∧ i ≤ 12 ∧ Aside0 (Kd.R (Kd.int .i64) 3 wr w.heap.size (fun _ => True) v3 (listTo bs i)) ∧ Aside0 (H.Own w wr [])) (fun v8 _ _ => 12 - (intOf v8).toNat)
  case atStart => exact ⟨0, rfl, Nat.zero_le _, HV, HO⟩
  case round =>
    clear HO HV
    obtain ⟨i, rfl, hi, HV, HO⟩ := hrel
    by_cases hlt : i < 12
    · have hc0 : w.cell? ⟨gb, off + i, none⟩ = some (.bool (bs.getD i false)) := HR.out i _ (by rw [List.getElem?_map, H.getD_some false (by rw [HL.out]; exact hlt)]; rfl)
      have hc := HO.out.old hc0
      have hst := listTo_step bs i
      have hi12 : (i : Int) < 12 := by omega
      clear hc0
      cases hbi : bs.getD i false with
      | true =>
        rw [hbi] at hc hst
        rw [if_pos rfl] at hst
        have HST := Aside0.mk hst
        clear hbi hst
        go_wp2
        go_quiet (fail)
        have HLL := Aside0.mk (listTo_len bs i)
        generalize hq_ : World.drewN wr _ = wq; have hd_ : Drawn0 wr wq := ⟨_, hq_.symm⟩; clear hq_; replace HO := Aside0.mk (HO.out.drawn hd_); replace HV := Aside0.mk (Kd.R_below HV.out hd_.below); clear hd_
        go_wp2_with ((with_reducible refine gate_builtin (b := .append) (xs := #[.tmp 15, .tmp 17]) rfl ?_); at_builtin; refine Kd.R_append (Kd.int .i64) (w0 := w) w.heap.size rfl (.tmp 15) (.tmp 17) 32 3 (.int .i64 0) 8 rfl Try.underlying32 info3 rfl (by decide) (by omega) u3 (listTo bs i) (i : Int) [.int .i64 (i : Int)] (fun _ => True) (fun _ => False) rfl rfl ?aP (fun _ hk => hk.elim) ?aF ?aO ?aB ?aS ?aL ?_; (case aP => exact rfl); (case aF => exact fun _ _ => trivial); (case aO => exact HV.out); (case aB => exact HO.out.below); (case aS => exact HO.out.size); (case aL => have := HLL.out; omega); intro v1 w_ ho_ hb_ hg_ hat_; replace HO := Aside0.mk (HO.out.row HV.out (Nat.le_refl _) hg_ (by simp)); replace HV := Aside0.mk ho_; clear ho_ hb_ hg_ hat_)
        go_roundw
        case rel => exact ⟨i + 1, by go_num, by omega, ⟨by rw [HST.out]; exact HV.out⟩, HO⟩
        case measure => simp [intOf]; omega
      | false =>
        rw [hbi] at hc hst
        rw [if_neg (by simp)] at hst
        have HST := Aside0.mk hst
        clear hbi hst
        go_wp2
        go_quiet (fail)
        generalize hq_ : World.drewN wr _ = wq; have hd_ : Drawn0 wr wq := ⟨_, hq_.symm⟩; clear hq_; replace HO := Aside0.mk (HO.out.drawn hd_); replace HV := Aside0.mk (Kd.R_below HV.out hd_.below); clear hd_
        go_wp2
        go_roundw
        case rel => exact ⟨i + 1, by go_num, by omega, ⟨by rw [HST.out]; exact HV.out⟩, HO⟩
        case measure => simp [intOf]; omega
    · have hE : i = 12 := by omega
      subst hE
      go_wp2
      go_ret
      exact ⟨_, rfl, HV.out, HO.out.below⟩
end Go.Proofs.Ytndkblahnihhjaa.P

namespace Go.Proofs.Ytndkblahnihhjaa.Q
open Go.RowKit Go.Proofs.Ytndkblahnihhjaa.P Go.Proofs.Ytndkblahnihhjaa.H Go.Proofs.YtndkblahnihhjaaW.PrintWords
theorem srt_sub_len : ∀ {b a : List Int}, Srt a → Srt b → (∀ y ∈ a, y ∈ b) → a.length ≤ b.length ∧ (a.length = b.length → a = b)
  | [], a, _, _, h => by
    have : a = [] := List.eq_nil_iff_forall_not_mem.2 (fun y hy => by have := h y hy; simp at this)
    subst this
    simp
  | y :: b, [], _, _, _ => by simp
  | y :: b, x :: a, ha, hb, h => by
    have ha' := List.pairwise_cons.1 ha
    have hb' := List.pairwise_cons.1 hb
    by_cases e : x = y
    · subst e
      have ih := srt_sub_len (b := b) (a := a) ha'.2 hb'.2 (fun z hz => by
        rcases List.mem_cons.1 (h z (by simp [hz])) with e | e
        · have := ha'.1 z hz; omega
        · exact e)
      refine ⟨by simp only [List.length_cons]; omega, fun hl => ?_⟩
      rw [ih.2 (by simp only [List.length_cons] at hl; omega)]
    · have hx : x ∈ b := by
        rcases List.mem_cons.1 (h x (by simp)) with e2 | e2
        · exact absurd e2 e
        · exact e2
      have hxy := hb'.1 x hx
      have ih := srt_sub_len (b := b) (a := x :: a) ha hb'.2 (fun z hz => by
        rcases List.mem_cons.1 (h z hz) with e2 | e2
        · rcases List.mem_cons.1 hz with e3 | e3
          · omega
          · have := ha'.1 z e3; omega
        · exact e2)
      have := ih.1
      exact ⟨by simp only [List.length_cons] at *; omega, fun hl => by simp only [List.length_cons] at *; omega⟩
theorem listTo_mem (bs : List Bool) (n : Nat) (y : Int) : y ∈ listTo bs n ↔ ∃ j, j < n ∧ y = (j : Int) ∧ bs.getD j false = true := by
  unfold listTo
  simp only [List.mem_map, List.mem_filter, List.mem_range]
  constructor
  · rintro ⟨j, ⟨h1, h2⟩, rfl⟩
    exact ⟨j, h1, rfl, h2⟩
  · rintro ⟨j, h1, rfl, h2⟩
    exact ⟨j, ⟨h1, h2⟩, rfl⟩
theorem listTo_srt (bs : List Bool) : ∀ n, Srt (listTo bs n)
  | 0 => by simp [listTo, Srt]
  | n + 1 => by
    rw [listTo_step]
    split
    · unfold Srt
      rw [List.pairwise_append]
      refine ⟨listTo_srt bs n, by simp, fun x hx y hy => ?_⟩
      obtain ⟨j, h1, rfl, _⟩ := (listTo_mem bs n x).1 hx
      rw [List.mem_singleton.1 hy]
      omega
    · exact listTo_srt bs n
theorem srt_len12 {l : List Int} (h : Srt l) (hb : ∀ y ∈ l, 0 ≤ y ∧ y < 12) : l.length ≤ 12 := by
  have h1 := srt_sub_len (b := (List.range 12).map (fun j : Nat => (j : Int))) h (by unfold Srt; decide) (fun y hy => by
    have := hb y hy
    exact List.mem_map.2 ⟨y.toNat, List.mem_range.2 (by omega), by omega⟩)
  have := h1.1
  simpa using this
theorem goodG_small {g : List (List Int)} (hG : goodG g = true) : Small g := by
  have hr := goodG_rows hG
  refine ⟨by omega, fun l hl => ?_⟩
  have h := hG
  unfold goodG at h
  simp only [Bool.and_eq_true, decide_eq_true_eq, List.all_eq_true] at h
  have hs : Srt l := by
    have hu := h.2 l hl
    refine List.pairwise_iff_getElem.2 ?_
    have hstep : ∀ j, j + 1 < l.length → l.getD j 0 < l.getD (j + 1) 0 := by
      intro j hj
      have h1 := of_decide_eq_true hu (j + 1) hj (Nat.zero_le _)
      unfold upAt at h1
      simp only [Bool.and_eq_true, Bool.or_eq_true, decide_eq_true_eq] at h1
      rcases h1.2 with h2 | h2
      · omega
      · exact h2
    intro i j hi hj hij
    have : ∀ d, i + d + 1 < l.length → l.getD i 0 < l.getD (i + d + 1) 0 := by
      intro d
      induction d with
      | zero => intro h; exact hstep i h
      | succ d ih => intro h; exact Int.lt_trans (ih (by omega)) (hstep (i + d + 1) h)
    have := this (j - i - 1) (by omega)
    rw [show i + (j - i - 1) + 1 = j by omega, List.getD_eq_getElem?_getD, List.getElem?_eq_getElem hi, List.getD_eq_getElem?_getD, List.getElem?_eq_getElem hj] at this
    exact this
  have := srt_len12 hs (fun y hy => by have := hr.2 l hl y hy; omega)
  omega
theorem mem12 {g : List (List Int)} (hG : goodG g = true) {wo y : Int} (h : Rch g wo 0 y) : 0 ≤ y ∧ y < 12 := by
  have hr := goodG_rows hG
  have := h.rng hG (by decide) (by omega)
  omega
structure Snd (g : List (List Int)) (wo : Int) (acc : List Int) : Prop where
  srt : Srt acc
  snd : ∀ y ∈ acc, Rch g wo 0 y
theorem Snd.len {g : List (List Int)} {wo : Int} {acc : List Int} (hG : goodG g = true) (h : Snd g wo acc) : acc.length ≤ 12 := srt_len12 h.srt (fun y hy => mem12 hG (h.snd y hy))
theorem Snd.put {g : List (List Int)} {wo y : Int} {acc : List Int} (h : Snd g wo acc) (hy : Rch g wo 0 y) : Snd g wo (putL acc y) := ⟨putL_srt y acc h.srt, fun z hz => by
  rcases (putL_mem y acc z).1 hz with e | e
  · exact h.snd z e
  · rw [e]; exact hy⟩
theorem reach_row {g : List (List Int)} (hG : goodG g = true) {wo : Int} {i : Nat} (hi : i < g.length) (n0 : Int) (row : List Int) (hrow : row = g.getD i []) (hx : Rch g wo 0 (i : Int)) :
    ∀ (d m : Nat) (acc : List Int), m + d = row.length → Snd g wo acc → ∃ acc', Snd g wo acc' ∧ (∀ y ∈ acc, y ∈ acc') ∧ (∀ y ∈ row.drop m, y ≠ wo → y ∈ acc') ∧
      ∀ r, Ev (fun k => spec_l10Reach.l1 k wo acc' n0 g (g.length : Int) ((i : Int) + 1) g) r → Ev (fun k => spec_l10Reach.l2 k wo acc n0 g (g.length : Int) (i : Int) row (row.length : Int) (m : Int) g) r := by
  have hr := goodG_rows hG
  intro d
  induction d with
  | zero =>
    intro m acc hm h
    refine ⟨acc, h, fun _ h => h, fun y hy => by rw [List.drop_of_length_le (by omega)] at hy; simp at hy, fun r hr => ?_⟩
    refine Ev.step (fun k => ?_) hr
    simp only [spec_l10Reach.l2]
    rw [if_neg (by omega), w64 (by omega) (by omega)]
  | succ d ih =>
    intro m acc hm h
    have hml : m < row.length := by omega
    have hsm := (goodG_small hG).at hi
    rw [← hrow] at hsm
    have hdrop := drop_eq hml
    have hval : rd row (m : Int) = row.getD m 0 := rfl
    have hmem : row.getD m 0 ∈ row := by
      rw [List.getD_eq_getElem?_getD, List.getElem?_eq_getElem hml]
      exact List.getElem_mem hml
    by_cases e : row.getD m 0 = wo
    · obtain ⟨acc', h1, h2, h3, h4⟩ := ih (m + 1) acc (by omega) h
      refine ⟨acc', h1, h2, fun y hy hw => ?_, fun r hr => ?_⟩
      · rw [hdrop] at hy
        rcases List.mem_cons.1 hy with q | q
        · exact absurd (q.trans e) hw
        · exact h3 y q hw
      · refine Ev.step (fun k => ?_) (h4 r hr)
        simp only [spec_l10Reach.l2]
        rw [if_pos (by omega), if_pos (by omega), if_pos (by omega), hval, if_pos e, w64 (by omega) (by omega)]
        rfl
    · have hry : Rch g wo 0 (row.getD m 0) := .on hx (by rw [Int.toNat_natCast, ← hrow]; exact hmem) e
      obtain ⟨acc', h1, h2, h3, h4⟩ := ih (m + 1) (putL acc (row.getD m 0)) (by omega) (h.put hry)
      refine ⟨acc', h1, fun y hy => h2 y ((putL_mem _ _ _).2 (.inl hy)), fun y hy hw => ?_, fun r hr => ?_⟩
      · rw [hdrop] at hy
        rcases List.mem_cons.1 hy with q | q
        · exact h2 y ((putL_mem _ _ _).2 (.inr q))
        · exact h3 y q hw
      · have hh := h4 r hr
        rw [show ((m + 1 : Nat) : Int) = (m : Int) + 1 from rfl] at hh
        refine Ev.step (fun k => ?_) ((put_ev acc (row.getD m 0) (by have := h.len hG; omega)).bind (f := fun k v => spec_l10Reach.l2 k wo v n0 g (g.length : Int) (i : Int) row (row.length : Int) ((m : Int) + 1) g) hh)
        simp only [spec_l10Reach.l2]
        rw [if_pos (by omega), if_pos (by omega), if_pos (by omega), hval, if_neg e, w64 (by omega) (by omega)]
theorem reach_pass {g : List (List Int)} (hG : goodG g = true) {wo : Int} (n0 : Int) :
    ∀ (d i : Nat) (acc : List Int), i + d = g.length → Snd g wo acc → ∃ acc', Snd g wo acc' ∧ (∀ y ∈ acc, y ∈ acc') ∧ (∀ j : Nat, i ≤ j → j < g.length → (j : Int) ∈ acc → ∀ y ∈ g.getD j [], y ≠ wo → y ∈ acc') ∧
      ∀ r, Ev (fun k => if (acc'.length : Int) = n0 then some acc' else spec_l10Reach.l0 k wo acc' g) r → Ev (fun k => spec_l10Reach.l1 k wo acc n0 g (g.length : Int) (i : Int) g) r := by
  have hr := goodG_rows hG
  intro d
  induction d with
  | zero =>
    intro i acc hi h
    refine ⟨acc, h, fun _ h => h, fun j h1 h2 => by omega, fun r hr => ?_⟩
    refine Ev.step (fun k => ?_) hr
    simp only [spec_l10Reach.l1]
    rw [if_neg (by omega)]
  | succ d ih =>
    intro i acc hi h
    have hil : i < g.length := by omega
    have hlen := h.len hG
    have hhas := has_ev acc (i : Int) (by omega)
    have er : rd_L1 g (i : Int) = g.getD i [] := rfl
    by_cases e : (i : Int) ∈ acc
    · obtain ⟨a1, q1, q2, q3, q4⟩ := reach_row hG hil n0 (g.getD i []) rfl (h.snd _ e) (g.getD i []).length 0 acc (by omega) h
      obtain ⟨acc', h1, h2, h3, h4⟩ := ih (i + 1) a1 (by omega) q1
      refine ⟨acc', h1, fun y hy => h2 y (q2 y hy), fun j j1 j2 hj y hy hw => ?_, fun r hr => ?_⟩
      · by_cases ej : j = i
        · subst ej
          exact h2 y (q3 y (by rw [List.drop_zero]; exact hy) hw)
        · exact h3 j (by omega) j2 (q2 _ hj) y hy hw
      · refine Ev.step (fun k => ?_) (hhas.bind (f := fun k v => if v = true then spec_l10Reach.l2 k wo acc n0 g (g.length : Int) (i : Int) (g.getD i []) ((g.getD i []).length : Int) 0 g else spec_l10Reach.l1 k wo acc n0 g (g.length : Int) ((i : Int) + 1) g) ?_)
        · simp only [spec_l10Reach.l1]
          rw [if_pos (by omega), if_pos (by omega), if_pos (by omega), er, w64 (by omega) (by omega)]
        · rw [decide_eq_true e]
          refine Ev.congr (fun k => by rw [if_pos rfl]; rfl) (q4 r ?_)
          exact h4 r hr
    · obtain ⟨acc', h1, h2, h3, h4⟩ := ih (i + 1) acc (by omega) h
      refine ⟨acc', h1, h2, fun j j1 j2 hj y hy hw => ?_, fun r hr => ?_⟩
      · by_cases ej : j = i
        · subst ej
          exact absurd hj e
        · exact h3 j (by omega) j2 hj y hy hw
      · refine Ev.step (fun k => ?_) (hhas.bind (f := fun k v => if v = true then spec_l10Reach.l2 k wo acc n0 g (g.length : Int) (i : Int) (g.getD i []) ((g.getD i []).length : Int) 0 g else spec_l10Reach.l1 k wo acc n0 g (g.length : Int) ((i : Int) + 1) g) ?_)
        · simp only [spec_l10Reach.l1]
          rw [if_pos (by omega), if_pos (by omega), if_pos (by omega), er, w64 (by omega) (by omega)]
        · rw [decide_eq_false e]
          refine Ev.congr (fun k => by rw [if_neg (by simp)]; rfl) (h4 r hr)
theorem listTo_reach {g : List (List Int)} (hG : goodG g = true) {wo : Int} (y : Int) : y ∈ listTo (reachF g 0 wo) 12 ↔ Rch g wo 0 y := by
  have hr := goodG_rows hG
  rw [listTo_mem]
  constructor
  · rintro ⟨j, hj, rfl, hb⟩
    exact (reach_iff hG (by decide) (by omega) hj).1 hb
  · intro h
    have := mem12 hG h
    refine ⟨y.toNat, by omega, by omega, ?_⟩
    rw [reach_iff hG (by decide) (by omega) (by omega), Int.toNat_of_nonneg this.1]
    exact h
theorem reach_all {g : List (List Int)} (hG : goodG g = true) {wo : Int} (hw : wo ≠ 0) : ∀ (m : Nat) (acc : List Int), Snd g wo acc → (0 : Int) ∈ acc → 13 ≤ acc.length + m → Ev (fun k => spec_l10Reach.l0 k wo acc g) (listTo (reachF g 0 wo) 12) := by
  intro m
  induction m with
  | zero => intro acc h _ hm; have := h.len hG; omega
  | succ m ih =>
    intro acc h h0 hm
    obtain ⟨acc', h1, h2, h3, h4⟩ := reach_pass hG (acc.length : Int) g.length 0 acc (by omega) h
    refine Ev.step (fun k => by simp only [spec_l10Reach.l0]; rfl) (h4 _ ?_)
    have hsub := srt_sub_len h.srt h1.srt h2
    by_cases e : acc'.length = acc.length
    · have eq := hsub.2 e.symm
      subst eq
      refine Ev.congr (fun k => by rw [if_pos rfl]) ?_
      have : acc = listTo (reachF g 0 wo) 12 := by
        refine srt_ext h.srt (listTo_srt _ _) (fun y => ?_)
        rw [listTo_reach hG]
        constructor
        · exact h.snd y
        · intro hy
          induction hy with
          | here _ => exact h0
          | on hx hyx hyw ih2 =>
            have hrx := hx.rng hG (by decide) (by have := goodG_rows hG; omega)
            exact h3 _ (Nat.zero_le _) (by omega) (by rw [Int.toNat_of_nonneg hrx.1]; exact ih2) _ hyx hyw
      rw [this]
      exact Ev.now _
    · refine Ev.congr (fun k => by rw [if_neg (by omega)]) (ih acc' h1 (h2 0 h0) (by omega))
theorem specReach_ev {g : List (List Int)} (hG : goodG g = true) (wo : Int) : Ev (fun k => spec_l10Reach.f k g wo) (listTo (reachF g 0 wo) 12) := by
  unfold spec_l10Reach.f
  by_cases e : wo = 0
  · refine Ev.congr (fun k => by rw [if_pos e]) ?_
    have : listTo (reachF g 0 wo) 12 = [] := by
      unfold reachF
      rw [if_pos e.symm]
      rfl
    rw [this]
    exact Ev.now _
  · refine Ev.congr (fun k => by rw [if_neg e]) (reach_all hG e 12 [0] ⟨by simp [Srt], fun y hy => by rw [List.mem_singleton.1 hy]; exact .here (fun h => e h.symm)⟩ (by simp) (by simp))
theorem listTo_small (bs : List Bool) : (listTo bs 12).length ≤ 1048576 := by have := listTo_len bs 12; omega
end Go.Proofs.Ytndkblahnihhjaa.Q

namespace Go.Proofs.Ytndkblahnihhjaa.H
open Go.RowKit Go.Proofs.YtndkblahnihhjaaW.PrintWords Go.Proofs.YtndkblahnihhjaaW.PrintMore
theorem S_holeG {ti te base : Nat} {W : World} {ok : Nat → Prop} {g n cap : Nat} {xs : List (List Int)} (h : Kd.S (Kd.slice ti (Kd.int .i64)) te W base ok (.slice (some ⟨g, 0, none⟩) n cap) xs) {i : Nat} (hi : i < n) :
    ∃ oki u, W.cell? ⟨g, i, none⟩ = some u ∧ (Kd.int .i64).R ti W base oki u (xs.getD i []) ∧ (∀ k, oki k → ok k) ∧ Kd.H (Kd.slice ti (Kd.int .i64)) te W base ok (.slice (some ⟨g, 0, none⟩) n cap) xs (i : Int) oki [u] := by
  obtain ⟨oki, c1, hcl, hM, hcc, hfr, hoki, hH⟩ := Kd.S_elem h [] (i : Int) (by omega) (by omega)
  obtain ⟨u, rfl, hR⟩ := hM
  rw [Int.toNat_natCast] at hR hcc
  have hu := hcc 0 u rfl
  rw [show i * (Kd.slice ti (Kd.int .i64)).sz + 0 = i from Nat.mul_one i] at hu
  exact ⟨oki, u, hu, hR, fun k hk => (hoki k hk).1, hH⟩
theorem hole_keptG {ti te base g n cap : Nat} {W W' : World} {ok S : Nat → Prop} {xs : List (List Int)} {i : Int} {oki : Nat → Prop} {u : Value} (hH : Kd.H (Kd.slice ti (Kd.int .i64)) te W base ok (.slice (some ⟨g, 0, none⟩) n cap) xs i oki [u]) (hk : Kept W W' S) (hs : ∀ k, S k → oki k) :
    Kd.H (Kd.slice ti (Kd.int .i64)) te W' base ok (.slice (some ⟨g, 0, none⟩) n cap) xs i (fun k => oki k ∨ ok k ∧ W.heap.size ≤ k) [u] := Kd.H_kept (Kd.H_widen hH) hk (fun k _ hn hs' => hn (.inl (hs k hs')))
theorem R_keptB {e base : Nat} {W W' : World} {ok : Nat → Prop} {u v : Value} {ys : List Int} (hv : (Kd.int .i64).R e W base ok v ys) (hk : Kept W W' (fun k => some k = u.ownBlock)) (hne : ∀ k, v.ownBlock = some k → some k ≠ u.ownBlock) : (Kd.int .i64).R e W' base ok v ys :=
  Kd.R_mono (Kd.R_step (Kd.R_tight rfl hv) (fun k hkv hlt => hk.2 k hlt (hne k hkv.symm))) (fun k hkv => hv.1 k hkv.symm)
theorem Own.keptU {e base : Nat} {w W W' : World} {L : List (Nat × Array Value × TypeId)} {ok : Nat → Prop} {u : Value} {ys : List Int} (h : Own w W L) (hv : (Kd.int .i64).R e W base ok u ys) (hk : Kept W W' (fun k => some k = u.ownBlock)) (hb : Below w.heap.size w W') (hne : ∀ x ∈ L, x.2.2 ≠ e) : Own w W' L :=
  ⟨hb, h.base, fun x hx => (hk.2 _ (h.lt x hx) (Kd.R_ne hv (h.blk x hx) (fun e' => hne x hx e'.symm))).trans (h.blk x hx), h.ne⟩
section
variable {P : Program} {ops : Array Oper} {rest : List Oper} {o : Oper} {a : Act} {Q : Exit → Act → World → Prop}
variable {w W : World} {L : List (Nat × Array Value × TypeId)}
theorem own_eputG {ti te g n cap : Nat} (hO : Own w W L) {ok : Nat → Prop} {xs : List (List Int)} {i : Nat} {oki ok2 : Nat → Prop} {u v : Value} {l : List Int} {base2 : Nat}
    (hH : Kd.H (Kd.slice ti (Kd.int .i64)) te W w.heap.size ok (.slice (some ⟨g, 0, none⟩) n cap) xs (i : Int) oki [u]) (hv : (Kd.int .i64).R ti W base2 ok2 v l) (hb2 : w.heap.size ≤ base2) (hin : ∀ k, v.ownBlock = some k → oki k)
    (hgd : o.guard = none) (hN : o.dst = none) {t : TypeId} {p x : Operand} (ho : o.op = .store t p x) (haddr : a.eval p = .pointer (some ⟨g, i, none⟩)) (hx : a.eval x = v) (ht : (P.info? t).map (·.size) = some 1) (hi : i < n) (hg0 : w.heap.size ≤ g) (hgt : ∃ cells, W.heap[g]? = some (.cells cells te (0, 0))) (hne : ∀ y ∈ L, y.2.2 ≠ te)
    (h : ∀ w1, Own w w1 L → Kd.S (Kd.slice ti (Kd.int .i64)) te w1 w.heap.size ok (.slice (some ⟨g, 0, none⟩) n cap) (xs.set i l) → W.grownBy w1 (some g) → wpList P ops Q rest a w1) : wpList P ops Q (o :: rest) a W := by
  obtain ⟨A_, c_, e_⟩ := Kd.R_slice hv
  have hvo : v.cells.toList = [v] := by rw [e_]; rfl
  have hone : ∀ q ∈ [v], q.oneCell' = true := by rw [e_]; simp [Value.oneCell']
  refine Kd.H_store (Kd.slice ti (Kd.int .i64)) (w0 := w) w.heap.size hN hgd t p x ho te (i : Int) 0 xs l v [v] [u] ok oki (fun k => some k = v.ownBlock) haddr (by rw [Int.toNat_natCast]; show i = i * 1 + 0; omega) hx hvo (by rw [ht]; rfl) hone hH (by omega) (by omega) (by show 0 + 1 ≤ 1; omega) (Kd.M_row (Kd.R_tight rfl (Kd.R_lower hv hb2))) (fun k hk => hin k hk.symm) hO.below ?_
  intro w1 hs hb hg
  rw [Int.toNat_natCast] at hs
  refine h w1 (hO.grown hg (fun k hk => ?_)) hs hg
  injection hk with hk
  subst hk
  refine ⟨hg0, fun y hy e => ?_⟩
  obtain ⟨cells, hc⟩ := hgt
  have := hO.blk y hy
  rw [e, hc] at this
  injection this with this
  injection this with _ this
  exact hne y hy this.symm
end
end Go.Proofs.Ytndkblahnihhjaa.H

namespace Go.Proofs.Ytndkblahnihhjaa.Q
open Go.RowKit Go.Proofs.Ytndkblahnihhjaa.P Go.Proofs.Ytndkblahnihhjaa.H Go.Proofs.YtndkblahnihhjaaW.PrintWords
structure Rel (n : Nat) (mem : Nat → Int → Prop) (xs : List (List Int)) : Prop where
  len : xs.length = n
  srt : ∀ b, b < n → Srt (xs.getD b [])
  mem : ∀ b, b < n → ∀ y, y ∈ xs.getD b [] ↔ mem b y
theorem Rel.congr {n : Nat} {m m' : Nat → Int → Prop} {xs : List (List Int)} (h : Rel n m xs) (e : ∀ b, b < n → ∀ y, m b y ↔ m' b y) : Rel n m' xs := ⟨h.len, h.srt, fun b hb y => (h.mem b hb y).trans (e b hb y)⟩
theorem Rel.nil (n : Nat) {m : Nat → Int → Prop} (e : ∀ b, b < n → ∀ y, ¬ m b y) : Rel n m (List.replicate n []) := by
  have he : ∀ b, (List.replicate n ([] : List Int)).getD b [] = [] := by
    intro b
    rw [List.getD_eq_getElem?_getD, List.getElem?_replicate]
    split <;> rfl
  exact ⟨by simp, fun b _ => by rw [he]; exact List.Pairwise.nil, fun b hb y => by rw [he]; simp [e b hb y]⟩
theorem getD_setL {xs : List (List Int)} {k b : Nat} {v : List Int} (hk : k < xs.length) : (xs.set k v).getD b [] = if b = k then v else xs.getD b [] := by
  by_cases e : b = k
  · subst e
    rw [if_pos rfl, List.getD_eq_getElem?_getD, List.getElem?_set_self hk]
    rfl
  · rw [if_neg e, List.getD_eq_getElem?_getD, List.getElem?_set_ne (fun h => e h.symm), List.getD_eq_getElem?_getD]
theorem Rel.put {n : Nat} {m : Nat → Int → Prop} {xs : List (List Int)} (h : Rel n m xs) {k : Nat} (hk : k < n) (x : Int) : Rel n (fun b y => m b y ∨ (b = k ∧ y = x)) (xs.set k (putL (xs.getD k []) x)) := by
  have hkl : k < xs.length := by rw [h.len]; exact hk
  refine ⟨by rw [List.length_set]; exact h.len, fun b hb => ?_, fun b hb y => ?_⟩
  · rw [getD_setL hkl]
    split
    · exact putL_srt _ _ (h.srt k hk)
    · exact h.srt b hb
  · rw [getD_setL hkl]
    by_cases e : b = k
    · subst e
      rw [if_pos rfl, putL_mem, h.mem b hb]
      simp
    · rw [if_neg e, h.mem b hb]
      simp [e]
theorem Rel.uniq {n : Nat} {m : Nat → Int → Prop} {xs ys : List (List Int)} (h : Rel n m xs) (h' : Rel n m ys) : xs = ys := by
  refine List.ext_getElem (by rw [h.len, h'.len]) (fun b h1 h2 => ?_)
  have hb : b < n := by rw [← h.len]; exact h1
  have e1 : xs.getD b [] = xs[b] := by rw [List.getD_eq_getElem?_getD, List.getElem?_eq_getElem h1]; rfl
  have e2 : ys.getD b [] = ys[b] := by rw [List.getD_eq_getElem?_getD, List.getElem?_eq_getElem h2]; rfl
  rw [← e1, ← e2]
  exact srt_ext (h.srt b hb) (h'.srt b hb) (fun y => (h.mem b hb y).trans (h'.mem b hb y).symm)
theorem Rel.len12 {n : Nat} {m : Nat → Int → Prop} {xs : List (List Int)} (h : Rel n m xs) (hm : ∀ b, b < n → ∀ y, m b y → 0 ≤ y ∧ y < 12) {b : Nat} (hb : b < n) : (xs.getD b []).length ≤ 12 := srt_len12 (h.srt b hb) (fun y hy => hm b hb y ((h.mem b hb y).1 hy))
theorem rel_mat (f : Nat → Nat → Bool) (n : Nat) : Rel n (fun b y => ∃ j : Nat, j < 12 ∧ y = (j : Int) ∧ f b j = true) ((matF f n).map (fun r => listTo r 12)) := by
  have he : ∀ b, b < n → ((matF f n).map (fun r => listTo r 12)).getD b [] = listTo (rowF (f b)) 12 := by
    intro b hb
    unfold matF
    rw [List.getD_eq_getElem?_getD, List.getElem?_map, List.getElem?_map, List.getElem?_range hb]
    rfl
  refine ⟨by rw [List.length_map, matF_len], fun b hb => by rw [he b hb]; exact listTo_srt _ _, fun b hb y => ?_⟩
  rw [he b hb, listTo_mem]
  constructor
  · rintro ⟨j, h1, h2, h3⟩
    exact ⟨j, h1, h2, by rwa [rowF_get h1] at h3⟩
  · rintro ⟨j, h1, h2, h3⟩
    exact ⟨j, h1, h2, by rwa [rowF_get h1]⟩
def domL (g : List (List Int)) : List (List Int) := (domF g).map (fun r => listTo r 12)
def domM (g : List (List Int)) (b : Nat) (y : Int) : Prop := (y ∈ listTo (reachF g 0 (-1)) 12) ∧ ((b : Int) ∈ listTo (reachF g 0 (-1)) 12) ∧ ¬ (b : Int) ∈ listTo (reachF g 0 y) 12
theorem reach_bit {g : List (List Int)} (hG : goodG g = true) (wo : Int) {j : Nat} (hj : j < 12) : (j : Int) ∈ listTo (reachF g 0 wo) 12 ↔ (reachF g 0 wo).getD j false = true := by
  rw [listTo_mem]
  constructor
  · rintro ⟨i, _, e, h⟩
    rwa [show j = i by omega]
  · intro h
    exact ⟨j, hj, rfl, h⟩
theorem domL_rel {g : List (List Int)} (hG : goodG g = true) : Rel g.length (domM g) (domL g) := by
  have hr := goodG_rows hG
  refine (rel_mat _ _).congr (fun b hb y => ?_)
  constructor
  · rintro ⟨j, h1, rfl, h2⟩
    unfold domV at h2
    simp only [Bool.and_eq_true, decide_eq_true_eq, Bool.not_eq_true'] at h2
    exact ⟨(reach_bit hG _ h1).2 h2.2.1, (reach_bit hG _ (by omega)).2 h2.2.2.1, fun h => by rw [reach_bit hG _ (by omega), h2.2.2.2] at h; cases h⟩
  · rintro ⟨h1, h2, h3⟩
    have hy := (listTo_reach hG y).1 h1
    have hyr := hy.rng hG (by decide) (by omega)
    refine ⟨y.toNat, by omega, by omega, ?_⟩
    have e : ((y.toNat : Nat) : Int) = y := by omega
    unfold domV
    simp only [Bool.and_eq_true, decide_eq_true_eq, Bool.not_eq_true']
    refine ⟨by omega, (reach_bit hG _ (by omega)).1 (by rw [e]; exact h1), (reach_bit hG _ (by omega)).1 h2, ?_⟩
    rw [e]
    cases hb2 : (reachF g 0 y).getD b false with
    | false => rfl
    | true => exact absurd ((reach_bit hG _ (by omega)).2 hb2) h3
def prdL (g : List (List Int)) : List (List Int) := (prdF g).map (fun r => listTo r 12)
def prdM (g : List (List Int)) (x : Nat) (y : Int) : Prop := (y ∈ listTo (reachF g 0 (-1)) 12) ∧ (x : Int) ∈ g.getD y.toNat []
theorem prdL_rel {g : List (List Int)} (hG : goodG g = true) : Rel g.length (prdM g) (prdL g) := by
  have hr := goodG_rows hG
  refine (rel_mat _ _).congr (fun x hx y => ?_)
  constructor
  · rintro ⟨j, h1, rfl, h2⟩
    unfold prdV at h2
    simp only [Bool.and_eq_true, decide_eq_true_eq] at h2
    exact ⟨(reach_bit hG _ h1).2 h2.2.2, by rw [Int.toNat_natCast]; exact h2.2.1⟩
  · rintro ⟨h1, h2⟩
    have hy := (listTo_reach hG y).1 h1
    have hyr := hy.rng hG (by decide) (by omega)
    refine ⟨y.toNat, by omega, by omega, ?_⟩
    unfold prdV
    simp only [Bool.and_eq_true, decide_eq_true_eq]
    exact ⟨by omega, h2, (reach_bit hG _ (by omega)).1 (by rw [show ((y.toNat : Nat) : Int) = y by omega]; exact h1)⟩
end Go.Proofs.Ytndkblahnihhjaa.Q

namespace Go.Proofs.Ytndkblahnihhjaa.H
open Go.RowKit Go.Proofs.YtndkblahnihhjaaW.PrintWords
def froE (g : List (List Int)) (x y p : Nat) : Bool := (decide (p < g.length) && prdV g y p) && ((decide (x < g.length) && domV g p x) && (decide (x = y) || !(decide (x < g.length) && domV g y x)))
def froV (g : List (List Int)) (x y : Nat) : Bool := decide (y < g.length) && (List.range 12).any (froE g x y)
def froF (g : List (List Int)) : List (List Bool) := matF (froV g) g.length
def froTo (g : List (List Int)) (x y p : Nat) : List (List Bool) := matF (fun a b => (decide (a < x) && froV g a b) || (decide (a = x) && ((decide (b < y) && froV g a b) || (decide (b = y) && (List.range p).any (froE g a b))))) g.length
theorem froTo_zero (g : List (List Int)) : froTo g 0 0 0 = List.replicate g.length none12 := by
  rw [← matF_zero]
  exact matF_congr (fun a _ b _ => by simp)
theorem froTo_last (g : List (List Int)) : froTo g g.length 0 0 = froF g := matF_congr (fun a ha b _ => by simp [ha])
theorem froTo_row (g : List (List Int)) (x : Nat) : froTo g x g.length 0 = froTo g (x + 1) 0 0 := by
  refine matF_congr (fun a ha b hb => ?_)
  by_cases h1 : a < x
  · simp [h1, show a < x + 1 by omega, show ¬ a = x by omega]
  · by_cases h2 : a = x
    · subst h2
      by_cases h3 : b < g.length
      · simp [h3]
      · simp [h3, froV]
    · simp [h1, h2, show ¬ a < x + 1 by omega]
theorem froTo_col (g : List (List Int)) (x y : Nat) (hy : y < g.length) : froTo g x y 12 = froTo g x (y + 1) 0 := by
  refine matF_congr (fun a ha b hb => ?_)
  by_cases h2 : a = x
  · subst h2
    by_cases h3 : b < y
    · simp [h3, show b < y + 1 by omega, show ¬ b = y by omega]
    · by_cases h4 : b = y
      · subst h4
        simp [froV, hy]
      · simp [h3, h4, show ¬ b < y + 1 by omega]
  · simp [h2]
theorem froTo_skip (g : List (List Int)) {x y p : Nat} (h : froE g x y p = false) : froTo g x y (p + 1) = froTo g x y p := by
  refine matF_congr (fun a ha b hb => ?_)
  rw [List.range_succ, List.any_append]
  by_cases e : a = x ∧ b = y
  · obtain ⟨rfl, rfl⟩ := e
    simp [h]
  · by_cases e1 : a = x
    · have e2 : ¬ b = y := fun h => e ⟨e1, h⟩
      simp [e2]
    · simp [e1]
theorem froTo_put (g : List (List Int)) {x y p : Nat} (hx : x < g.length) (h : froE g x y p = true) : (froTo g x y p).set x (((froTo g x y p).getD x []).set y true) = froTo g x y (p + 1) := by
  unfold froTo
  rw [matF_put true hx]
  refine matF_congr (fun a ha b hb => ?_)
  rw [List.range_succ, List.any_append]
  by_cases e : a = x ∧ b = y
  · obtain ⟨rfl, rfl⟩ := e
    rw [if_pos ⟨rfl, rfl⟩]
    simp [h]
  · rw [if_neg e]
    by_cases e1 : a = x
    · have e2 : ¬ b = y := fun h => e ⟨e1, h⟩
      simp [e2]
    · simp [e1]
theorem froTo_len (g : List (List Int)) (x y p : Nat) : (froTo g x y p).length = g.length := matF_len _ _
theorem froTo_mat (g : List (List Int)) (x y p : Nat) : Mat 12 (froTo g x y p) := matF_mat _ _
theorem froE_no (g : List (List Int)) {x y p : Nat} (hy : y < g.length) (hp : p < 12) (h : ((prdF g).getD y []).getD p false = false) : froE g x y p = false := by
  unfold prdF at h
  rw [matF_row hy, rowF_get hp] at h
  unfold froE
  rw [h, Bool.false_and]
theorem froE_yes (g : List (List Int)) {x y p : Nat} (hy : y < g.length) (hp : p < 12) (hx : x < 12) (h : ((prdF g).getD y []).getD p false = true) : p < g.length ∧ froE g x y p = (((domF g).getD p []).getD x false && (decide (x = y) || !((domF g).getD y []).getD x false)) := by
  unfold prdF at h
  rw [matF_row hy, rowF_get hp] at h
  have hpn : p < g.length := by
    simp only [Bool.and_eq_true, decide_eq_true_eq] at h
    exact h.1
  refine ⟨hpn, ?_⟩
  unfold froE domF
  rw [h, Bool.true_and, matF_row hy, matF_row hpn, rowF_get hx, rowF_get hx]
end Go.Proofs.Ytndkblahnihhjaa.H

namespace Go.Proofs.Ytndkblahnihhjaa.Q
open Go.RowKit Go.Proofs.Ytndkblahnihhjaa.P Go.Proofs.Ytndkblahnihhjaa.H Go.Proofs.YtndkblahnihhjaaW.PrintWords
theorem matL_mem (f : Nat → Nat → Bool) (n : Nat) {b : Nat} (hb : b < n) (y : Int) : y ∈ ((matF f n).map (fun r => listTo r 12)).getD b [] ↔ ∃ j : Nat, j < 12 ∧ y = (j : Int) ∧ f b j = true := (rel_mat f n).mem b hb y
def froP (g : List (List Int)) (x : Nat) (y p : Int) : Prop := (x : Int) ∈ (domL g).getD p.toNat [] ∧ ((x : Int) = y ∨ ¬ (x : Int) ∈ (domL g).getD y.toNat [])
def froM (g : List (List Int)) (x : Nat) (y : Int) : Prop := (0 ≤ y ∧ y < (g.length : Int)) ∧ ∃ p, p ∈ (prdL g).getD y.toNat [] ∧ froP g x y p
def froL (g : List (List Int)) : List (List Int) := (froF g).map (fun r => listTo r 12)
theorem prdL_mem (g : List (List Int)) {b : Nat} (hb : b < g.length) (y : Int) : y ∈ (prdL g).getD b [] ↔ ∃ j : Nat, j < 12 ∧ y = (j : Int) ∧ (decide (j < g.length) && prdV g b j) = true := matL_mem _ _ hb y
theorem domL_mem (g : List (List Int)) {b : Nat} (hb : b < g.length) (y : Int) : y ∈ (domL g).getD b [] ↔ ∃ j : Nat, j < 12 ∧ y = (j : Int) ∧ (decide (j < g.length) && domV g b j) = true := matL_mem _ _ hb y
theorem domL_bit (g : List (List Int)) {b j : Nat} (hb : b < g.length) (hj : j < 12) : (j : Int) ∈ (domL g).getD b [] ↔ (decide (j < g.length) && domV g b j) = true := by
  rw [domL_mem g hb]
  constructor
  · rintro ⟨i, _, e, h⟩
    rwa [show j = i by omega]
  · intro h
    exact ⟨j, hj, rfl, h⟩
theorem prdL_rng (g : List (List Int)) {b : Nat} (hb : b < g.length) {y : Int} (h : y ∈ (prdL g).getD b []) : 0 ≤ y ∧ y < (g.length : Int) := by
  obtain ⟨j, _, rfl, h2⟩ := (prdL_mem g hb y).1 h
  simp only [Bool.and_eq_true, decide_eq_true_eq] at h2
  omega
theorem froL_rel {g : List (List Int)} (hn : g.length ≤ 12) : Rel g.length (froM g) (froL g) := by
  refine (rel_mat _ _).congr (fun x hx y => ?_)
  constructor
  · rintro ⟨j, h1, rfl, h2⟩
    unfold froV froE at h2
    simp only [Bool.and_eq_true, decide_eq_true_eq, List.any_eq_true, List.mem_range, Bool.or_eq_true, Bool.not_eq_true'] at h2
    obtain ⟨h3, p, h4, ⟨h5, h6⟩, ⟨h7, h8⟩, h9⟩ := h2
    refine ⟨by omega, (p : Int), ?_, ?_, ?_⟩
    · rw [Int.toNat_natCast, prdL_mem g h3]
      exact ⟨p, h4, rfl, by simp [h5, h6]⟩
    · rw [Int.toNat_natCast, domL_bit g h5 (by omega)]
      simp [h7, h8]
    · rw [Int.toNat_natCast]
      rcases h9 with h9 | h9
      · exact .inl (by omega)
      · refine .inr (fun h => ?_)
        rw [domL_bit g h3 (by omega)] at h
        rw [h] at h9
        cases h9
  · rintro ⟨h0, p, h1, h2, h3⟩
    obtain ⟨k, rfl⟩ : ∃ k : Nat, y = (k : Int) := ⟨y.toNat, by omega⟩
    rw [Int.toNat_natCast] at h1 h3
    have hk : k < g.length := by omega
    obtain ⟨q, h4, rfl, h5⟩ := (prdL_mem g hk p).1 h1
    rw [Int.toNat_natCast] at h2
    simp only [Bool.and_eq_true, decide_eq_true_eq] at h5
    rw [domL_bit g h5.1 (by omega)] at h2
    refine ⟨k, by omega, rfl, ?_⟩
    unfold froV
    rw [Bool.and_eq_true]
    refine ⟨by simpa using hk, List.any_eq_true.2 ⟨q, List.mem_range.2 h4, ?_⟩⟩
    unfold froE
    rw [Bool.and_eq_true, Bool.and_eq_true, Bool.and_eq_true, Bool.or_eq_true]
    refine ⟨⟨by simpa using h5.1, h5.2⟩, h2, ?_⟩
    rcases h3 with h3 | h3
    · exact .inl (by simp; omega)
    · refine .inr ?_
      rw [domL_bit g hk (by omega)] at h3
      cases hv : (decide (x < g.length) && domV g k x) with
      | false => rfl
      | true => exact absurd hv h3
theorem domL_length (g : List (List Int)) : (domL g).length = g.length := by unfold domL domF; rw [List.length_map, matF_len]
theorem prdL_length (g : List (List Int)) : (prdL g).length = g.length := by unfold prdL prdF; rw [List.length_map, matF_len]
theorem domL_len12 {g : List (List Int)} (b : Nat) : ((domL g).getD b []).length ≤ 12 := by
  by_cases hb : b < g.length
  · refine srt_len12 ((rel_mat _ _).srt b hb) (fun y hy => ?_)
    obtain ⟨j, h, rfl, _⟩ := (domL_mem g hb y).1 hy
    omega
  · rw [List.getD_eq_getElem?_getD, List.getElem?_eq_none (by rw [domL_length]; omega)]
    decide
theorem prdL_len12 {g : List (List Int)} (b : Nat) : ((prdL g).getD b []).length ≤ 12 := by
  by_cases hb : b < g.length
  · refine srt_len12 ((rel_mat _ _).srt b hb) (fun y hy => ?_)
    obtain ⟨j, h, rfl, _⟩ := (prdL_mem g hb y).1 hy
    omega
  · rw [List.getD_eq_getElem?_getD, List.getElem?_eq_none (by rw [prdL_length]; omega)]
    decide
theorem froM_in {g : List (List Int)} (hG : goodG g = true) {b : Nat} {y : Int} (h : froM g b y) : (b : Int) ∈ listTo (reachF g 0 (-1)) 12 := by
  obtain ⟨h0, p, h1, h2, _⟩ := h
  have hp := prdL_rng g (show y.toNat < g.length by omega) h1
  exact (((domL_rel hG).mem p.toNat (by omega) _).1 h2).1
theorem froM_at {g : List (List Int)} {b y : Nat} (hy : y < g.length) : froM g b (y : Int) ↔ ∃ p, p ∈ (prdL g).getD y [] ∧ froP g b (y : Int) p := by
  unfold froM
  rw [Int.toNat_natCast]
  exact ⟨fun h => h.2, fun h => ⟨by omega, h⟩⟩
end Go.Proofs.Ytndkblahnihhjaa.Q

namespace Go.Proofs.Ytndkblahnihhjaa.Q
open Go.RowKit Go.Proofs.Ytndkblahnihhjaa.P Go.Proofs.Ytndkblahnihhjaa.H Go.Proofs.YtndkblahnihhjaaW.PrintWords
inductive Jn (fl : List (List Int)) (l : List Int) : Int → Prop
  | one {x y : Int} : x ∈ l → y ∈ fl.getD x.toNat [] → Jn fl l y
  | on {x y : Int} : Jn fl l x → y ∈ fl.getD x.toNat [] → Jn fl l y
structure JSrch (fl : List (List Int)) (l todo : List Int) (out : List Bool) : Prop where
  len : out.length = 12
  rng : ∀ y ∈ todo, 0 ≤ y ∧ y < 12 ∧ (y ∈ l ∨ out.getD y.toNat false = true)
  sound : ∀ j, j < 12 → out.getD j false = true → Jn fl l (j : Int)
  closed : ∀ j : Nat, j < 12 → ((j : Int) ∈ l ∨ out.getD j false = true) → (j : Int) ∈ todo ∨ ∀ y ∈ fl.getD j [], out.getD y.toNat false = true
theorem jn_ends {fl : List (List Int)} {l : List Int} (hrow : ∀ x : Nat, ∀ y ∈ fl.getD x [], 0 ≤ y ∧ y < 12) : ∀ (k : Nat) (todo : List Int) (out : List Bool), JSrch fl l todo out → todo.length + off out < k → ∃ R, bfs fl (-1) k todo out = some R ∧ JSrch fl l [] R := by
  intro k
  induction k with
  | zero => intro todo out _ h; omega
  | succ k ih =>
    intro todo out h hm
    cases todo with
    | nil => exact ⟨out, rfl, h⟩
    | cons x todo =>
      have hx := h.rng x (by simp)
      obtain ⟨out', new, h1, h2, h3, h4, h5, h6, h7⟩ := visits_facts (-1) (fl.getD x.toNat []) out (x :: todo) h.len (hrow x.toNat)
      have hst : JSrch fl l (todo ++ new) out' := by
        refine ⟨h2, fun y hy => ?_, fun j hj hb => ?_, fun j hj hb => ?_⟩
        · rcases List.mem_append.1 hy with e | e
          · have := h.rng y (by simp [e])
            exact ⟨this.1, this.2.1, this.2.2.imp id (h4 y.toNat (by omega))⟩
          · have := hrow x.toNat y (h6 y e).1
            exact ⟨this.1, this.2, .inr (h6 y e).2.2⟩
        · rcases h7 j hj hb with e | e
          · exact h.sound j hj e
          · rcases hx.2.2 with q | q
            · exact .one q (h6 _ e).1
            · have := h.sound x.toNat (by omega) q
              rw [Int.toNat_of_nonneg hx.1] at this
              exact .on this (h6 _ e).1
        · have hold : ((j : Int) ∈ l ∨ out.getD j false = true) → (j : Int) ∈ todo ++ new ∨ ∀ y ∈ fl.getD j [], out'.getD y.toNat false = true := by
            intro hq
            rcases h.closed j hj hq with q | q
            · rcases List.mem_cons.1 q with q | q
              · refine .inr (fun y hy => h5 y ?_ (by have := hrow j y hy; omega))
                rw [← q, Int.toNat_natCast]
                exact hy
              · exact .inl (List.mem_append_left _ q)
            · exact .inr (fun y hy => h4 y.toNat (by have := hrow j y hy; omega) (q y hy))
          rcases hb with e | e
          · exact hold (.inl e)
          · rcases h7 j hj e with e | e
            · exact hold (.inr e)
            · exact .inl (List.mem_append_right _ e)
      have hb : bfs fl (-1) (k + 1) (x :: todo) out = bfs fl (-1) k (todo ++ new) out' := by
        rw [bfs, h1]
        rfl
      rw [hb]
      refine ih _ _ hst ?_
      rw [List.length_cons] at hm
      rw [List.length_append]
      omega
def joinsF (fl : List (List Int)) (l : List Int) : List Bool := (bfs fl (-1) 26 l none12).getD none12
theorem joins_some {fl : List (List Int)} {l : List Int} (hrow : ∀ x : Nat, ∀ y ∈ fl.getD x [], 0 ≤ y ∧ y < 12) (hl : ∀ y ∈ l, 0 ≤ y ∧ y < 12) (hn : l.length ≤ 12) : bfs fl (-1) 26 l none12 = some (joinsF fl l) ∧ JSrch fl l [] (joinsF fl l) := by
  obtain ⟨R, h2, h3⟩ := jn_ends hrow 26 l none12 ⟨rfl, fun y hy => ⟨(hl y hy).1, (hl y hy).2, .inl hy⟩, fun j hj h => (by rw [none12_get] at h; cases h), fun j hj h => (by
    rw [none12_get] at h
    exact .inl (h.elim id (fun h => by cases h)))⟩ (by
    have := off_le none12
    have e : none12.length = 12 := rfl
    omega)
  unfold joinsF
  rw [h2]
  exact ⟨rfl, h3⟩
theorem joins_iff {fl : List (List Int)} {l : List Int} (hrow : ∀ x : Nat, ∀ y ∈ fl.getD x [], 0 ≤ y ∧ y < 12) (hl : ∀ y ∈ l, 0 ≤ y ∧ y < 12) (hn : l.length ≤ 12) {j : Nat} (hj : j < 12) : (joinsF fl l).getD j false = true ↔ Jn fl l (j : Int) := by
  have h := (joins_some hrow hl hn).2
  constructor
  · exact h.sound j hj
  · intro hr
    have key : ∀ y, Jn fl l y → 0 ≤ y ∧ y < 12 ∧ (joinsF fl l).getD y.toNat false = true := by
      intro y hy
      induction hy with
      | @one x y hx hyx =>
        have hy := hrow _ _ hyx
        have hxr := hl x hx
        rcases h.closed x.toNat (by omega) (.inl (by rw [Int.toNat_of_nonneg hxr.1]; exact hx)) with q | q
        · simp at q
        · exact ⟨hy.1, hy.2, q _ hyx⟩
      | @on x y hx hyx ih =>
        have hy := hrow _ _ hyx
        rcases h.closed x.toNat (by omega) (.inr ih.2.2) with q | q
        · simp at q
        · exact ⟨hy.1, hy.2, q _ hyx⟩
    have := key _ hr
    rw [Int.toNat_natCast] at this
    exact this.2.2
def lfrom (bs : List Bool) (i : Nat) : List Int := ((List.range' i (12 - i)).filter (fun j => bs.getD j false)).map (fun j : Nat => (j : Int))
theorem lfrom_zero (bs : List Bool) : lfrom bs 0 = listTo bs 12 := by
  unfold lfrom listTo
  rw [List.range_eq_range']
theorem lfrom_end (bs : List Bool) : lfrom bs 12 = [] := rfl
theorem lfrom_step (bs : List Bool) {i : Nat} (hi : i < 12) : lfrom bs i = if bs.getD i false then (i : Int) :: lfrom bs (i + 1) else lfrom bs (i + 1) := by
  unfold lfrom
  rw [show 12 - i = (12 - (i + 1)) + 1 by omega, List.range'_succ, List.filter_cons]
  split
  · rfl
  · rfl
theorem froL_at {g : List (List Int)} (x : Nat) : (froL g).getD x [] = listTo ((froF g).getD x []) 12 := by
  unfold froL
  by_cases h : x < (froF g).length
  · rw [List.getD_eq_getElem?_getD, List.getElem?_map, List.getD_eq_getElem?_getD, List.getElem?_eq_getElem h]
    rfl
  · rw [List.getD_eq_getElem?_getD, List.getElem?_map, List.getD_eq_getElem?_getD, List.getElem?_eq_none (by omega)]
    rfl
theorem froL_row {g : List (List Int)} (hn : g.length ≤ 12) (x : Nat) : ∀ y ∈ (froL g).getD x [], 0 ≤ y ∧ y < (g.length : Int) := by
  intro y hy
  by_cases h : x < g.length
  · exact (((froL_rel hn).mem x h y).1 hy).1
  · rw [List.getD_eq_getElem?_getD, List.getElem?_eq_none (by unfold froL froF; rw [List.length_map, matF_len]; omega)] at hy
    simp at hy
theorem froL_row12 {g : List (List Int)} (hn : g.length ≤ 12) (x : Nat) : ∀ y ∈ (froL g).getD x [], 0 ≤ y ∧ y < 12 := fun y hy => by have := froL_row hn x y hy; omega
structure JSnd (fl : List (List Int)) (l acc : List Int) : Prop where
  srt : Srt acc
  snd : ∀ y ∈ acc, Jn fl l y
theorem JSnd.nil (fl : List (List Int)) (l : List Int) : JSnd fl l [] := ⟨List.Pairwise.nil, fun y hy => by simp at hy⟩
theorem Jn.rng {fl : List (List Int)} {l : List Int} {n : Int} (hrow : ∀ x : Nat, ∀ y ∈ fl.getD x [], 0 ≤ y ∧ y < n) {y : Int} (h : Jn fl l y) : 0 ≤ y ∧ y < n := by
  cases h with
  | one _ h => exact hrow _ _ h
  | on _ h => exact hrow _ _ h
theorem JSnd.len {fl : List (List Int)} {l acc : List Int} (hrow : ∀ x : Nat, ∀ y ∈ fl.getD x [], 0 ≤ y ∧ y < 12) (h : JSnd fl l acc) : acc.length ≤ 12 := srt_len12 h.srt (fun y hy => (h.snd y hy).rng hrow)
theorem JSnd.put {fl : List (List Int)} {l acc : List Int} {y : Int} (h : JSnd fl l acc) (hy : Jn fl l y) : JSnd fl l (putL acc y) := ⟨putL_srt y acc h.srt, fun z hz => by
  rcases (putL_mem y acc z).1 hz with e | e
  · exact h.snd z e
  · rw [e]; exact hy⟩
theorem JSnd.same {fl : List (List Int)} {l acc acc' : List Int} (h : JSnd fl l acc) (h' : JSnd fl l acc') (hs : ∀ y ∈ acc, y ∈ acc') (e : acc'.length = acc.length) : acc' = acc := ((srt_sub_len h.srt h'.srt hs).2 e.symm).symm
theorem JSnd.grow {fl : List (List Int)} {l acc acc' : List Int} (h : JSnd fl l acc) (h' : JSnd fl l acc') (hs : ∀ y ∈ acc, y ∈ acc') : acc.length ≤ acc'.length := (srt_sub_len h.srt h'.srt hs).1
theorem JSnd.done {fl : List (List Int)} {l acc : List Int} (hrow : ∀ x : Nat, ∀ y ∈ fl.getD x [], 0 ≤ y ∧ y < 12) (hl : ∀ y ∈ l, 0 ≤ y ∧ y < 12) (hn : l.length ≤ 12) (h : JSnd fl l acc) (hc : ∀ x ∈ l ++ acc, ∀ y ∈ fl.getD x.toNat [], y ∈ acc) : acc = listTo (joinsF fl l) 12 := by
  refine srt_ext h.srt (listTo_srt _ _) (fun y => ?_)
  rw [listTo_mem]
  constructor
  · intro hy
    have hr := (h.snd y hy).rng hrow
    refine ⟨y.toNat, by omega, by omega, ?_⟩
    rw [joins_iff hrow hl hn (by omega), Int.toNat_of_nonneg hr.1]
    exact h.snd y hy
  · rintro ⟨j, hj, rfl, hb⟩
    have hJ := (joins_iff hrow hl hn hj).1 hb
    have key : ∀ y, Jn fl l y → y ∈ acc := by
      intro y hy
      induction hy with
      | one hx hy => exact hc _ (List.mem_append_left _ hx) _ hy
      | on hx hy ih => exact hc _ (List.mem_append_right _ ih) _ hy
    exact key _ hJ
def inRow (n : Nat) (l : List Int) : Bool := l.all (fun y => decide (0 ≤ y) && decide (y < (n : Int))) && decide (l.length ≤ 12)
theorem inRow_all {n : Nat} {l : List Int} (h : inRow n l = true) : (∀ y ∈ l, 0 ≤ y ∧ y < (n : Int)) ∧ l.length ≤ 12 := by
  unfold inRow at h
  rw [Bool.and_eq_true, decide_eq_true_eq] at h
  refine ⟨fun y hy => ?_, h.2⟩
  have := List.all_eq_true.1 h.1 y hy
  simpa using this
theorem inRow_yes {n : Nat} {l : List Int} (h : ∀ y ∈ l, 0 ≤ y ∧ y < (n : Int)) (h2 : l.length ≤ 12) : inRow n l = true := by
  unfold inRow
  rw [Bool.and_eq_true, decide_eq_true_eq]
  exact ⟨List.all_eq_true.2 (fun y hy => by simpa using h y hy), h2⟩
def sliceLen : Value → Nat
  | .slice _ n _ => n
  | _ => 0
end Go.Proofs.Ytndkblahnihhjaa.Q

namespace Go.Proofs.Ytndkblahnihhjaa.P
open Go.RowKit Go.Proofs.YtndkblahnihhjaaW.PrintWords Go.Proofs.YtndkblahnihhjaaW.PrintLast Go.Proofs.YtndkblahnihhjaaW.PrintMore
attribute [local go_sem] max2_int min2_int max_two min_two max_three min_three max_four min_four
def spec_l10Dominators.f (l0_0 : List (List Int)) : Option (List (List Int)) := if H.goodG l0_0 then some (Q.domL l0_0) else none
theorem has_any (l : List Int) (hl : l.length ≤ 1048576) (A : Option Addr) (c : Nat) (x : Int) (W : World) (h : Kd.C (Kd.int .i64) W A l.length l) (hc : l.length ≤ c) : Calls Try.prog 43 #[.slice A l.length c, .int .i64 x] W fun e w' => e = .returned (.bool (decide (x ∈ l))) ∧ Drawn0 W w' := by
  obtain ⟨k, hk⟩ := Ev.rounds (Q.has_ev l x hl)
  exact spec_l1Has.calls k A c l x _ W h hc hk
theorem put_any (l : List Int) (hl : l.length ≤ 1048576) (x : Int) (u : Value) (ok : Nat → Prop) (w0 W : World) (hB : Below w0.heap.size w0 W) (h : Kd.R (Kd.int .i64) 3 W w0.heap.size ok u l) :
    Calls Try.prog 41 #[u, .int .i64 x] W fun e w' => ∃ v0_ : Value, e = .returned (v0_) ∧ Kd.R (Kd.int .i64) 3 w' w0.heap.size (fun k_ => (some k_ = u.ownBlock) ∨ W.heap.size ≤ k_) v0_ (Q.putL l x) ∧ Below w0.heap.size w0 w' ∧ Kept W w' (fun k_ => some k_ = u.ownBlock) := by
  obtain ⟨k, hk⟩ := Ev.rounds (Q.put_ev l x hl)
  exact spec_l1Put.calls k (fun k_ => some k_ = u.ownBlock) u l x _ w0 W hB (Kd.R_tight rfl h) hk
theorem reach_any {g : List (List Int)} (hG : H.goodG g = true) (A : Option Addr) (c : Nat) (wo : Int) (W : World) (h : Kd.C (Kd.slice 3 (Kd.int .i64)) W A g.length g) (hc : g.length ≤ c) :
    Calls Try.prog 68 #[.agg #[.slice A g.length c], .int .i64 wo] W fun e w' => ∃ v0_ : Value, e = .returned (v0_) ∧ Kd.R (Kd.int .i64) 3 w' W.heap.size (fun _ => True) v0_ (listTo (H.reachF g 0 wo) 12) ∧ Below W.heap.size W w' := by
  obtain ⟨k, hk⟩ := Ev.rounds (Q.specReach_ev hG wo)
  exact spec_l10Reach.calls k A c g wo _ W h hc hk
set_option maxHeartbeats 8000000 in
set_option maxRecDepth 100000 in
theorem spec_l10Dominators.calls (A0_0 : Option Addr) (c0_0 : Nat) (l0_0 : List (List Int)) (r : List (List Int)) (w : World) (hr0_0 : Kd.C (Kd.slice 3 (Kd.int .i64)) w A0_0 l0_0.length l0_0) (hc0_0 : l0_0.length ≤ c0_0) (h : spec_l10Dominators.f l0_0 = some r) :
    Calls Try.prog 53 #[.agg #[.slice A0_0 l0_0.length c0_0]] w fun e w' => ∃ v0_ : Value, e = .returned (v0_) ∧ Kd.S (Kd.slice 3 (Kd.int .i64)) 32 w' w.heap.size (fun _ => True) v0_ r ∧ Below w.heap.size w w' := by
  unfold spec_l10Dominators.f at h
  cases hG : H.goodG l0_0 with
  | false => rw [hG] at h; exact absurd h (by simp)
  | true =>
    rw [hG, if_pos rfl] at h
    obtain rfl := Option.some.inj h
    have hr := H.goodG_rows hG
    have hn1 : 1 ≤ l0_0.length := hr.1.1
    have hn2 : l0_0.length ≤ 12 := hr.1.2
    have HR0 := Aside0.mk hr0_0
    have HC0 := Aside0.mk hc0_0
    have HG := Aside0.mk hG
    have HO := Aside0.mk (H.Own.nil w)
    have HRE := Aside0.mk (fun (W : World) (hb : Below w.heap.size w W) (wo : Int) => reach_any hG A0_0 c0_0 wo W (Kd.C_below HR0.out hb) HC0.out)
    have HRL := Aside0.mk (fun wo => Q.listTo_small (H.reachF l0_0 0 wo))
    have HRIN := Aside0.mk (fun y (hy : y ∈ listTo (H.reachF l0_0 0 (-1)) 12) => ((Q.listTo_reach hG y).1 hy).rng hG (by decide) (by omega))
    clear hr0_0 hc0_0 hG h hr
    have hI : (Try.prog.info? 32).map (·.size) = some 1 := by kernel_rfl
    have HI := Aside0.mk hI
    clear hI
    obtain ⟨R, hR⟩ : ∃ R, listTo (H.reachF l0_0 0 (-1)) 12 = R := ⟨_, rfl⟩
    have HRS := Aside0.mk (HRL.out (-1))
    rw [hR] at HRIN HRS
    have HRD := Aside0.mk hR
    clear hR
    have hrs := HRS.out
    go_enter Try.func53, Try.ntmps53
    go_wp2_with (first | ((with_reducible refine gate_dst (N := 1) rfl ?_); refine H.own_box HO.out ?bxg (N := 1) ?bxd (cs := #[Value.slice A0_0 l0_0.length c0_0]) (t := 28) ?bxr ?_; (case bxd => rfl); (case bxg => rfl); (case bxr => first | (go_simp; done) | (go_simp; rfl)); intro gp w_ ho_ hb_; replace HO := Aside0.mk ho_; clear ho_ hb_) | ((with_reducible refine gate_dst (N := 10) rfl ?_); refine wpList_load_row rfl 28 (.tmp 1) rfl _ rfl 28 _ (0, 0) _ (HO.out.get 0 rfl) Try.underlying28 rfl (by kernel_rfl) ?_) | (go_at_call 68; refine (HRE.out _ HO.out.below (-1)).mono ?_; rw [HRD.out]; rintro e w' ⟨vr, rfl, hv, hb⟩; obtain ⟨AR, cR, rfl⟩ := Kd.R_slice hv; obtain ⟨N1, hN1⟩ : ∃ N1, w'.heap.size = N1 := ⟨_, rfl⟩; have HV := Aside0.mk (Kd.R_mono (ok' := fun k => k < N1) (H.R_upto (Kd.R_lower hv HO.out.size)) (fun k hk => hN1 ▸ hk.2)); have HN1 := Aside0.mk hN1; replace HO := Aside0.mk (HO.out.step hb); have hx1 := HO.out.cell 0 rfl 0; clear hv hb hN1) | ((with_reducible refine gate_dst (N := 15) rfl ?_); refine Kd.S_make (Kd.slice 3 (Kd.int .i64)) (w0 := _) _ 32 rfl (N := 15) rfl 22 _ _ rfl (l0_0.length : Int) rfl rfl Try.underlying22 (.slice none 0 0) 24 info32 rfl (by decide) (by omega) [] (ok := fun _ => True) (okp := fun _ => True) ⟨_, rfl, Kd.R_nil _ _ _ _ _⟩ (fun _ hk => hk) trivial (by omega) (by simp only [Int.toNat_natCast]; omega) (Below.refl _ _) (Nat.le_refl _) ?_; intro vs w_ ho_ hb_ hg_ hnew_; replace HV := Aside0.mk (Kd.R_below HV.out hb_); have HS := Aside0.mk (Kd.S_lower (Kd.S_mono (ok' := fun k => N1 ≤ k) (H.S_upto ho_) (fun k hk => by rw [← HN1.out]; exact hk.1)) HO.out.size); have HNW := Aside0.mk (show N1 ≤ w_.heap.size by rw [← HN1.out]; exact hb_.size); replace HO := Aside0.mk (HO.out.step hb_); clear ho_ hb_ hg_ hnew_ hx1 HN1))
    rw [Int.toNat_natCast] at HS
    obtain ⟨gs, cs, rfl, hgs0, _, _⟩ := Kd.S_form HS.out (by simp; omega)
    rw [List.length_replicate] at HS ⊢
    have HGS0 := Aside0.mk hgs0
    clear hgs0
    go_loopw [18] (fun v18 wr => ∃ (i : Nat) (xs : List (List Int)), v18 = .int .i64 i ∧ i ≤ R.length ∧ Aside0 (Kd.S (Kd.slice 3 (Kd.int .i64)) 32 wr w.heap.size (fun k => N1 ≤ k) (.slice (some ⟨gs, 0, none⟩) l0_0.length cs) xs) ∧ Aside0 (Q.Rel l0_0.length (fun b y => y ∈ R.take i ∧ (b : Int) ∈ R ∧ ¬ (b : Int) ∈ listTo (H.reachF l0_0 0 y) 12) xs) ∧ Aside0 ((Kd.int .i64).R 3 wr w.heap.size (fun k => k < N1) (.slice AR R.length cR) R) ∧ Aside0 (N1 ≤ wr.heap.size) ∧ Aside0 (H.Own w wr [(gp, #[Value.slice A0_0 l0_0.length c0_0], 28)])) (fun v18 _ => R.length - (intOf v18).toNat)
    case atStart => exact ⟨0, _, rfl, Nat.zero_le _, HS, ⟨Q.Rel.nil _ (fun b _ y h => by simp at h)⟩, HV, HNW, HO⟩
    case round =>
      clear HO HS HV HNW
      obtain ⟨i, xs, rfl, hi, HS, HREL, HV, HNW, HO⟩ := hrel
      by_cases hlt : i < R.length
      · obtain ⟨ad1, e1, hc1⟩ := Kd.at_int (Kd.R_reads' HV.out).2.2 (i : Int) (by omega) (by omega)
        subst e1
        rw [Int.toNat_natCast] at hc1
        have hd : rd R (i : Int) = R.getD i 0 := rfl
        rw [hd] at hc1
        have htk : R.take (i + 1) = R.take i ++ [R.getD i 0] := by rw [List.take_add_one, List.getElem?_eq_getElem hlt, List.getD_eq_getElem?_getD, List.getElem?_eq_getElem hlt]; rfl
        obtain ⟨d, hdd⟩ : ∃ d, R.getD i 0 = d := ⟨_, rfl⟩
        rw [hdd] at hc1 htk
        have HTK := Aside0.mk htk
        have hil : (i : Int) < (R.length : Int) := by omega
        obtain ⟨Wd, hWd⟩ : ∃ Wd, listTo (H.reachF l0_0 0 d) 12 = Wd := ⟨_, rfl⟩
        have HWL := HRL.out d
        rw [hWd] at HWL
        have HWD := Aside0.mk hWd
        have HWS := Aside0.mk HWL
        clear hd htk hdd HWL hWd
        go_wp2_with (first | ((with_reducible refine gate_dst (N := 22) rfl ?_); refine wpList_load_row rfl 28 (.tmp 1) rfl _ rfl 28 _ (0, 0) _ (HO.out.get 0 rfl) Try.underlying28 rfl (by kernel_rfl) ?_) | (go_at_call 68; refine (HRE.out _ HO.out.below d).mono ?_; rw [HWD.out]; rintro e w' ⟨vw, rfl, hv, hb⟩; obtain ⟨AW, cW, rfl⟩ := Kd.R_slice hv; have HW := Aside0.mk (Kd.R_lower hv HO.out.size); replace HS := Aside0.mk (Kd.S_elder' HS.out (Kd.R_base hv) hb); replace HV := Aside0.mk (Kd.R_below HV.out hb); replace HNW := Aside0.mk (Nat.le_trans HNW.out hb.size); replace HO := Aside0.mk (HO.out.step hb); clear hv hb hc1))
        go_loopw [27] (fun v27 wr => ∃ (j : Nat) (xs : List (List Int)), v27 = .int .i64 j ∧ j ≤ R.length ∧ Aside0 (Kd.S (Kd.slice 3 (Kd.int .i64)) 32 wr w.heap.size (fun k => N1 ≤ k ∧ some k ≠ (Value.slice AW Wd.length cW).ownBlock) (.slice (some ⟨gs, 0, none⟩) l0_0.length cs) xs) ∧ Aside0 (Q.Rel l0_0.length (fun b y => (y ∈ R.take i ∧ (b : Int) ∈ R ∧ ¬ (b : Int) ∈ listTo (H.reachF l0_0 0 y) 12) ∨ (y = d ∧ (b : Int) ∈ R.take j ∧ ¬ (b : Int) ∈ Wd)) xs) ∧ Aside0 ((Kd.int .i64).R 3 wr w.heap.size (fun k => k < N1) (.slice (some ad1) R.length cR) R) ∧ Aside0 ((Kd.int .i64).R 3 wr w.heap.size (fun _ => True) (.slice AW Wd.length cW) Wd) ∧ Aside0 (N1 ≤ wr.heap.size) ∧ Aside0 (H.Own w wr [(gp, #[Value.slice A0_0 l0_0.length c0_0], 28)])) (fun v27 _ => R.length - (intOf v27).toNat)
        case atStart => exact ⟨0, xs, rfl, Nat.zero_le _, HS, ⟨HREL.out.congr (fun b _ y => by simp)⟩, HV, HW, HNW, HO⟩
        case round =>
          clear HO HS HV HNW HREL HW
          obtain ⟨j, xs, rfl, hj, HS, HREL, HV, HW, HNW, HO⟩ := hrel
          by_cases hlt2 : j < R.length
          · obtain ⟨ad2, e2, hc2⟩ := Kd.at_int (Kd.R_reads' HV.out).2.2 (j : Int) (by omega) (by omega)
            injection e2 with e2
            subst e2
            rw [Int.toNat_natCast] at hc2
            have hd : rd R (j : Int) = R.getD j 0 := rfl
            rw [hd] at hc2
            have htk : R.take (j + 1) = R.take j ++ [R.getD j 0] := by rw [List.take_add_one, List.getElem?_eq_getElem hlt2, List.getD_eq_getElem?_getD, List.getElem?_eq_getElem hlt2]; rfl
            have hin := HRIN.out (R.getD j 0) (by rw [List.getD_eq_getElem?_getD, List.getElem?_eq_getElem hlt2]; exact List.getElem_mem hlt2)
            obtain ⟨k, hkk⟩ : ∃ k : Nat, R.getD j 0 = (k : Int) := ⟨(R.getD j 0).toNat, by omega⟩
            rw [hkk] at hc2 htk hin
            have HTK2 := Aside0.mk htk
            have hjl : (j : Int) < (R.length : Int) := by omega
            have hkn : (k : Int) < (l0_0.length : Int) := hin.2
            have HKN := Aside0.mk (show k < l0_0.length by omega)
            clear hd htk hkk hin
            obtain ⟨dd, hdd⟩ : ∃ dd, decide ((k : Int) ∈ Wd) = dd := ⟨_, rfl⟩
            have HDD := Aside0.mk hdd
            clear hdd
            cases dd with
            | true =>
              go_wp2_with (go_at_call 43; refine (has_any Wd HWS.out _ _ (k : Int) _ (Kd.R_reads' HW.out).2.2 (Kd.R_reads' HW.out).2.1).mono ?_; rw [HDD.out]; rintro e w2 ⟨rfl, hd⟩; replace HV := Aside0.mk (Kd.R_below HV.out hd.below); replace HW := Aside0.mk (Kd.R_below HW.out hd.below); replace HS := Aside0.mk (Kd.S_below HS.out hd.below); replace HNW := Aside0.mk (Nat.le_trans HNW.out hd.below.size); replace HO := Aside0.mk (HO.out.step hd.below); clear hd hc2)
              refine ⟨⟨j + 1, xs, by go_num, by omega, HS, ⟨HREL.out.congr (fun b _ y => by
                have hw := of_decide_eq_true HDD.out
                rw [HTK2.out, List.mem_append, List.mem_singleton]
                constructor
                · rintro (h | ⟨h1, h2, h3⟩)
                  · exact .inl h
                  · exact .inr ⟨h1, .inl h2, h3⟩
                · rintro (h | ⟨h1, h2 | h2, h3⟩)
                  · exact .inl h
                  · exact .inr ⟨h1, h2, h3⟩
                  · rw [h2] at h3
                    exact absurd hw h3)⟩, HV, HW, HNW, HO⟩, ?_⟩
              simp [intOf]
              omega
            | false =>
              obtain ⟨oki, u, hu, hRu, hoki, hH⟩ := H.S_holeG HS.out HKN.out
              have hgt := Kd.S_typed HS.out gs (by simp [Value.ownBlock])
              have HRU := Aside0.mk hRu
              have HOK := Aside0.mk hoki
              have HH := Aside0.mk hH
              have HGT := Aside0.mk hgt
              have HU := Aside0.mk hu
              have HXL := Aside0.mk (show (xs.getD k []).length ≤ 1048576 by
                have := HREL.out.len12 (fun b hb y h => by
                  have hy : y ∈ R := by
                    rcases h with h | h
                    · exact List.mem_of_mem_take h.1
                    · have := HTK.out
                      rw [h.1]
                      exact List.mem_of_mem_take (i := i + 1) (by rw [this]; simp)
                  have := HRIN.out y hy
                  omega) HKN.out
                omega)
              clear hRu hoki hH hgt hu HS
              go_wp2_with (first | (go_at_call 43; refine (has_any Wd HWS.out _ _ (k : Int) _ (Kd.R_reads' HW.out).2.2 (Kd.R_reads' HW.out).2.1).mono ?_; rw [HDD.out]; rintro e w2 ⟨rfl, hd⟩; replace HV := Aside0.mk (Kd.R_below HV.out hd.below); replace HW := Aside0.mk (Kd.R_below HW.out hd.below); replace HRU := Aside0.mk (Kd.R_below HRU.out hd.below); replace HH := Aside0.mk (Kd.H_below HH.out hd.below); replace HNW := Aside0.mk (Nat.le_trans HNW.out hd.below.size); replace HO := Aside0.mk (HO.out.step hd.below); have hu := pw_cell_below hd.below HU.out; replace HGT := Aside0.mk (HGT.out.imp (fun cells hc => blk_below hc hd.below)); clear hd hc2 HU) | (go_at_call 41; refine (put_any (xs.getD k []) HXL.out d u _ w _ HO.out.below HRU.out).mono ?_; rintro e w3 ⟨v0, rfl, hv0, hb, hk⟩; obtain ⟨A0, c0, rfl⟩ := Kd.R_slice hv0; have HIN : Aside0 (∀ k, (Value.slice A0 (Q.putL (xs.getD k []) d).length c0).ownBlock = some k → True) := ⟨fun _ _ => trivial⟩; clear HIN; have HV0 := Aside0.mk hv0; have HPU := Aside0.mk (fun k (hk : some k = u.ownBlock) => HOK.out k (HRU.out.1 k hk.symm)); have HWlt := Aside0.mk (Kd.R_lt HW.out); replace HH := Aside0.mk (H.hole_keptG HH.out hk (fun k hk => HRU.out.1 k hk.symm)); replace HV := Aside0.mk (H.R_keptB HV.out hk (fun k h1 h2 => by have a1 := HV.out.1 k h1; have a2 := (HPU.out k h2).1; omega)); replace HW := Aside0.mk (H.R_keptB HW.out hk (fun k h1 h2 => (HPU.out k h2).2 h1.symm)); replace HGT := Aside0.mk (HGT.out.imp (fun cells hc => (hk.2 gs (blk_lt hc) (Kd.R_ne HRU.out hc (by decide))).trans hc)); have HNW' := HNW; replace HNW := Aside0.mk (Nat.le_trans HNW.out hk.1); have HIN := Aside0.mk (fun k (h : (Value.slice A0 (Q.putL (xs.getD k []) d).length c0).ownBlock = some k) => trivial); clear HIN; replace HO := Aside0.mk (HO.out.keptU HRU.out hk hb (by simp)); clear hv0 hb hk hu) | ((with_reducible refine gate_store (t := 32) (p := 43) rfl ?_); refine H.own_eputG HO.out HH.out HV0.out (Nat.le_refl _) (fun q hq => by rcases HV0.out.1 q hq with h | h; exact .inl (HRU.out.1 q h.symm); exact .inr ⟨⟨Nat.le_trans HNW'.out h, fun e => by have := HWlt.out q e.symm; omega⟩, h⟩) rfl rfl rfl rfl rfl HI.out HKN.out HGS0.out HGT.out (by simp) ?_; intro w_ ho_ hs_ hg_; replace HV := Aside0.mk (Kd.R_over' (e' := 32) (v := .slice (some ⟨gs, 0, none⟩) 0 0) HV.out (fun q hq => by have : gs = q := (by simpa [Value.ownBlock] using hq); rw [← this]; exact HGT.out) (by decide) hg_); replace HW := Aside0.mk (Kd.R_over' (e' := 32) (v := .slice (some ⟨gs, 0, none⟩) 0 0) HW.out (fun q hq => by have : gs = q := (by simpa [Value.ownBlock] using hq); rw [← this]; exact HGT.out) (by decide) hg_); replace HNW := Aside0.mk (Nat.le_trans HNW.out hg_.size); have HS := Aside0.mk hs_; replace HO := Aside0.mk ho_; clear ho_ hs_ hg_))
              go_roundw
              case rel => exact ⟨j + 1, _, by go_num, by omega, HS, ⟨(HREL.out.put HKN.out d).congr (fun b _ y => by
                have hw := of_decide_eq_false HDD.out
                rw [HTK2.out, List.mem_append, List.mem_singleton]
                constructor
                · rintro ((h | ⟨h1, h2, h3⟩) | ⟨h1, h2⟩)
                  · exact .inl h
                  · exact .inr ⟨h1, .inl h2, h3⟩
                  · subst h1
                    exact .inr ⟨h2, .inr rfl, hw⟩
                · rintro (h | ⟨h1, h2 | h2, h3⟩)
                  · exact .inl (.inl h)
                  · exact .inl (.inr ⟨h1, h2, h3⟩)
                  · exact .inr ⟨by omega, h1⟩)⟩, HV, HW, HNW, HO⟩
              case measure => simp [intOf]; omega
          · have hE : j = R.length := by omega
            subst hE
            go_wp2
            go_roundw
            case rel => exact ⟨i + 1, xs, by go_num, by omega, ⟨Kd.S_mono HS.out (fun k hk => hk.1)⟩, ⟨HREL.out.congr (fun b _ y => by
              rw [HTK.out, List.mem_append, List.mem_singleton, List.take_length]
              constructor
              · rintro (h | ⟨h1, h2, h3⟩)
                · exact ⟨.inl h.1, h.2⟩
                · subst h1
                  exact ⟨.inr rfl, h2, by rw [HWD.out]; exact h3⟩
              · rintro ⟨h | h, h2, h3⟩
                · exact .inl ⟨h, h2, h3⟩
                · subst h
                  exact .inr ⟨rfl, h2, by rw [HWD.out] at h3; exact h3⟩)⟩, HV, HNW, HO⟩
            case measure => simp [intOf]; omega
      · have hE : i = R.length := by omega
        subst hE
        have hfin : xs = Q.domL l0_0 := by
          refine (HREL.out.congr (fun b _ y => ?_)).uniq (Q.domL_rel HG.out)
          unfold Q.domM
          rw [HRD.out, List.take_length]
        subst hfin
        go_wp2
        go_ret
        exact ⟨_, rfl, Kd.S_mono HS.out (fun _ _ => trivial), HO.out.below⟩
end Go.Proofs.Ytndkblahnihhjaa.P

namespace Go.Proofs.Ytndkblahnihhjaa.P
open Go.RowKit Go.Proofs.YtndkblahnihhjaaW.PrintWords Go.Proofs.YtndkblahnihhjaaW.PrintLast Go.Proofs.YtndkblahnihhjaaW.PrintMore
attribute [local go_sem] max2_int min2_int max_two min_two max_three min_three max_four min_four
def spec_l11Preds.f (l0_0 : List (List Int)) : Option (List (List Int)) := if H.goodG l0_0 then some (Q.prdL l0_0) else none
set_option maxHeartbeats 8000000 in
set_option maxRecDepth 100000 in
theorem spec_l11Preds.calls (A0_0 : Option Addr) (c0_0 : Nat) (l0_0 : List (List Int)) (r : List (List Int)) (w : World) (hr0_0 : Kd.C (Kd.slice 3 (Kd.int .i64)) w A0_0 l0_0.length l0_0) (hc0_0 : l0_0.length ≤ c0_0) (h : spec_l11Preds.f l0_0 = some r) :
    Calls Try.prog 65 #[.agg #[.slice A0_0 l0_0.length c0_0]] w fun e w' => ∃ v0_ : Value, e = .returned (v0_) ∧ Kd.S (Kd.slice 3 (Kd.int .i64)) 32 w' w.heap.size (fun _ => True) v0_ r ∧ Below w.heap.size w w' := by
  unfold spec_l11Preds.f at h
  cases hG : H.goodG l0_0 with
  | false => rw [hG] at h; exact absurd h (by simp)
  | true =>
    rw [hG, if_pos rfl] at h
    obtain rfl := Option.some.inj h
    have hr := H.goodG_rows hG
    have hn1 : 1 ≤ l0_0.length := hr.1.1
    have hn2 : l0_0.length ≤ 12 := hr.1.2
    have HR0 := Aside0.mk hr0_0
    have HC0 := Aside0.mk hc0_0
    have HG := Aside0.mk hG
    have HO := Aside0.mk (H.Own.nil w)
    have HRE := Aside0.mk (fun (W : World) (hb : Below w.heap.size w W) (wo : Int) => reach_any hG A0_0 c0_0 wo W (Kd.C_below HR0.out hb) HC0.out)
    have HRL := Aside0.mk (fun wo => Q.listTo_small (H.reachF l0_0 0 wo))
    have HRIN := Aside0.mk (fun y (hy : y ∈ listTo (H.reachF l0_0 0 (-1)) 12) => ((Q.listTo_reach hG y).1 hy).rng hG (by decide) (by omega))
    have HROW := Aside0.mk (H.goodG_row hG)
    clear hr0_0 hc0_0 hG h hr
    have hI : (Try.prog.info? 32).map (·.size) = some 1 := by kernel_rfl
    have HI := Aside0.mk hI
    clear hI
    obtain ⟨R, hR⟩ : ∃ R, listTo (H.reachF l0_0 0 (-1)) 12 = R := ⟨_, rfl⟩
    have HRS := Aside0.mk (HRL.out (-1))
    rw [hR] at HRIN HRS
    have HRD := Aside0.mk hR
    clear hR
    have hrs := HRS.out
    go_enter Try.func65, Try.ntmps65
    go_wp2_with (first | ((with_reducible refine gate_dst (N := 1) rfl ?_); refine H.own_box HO.out ?bxg (N := 1) ?bxd (cs := #[Value.slice A0_0 l0_0.length c0_0]) (t := 28) ?bxr ?_; (case bxd => rfl); (case bxg => rfl); (case bxr => first | (go_simp; done) | (go_simp; rfl)); intro gp w_ ho_ hb_; replace HO := Aside0.mk ho_; clear ho_ hb_) | ((with_reducible refine gate_dst (N := 9) rfl ?_); refine wpList_load_row rfl 28 (.tmp 1) rfl _ rfl 28 _ (0, 0) _ (HO.out.get 0 rfl) Try.underlying28 rfl (by kernel_rfl) ?_) | (go_at_call 68; refine (HRE.out _ HO.out.below (-1)).mono ?_; rw [HRD.out]; rintro e w' ⟨vr, rfl, hv, hb⟩; obtain ⟨AR, cR, rfl⟩ := Kd.R_slice hv; obtain ⟨N1, hN1⟩ : ∃ N1, w'.heap.size = N1 := ⟨_, rfl⟩; have HV := Aside0.mk (Kd.R_mono (ok' := fun k => k < N1) (H.R_upto (Kd.R_lower hv HO.out.size)) (fun k hk => hN1 ▸ hk.2)); have HN1 := Aside0.mk hN1; replace HO := Aside0.mk (HO.out.step hb); have hx1 := HO.out.cell 0 rfl 0; clear hv hb hN1) | ((with_reducible refine gate_dst (N := 14) rfl ?_); refine Kd.S_make (Kd.slice 3 (Kd.int .i64)) (w0 := _) _ 32 rfl (N := 14) rfl 22 _ _ rfl (l0_0.length : Int) rfl rfl Try.underlying22 (.slice none 0 0) 24 info32 rfl (by decide) (by omega) [] (ok := fun _ => True) (okp := fun _ => True) ⟨_, rfl, Kd.R_nil _ _ _ _ _⟩ (fun _ hk => hk) trivial (by omega) (by simp only [Int.toNat_natCast]; omega) (Below.refl _ _) (Nat.le_refl _) ?_; intro vs w_ ho_ hb_ hg_ hnew_; replace HV := Aside0.mk (Kd.R_below HV.out hb_); have HS := Aside0.mk (Kd.S_lower (Kd.S_mono (ok' := fun k => N1 ≤ k) (H.S_upto ho_) (fun k hk => by rw [← HN1.out]; exact hk.1)) HO.out.size); have HNW := Aside0.mk (show N1 ≤ w_.heap.size by rw [← HN1.out]; exact hb_.size); replace HO := Aside0.mk (HO.out.step hb_); clear ho_ hb_ hg_ hnew_ hx1 HN1))
    rw [Int.toNat_natCast] at HS
    obtain ⟨gs, cs, rfl, hgs0, _, _⟩ := Kd.S_form HS.out (by simp; omega)
    rw [List.length_replicate] at HS ⊢
    have HGS0 := Aside0.mk hgs0
    clear hgs0
    go_loopw [17] (fun v17 wr => ∃ (i : Nat) (xs : List (List Int)), v17 = .int .i64 i ∧ i ≤ R.length ∧ Aside0 (Kd.S (Kd.slice 3 (Kd.int .i64)) 32 wr w.heap.size (fun k => N1 ≤ k) (.slice (some ⟨gs, 0, none⟩) l0_0.length cs) xs) ∧ Aside0 (Q.Rel l0_0.length (fun b y => y ∈ R.take i ∧ (b : Int) ∈ l0_0.getD y.toNat []) xs) ∧ Aside0 ((Kd.int .i64).R 3 wr w.heap.size (fun k => k < N1) (.slice AR R.length cR) R) ∧ Aside0 (N1 ≤ wr.heap.size) ∧ Aside0 (H.Own w wr [(gp, #[Value.slice A0_0 l0_0.length c0_0], 28)])) (fun v17 _ => R.length - (intOf v17).toNat)
    case atStart => exact ⟨0, _, rfl, Nat.zero_le _, HS, ⟨Q.Rel.nil _ (fun b _ y h => by simp at h)⟩, HV, HNW, HO⟩
    case round =>
      clear HO HS HV HNW
      obtain ⟨i, xs, rfl, hi, HS, HREL, HV, HNW, HO⟩ := hrel
      by_cases hlt : i < R.length
      · obtain ⟨ad1, e1, hc1⟩ := Kd.at_int (Kd.R_reads' HV.out).2.2 (i : Int) (by omega) (by omega)
        subst e1
        rw [Int.toNat_natCast] at hc1
        have hd : rd R (i : Int) = R.getD i 0 := rfl
        rw [hd] at hc1
        have htk : R.take (i + 1) = R.take i ++ [R.getD i 0] := by rw [List.take_add_one, List.getElem?_eq_getElem hlt, List.getD_eq_getElem?_getD, List.getElem?_eq_getElem hlt]; rfl
        have hdin := HRIN.out (R.getD i 0) (by rw [List.getD_eq_getElem?_getD, List.getElem?_eq_getElem hlt]; exact List.getElem_mem hlt)
        obtain ⟨d, hdd⟩ : ∃ d : Nat, R.getD i 0 = (d : Int) := ⟨(R.getD i 0).toNat, by omega⟩
        rw [hdd] at hc1 htk hdin
        have HTK := Aside0.mk htk
        have hil : (i : Int) < (R.length : Int) := by omega
        have hdg : (d : Int) < (l0_0.length : Int) := hdin.2
        obtain ⟨ad, A1, c1, ea, hc0, hcx, hc2⟩ := at_L1 HR0.out (d : Int) (by omega) (by omega)
        subst ea
        rw [Int.toNat_natCast] at hc0
        have hrd : rd_L1 l0_0 (d : Int) = l0_0.getD d [] := rfl
        rw [hrd] at hc0 hcx hc2
        have hrow := HROW.out d
        obtain ⟨row, hrw⟩ : ∃ row, l0_0.getD d [] = row := ⟨_, rfl⟩
        rw [hrw] at hc0 hcx hc2 hrow
        have hxr := HO.out.old hc0
        have hx1 := HO.out.cell 0 rfl 0
        have HC2 := Aside0.mk hc2
        have HRR := Aside0.mk hrow
        have HRW := Aside0.mk hrw
        have hrl := hc2.2.1
        clear hd htk hdd hdin hc0 hcx hc2 hrow hrd hrw
        go_wp2
        go_loopw [27] (fun v27 wr => ∃ (j : Nat) (xs : List (List Int)), v27 = .int .i64 j ∧ j ≤ row.length ∧ Aside0 (Kd.S (Kd.slice 3 (Kd.int .i64)) 32 wr w.heap.size (fun k => N1 ≤ k) (.slice (some ⟨gs, 0, none⟩) l0_0.length cs) xs) ∧ Aside0 (Q.Rel l0_0.length (fun b y => (y ∈ R.take i ∧ (b : Int) ∈ l0_0.getD y.toNat []) ∨ (y = (d : Int) ∧ (b : Int) ∈ row.take j)) xs) ∧ Aside0 ((Kd.int .i64).R 3 wr w.heap.size (fun k => k < N1) (.slice (some ad1) R.length cR) R) ∧ Aside0 (N1 ≤ wr.heap.size) ∧ Aside0 (H.Own w wr [(gp, #[Value.slice (some ad) l0_0.length c0_0], 28)])) (fun v27 _ => row.length - (intOf v27).toNat)
        case atStart => exact ⟨0, xs, rfl, Nat.zero_le _, HS, ⟨HREL.out.congr (fun b _ y => by simp)⟩, HV, HNW, HO⟩
        case round =>
          clear HO HS HV HNW HREL hx1 hxr hc1
          obtain ⟨j, xs, rfl, hj, HS, HREL, HV, HNW, HO⟩ := hrel
          by_cases hlt2 : j < row.length
          · obtain ⟨ad2, e2, hc2⟩ := Kd.at_int HC2.out (j : Int) (by omega) (by omega)
            subst e2
            rw [Int.toNat_natCast] at hc2
            have hd : rd row (j : Int) = row.getD j 0 := rfl
            rw [hd] at hc2
            have htk : row.take (j + 1) = row.take j ++ [row.getD j 0] := by rw [List.take_add_one, List.getElem?_eq_getElem hlt2, List.getD_eq_getElem?_getD, List.getElem?_eq_getElem hlt2]; rfl
            have hin := HRR.out (row.getD j 0) (by rw [List.getD_eq_getElem?_getD, List.getElem?_eq_getElem hlt2]; exact List.getElem_mem hlt2)
            obtain ⟨k, hkk⟩ : ∃ k : Nat, row.getD j 0 = (k : Int) := ⟨(row.getD j 0).toNat, by omega⟩
            rw [hkk] at hc2 htk hin
            have hcy := HO.out.old hc2
            have HTK2 := Aside0.mk htk
            have hjl : (j : Int) < (row.length : Int) := by omega
            have hkn : (k : Int) < (l0_0.length : Int) := hin.2
            have HKN := Aside0.mk (show k < l0_0.length by omega)
            clear hd htk hkk hin hc2
            obtain ⟨oki, u, hu, hRu, hoki, hH⟩ := H.S_holeG HS.out HKN.out
            have hgt := Kd.S_typed HS.out gs (by simp [Value.ownBlock])
            have HRU := Aside0.mk hRu
            have HOK := Aside0.mk hoki
            have HH := Aside0.mk hH
            have HGT := Aside0.mk hgt
            have HXL := Aside0.mk (show (xs.getD k []).length ≤ 1048576 by
              have := HREL.out.len12 (fun b hb y h => by
                have hy : y ∈ R := by
                  rcases h with h | h
                  · exact List.mem_of_mem_take h.1
                  · have := HTK.out
                    rw [h.1]
                    exact List.mem_of_mem_take (i := i + 1) (by rw [this]; simp)
                have := HRIN.out y hy
                omega) HKN.out
              omega)
            clear hRu hoki hH hgt HS
            go_wp2_with (first | (go_at_call 41; refine (put_any (xs.getD k []) HXL.out (d : Int) u _ w _ HO.out.below HRU.out).mono ?_; rintro e w3 ⟨v0, rfl, hv0, hb, hk⟩; obtain ⟨A0, c0, rfl⟩ := Kd.R_slice hv0; have HV0 := Aside0.mk hv0; have HPU := Aside0.mk (fun k (hk : some k = u.ownBlock) => HOK.out k (HRU.out.1 k hk.symm)); replace HH := Aside0.mk (H.hole_keptG HH.out hk (fun k hk => HRU.out.1 k hk.symm)); replace HV := Aside0.mk (H.R_keptB HV.out hk (fun k h1 h2 => by have a1 := HV.out.1 k h1; have a2 := (HPU.out k h2); omega)); replace HGT := Aside0.mk (HGT.out.imp (fun cells hc => (hk.2 gs (blk_lt hc) (Kd.R_ne HRU.out hc (by decide))).trans hc)); have HNW' := HNW; replace HNW := Aside0.mk (Nat.le_trans HNW.out hk.1); replace HO := Aside0.mk (HO.out.keptU HRU.out hk hb (by simp)); clear hv0 hb hk hu hcy) | ((with_reducible refine gate_store (t := 32) (p := 39) rfl ?_); refine H.own_eputG HO.out HH.out HV0.out (Nat.le_refl _) (fun q hq => by rcases HV0.out.1 q hq with h | h; exact .inl (HRU.out.1 q h.symm); exact .inr ⟨Nat.le_trans HNW'.out h, h⟩) rfl rfl rfl rfl rfl HI.out HKN.out HGS0.out HGT.out (by simp) ?_; intro w_ ho_ hs_ hg_; replace HV := Aside0.mk (Kd.R_over' (e' := 32) (v := .slice (some ⟨gs, 0, none⟩) 0 0) HV.out (fun q hq => by have : gs = q := (by simpa [Value.ownBlock] using hq); rw [← this]; exact HGT.out) (by decide) hg_); replace HNW := Aside0.mk (Nat.le_trans HNW.out hg_.size); have HS := Aside0.mk hs_; replace HO := Aside0.mk ho_; clear ho_ hs_ hg_))
            go_roundw
            case rel => exact ⟨j + 1, _, by go_num, by omega, HS, ⟨(HREL.out.put HKN.out (d : Int)).congr (fun b _ y => by
              rw [HTK2.out, List.mem_append, List.mem_singleton]
              constructor
              · rintro ((h | ⟨h1, h2⟩) | ⟨h1, h2⟩)
                · exact .inl h
                · exact .inr ⟨h1, .inl h2⟩
                · subst h1
                  exact .inr ⟨h2, .inr rfl⟩
              · rintro (h | ⟨h1, h2 | h2⟩)
                · exact .inl (.inl h)
                · exact .inl (.inr ⟨h1, h2⟩)
                · exact .inr ⟨by omega, h1⟩)⟩, HV, HNW, HO⟩
            case measure => simp [intOf]; omega
          · have hE : j = row.length := by omega
            subst hE
            go_wp2
            go_roundw
            case rel => exact ⟨i + 1, xs, by go_num, by omega, HS, ⟨HREL.out.congr (fun b _ y => by
              rw [HTK.out, List.mem_append, List.mem_singleton, List.take_length]
              constructor
              · rintro (h | ⟨h1, h2⟩)
                · exact ⟨.inl h.1, h.2⟩
                · subst h1
                  exact ⟨.inr rfl, by rw [Int.toNat_natCast, HRW.out]; exact h2⟩
              · rintro ⟨h | h, h2⟩
                · exact .inl ⟨h, h2⟩
                · subst h
                  exact .inr ⟨rfl, by rw [Int.toNat_natCast, HRW.out] at h2; exact h2⟩)⟩, HV, HNW, HO⟩
            case measure => simp [intOf]; omega
      · have hE : i = R.length := by omega
        subst hE
        have hfin : xs = Q.prdL l0_0 := by
          refine (HREL.out.congr (fun b _ y => ?_)).uniq (Q.prdL_rel HG.out)
          unfold Q.prdM
          rw [HRD.out, List.take_length]
        subst hfin
        go_wp2
        go_ret
        exact ⟨_, rfl, Kd.S_mono HS.out (fun _ _ => trivial), HO.out.below⟩
end Go.Proofs.Ytndkblahnihhjaa.P

namespace Go.Proofs.Ytndkblahnihhjaa.P
open Go.RowKit Go.Proofs.YtndkblahnihhjaaW.PrintWords Go.Proofs.YtndkblahnihhjaaW.PrintLast Go.Proofs.YtndkblahnihhjaaW.PrintMore
attribute [local go_sem] max2_int min2_int max_two min_two max_three min_three max_four min_four
def spec_l11Frontier.f (l0_0 : List (List Int)) : Option (List (List Int)) := if H.goodG l0_0 then some (Q.froL l0_0) else none
set_option maxHeartbeats 8000000 in
set_option maxRecDepth 100000 in
theorem spec_l11Frontier.calls (A0_0 : Option Addr) (c0_0 : Nat) (l0_0 : List (List Int)) (r : List (List Int)) (w : World) (hr0_0 : Kd.C (Kd.slice 3 (Kd.int .i64)) w A0_0 l0_0.length l0_0) (hc0_0 : l0_0.length ≤ c0_0) (h : spec_l11Frontier.f l0_0 = some r) :
    Calls Try.prog 64 #[.agg #[.slice A0_0 l0_0.length c0_0]] w fun e w' => ∃ v0_ : Value, e = .returned (v0_) ∧ Kd.S (Kd.slice 3 (Kd.int .i64)) 32 w' w.heap.size (fun _ => True) v0_ r ∧ Below w.heap.size w w' := by
  unfold spec_l11Frontier.f at h
  cases hG : H.goodG l0_0 with
  | false => rw [hG] at h; exact absurd h (by simp)
  | true =>
    rw [hG, if_pos rfl] at h
    obtain rfl := Option.some.inj h
    have hr := H.goodG_rows hG
    have hn1 : 1 ≤ l0_0.length := hr.1.1
    have hn2 : l0_0.length ≤ 12 := hr.1.2
    have HN12 := Aside0.mk hn2
    have HR0 := Aside0.mk hr0_0
    have HC0 := Aside0.mk hc0_0
    have HG := Aside0.mk hG
    have HO := Aside0.mk (H.Own.nil w)
    have HRE := Aside0.mk (fun (W : World) (hb : Below w.heap.size w W) (wo : Int) => reach_any hG A0_0 c0_0 wo W (Kd.C_below HR0.out hb) HC0.out)
    have HDC := Aside0.mk (fun (W : World) (hb : Below w.heap.size w W) => spec_l10Dominators.calls A0_0 c0_0 l0_0 (Q.domL l0_0) W (Kd.C_below HR0.out hb) HC0.out (by unfold spec_l10Dominators.f; rw [hG, if_pos rfl]))
    have HPC := Aside0.mk (fun (W : World) (hb : Below w.heap.size w W) => spec_l11Preds.calls A0_0 c0_0 l0_0 (Q.prdL l0_0) W (Kd.C_below HR0.out hb) HC0.out (by unfold spec_l11Preds.f; rw [hG, if_pos rfl]))
    have HRIN := Aside0.mk (fun y (hy : y ∈ listTo (H.reachF l0_0 0 (-1)) 12) => ((Q.listTo_reach hG y).1 hy).rng hG (by decide) (by omega))
    have hrs := Q.listTo_small (H.reachF l0_0 0 (-1))
    clear hr0_0 hc0_0 hG h hr
    have HII := Aside0.mk (show (Try.prog.info? 32).map (·.size) = some 1 by kernel_rfl)
    obtain ⟨R, hR⟩ : ∃ R, listTo (H.reachF l0_0 0 (-1)) 12 = R := ⟨_, rfl⟩
    rw [hR] at HRIN hrs
    have HRD := Aside0.mk hR
    have hdl := Q.domL_length l0_0
    have hpl := Q.prdL_length l0_0
    have HD12 := Aside0.mk (fun b => Q.domL_len12 (g := l0_0) b)
    have HP12 := Aside0.mk (fun b => Q.prdL_len12 (g := l0_0) b)
    have HPRN := Aside0.mk (fun (b : Nat) (hb : b < l0_0.length) (y : Int) (h : y ∈ (Q.prdL l0_0).getD b []) => Q.prdL_rng l0_0 hb h)
    have HFP := Aside0.mk (fun (x y p : Nat) => show Q.froP l0_0 x (y : Int) (p : Int) ↔ ((x : Int) ∈ (Q.domL l0_0).getD p [] ∧ ((x : Int) = (y : Int) ∨ ¬ (x : Int) ∈ (Q.domL l0_0).getD y [])) by unfold Q.froP; rw [Int.toNat_natCast, Int.toNat_natCast])
    have HFA := Aside0.mk (fun (b y : Nat) (hy : y < l0_0.length) => Q.froM_at (g := l0_0) (b := b) hy)
    obtain ⟨DL, hDL⟩ : ∃ DL, Q.domL l0_0 = DL := ⟨_, rfl⟩
    obtain ⟨PL, hPL⟩ : ∃ PL, Q.prdL l0_0 = PL := ⟨_, rfl⟩
    rw [hDL] at hdl HD12 HDC HFP
    rw [hPL] at hpl HP12 HPRN HPC HFA
    have HDL := Aside0.mk hdl
    have HPL := Aside0.mk hpl
    clear hR hDL hPL
    go_enter Try.func64, Try.ntmps64
    go_wp2_with (first | ((with_reducible refine gate_dst (N := 1) rfl ?_); refine H.own_box HO.out ?bxg (N := 1) ?bxd (cs := #[Value.slice A0_0 l0_0.length c0_0]) (t := 28) ?bxr ?_; (case bxd => rfl); (case bxg => rfl); (case bxr => first | (go_simp; done) | (go_simp; rfl)); intro gp w_ ho_ hb_; replace HO := Aside0.mk ho_; clear ho_ hb_) | ((with_reducible refine gate_dst (N := 12) rfl ?_); refine wpList_load_row rfl 28 (.tmp 1) rfl _ rfl 28 _ (0, 0) _ (HO.out.get 0 rfl) Try.underlying28 rfl (by kernel_rfl) ?_) | ((with_reducible refine gate_dst (N := 14) rfl ?_); refine wpList_load_row rfl 28 (.tmp 1) rfl _ rfl 28 _ (0, 0) _ (HO.out.get 0 rfl) Try.underlying28 rfl (by kernel_rfl) ?_) | ((with_reducible refine gate_dst (N := 20) rfl ?_); refine wpList_load_row rfl 28 (.tmp 1) rfl _ rfl 28 _ (0, 0) _ (HO.out.get 0 rfl) Try.underlying28 rfl (by kernel_rfl) ?_) | (go_at_call 53; refine (HDC.out _ HO.out.below).mono ?_; rintro e w' ⟨vd, rfl, hv, hb⟩; obtain ⟨gd, cd, rfl, _, _, _⟩ := Kd.S_form hv (by omega); rw [hdl] at hv; obtain ⟨N0, hN0⟩ : ∃ N0, w'.heap.size = N0 := ⟨_, rfl⟩; have HD := Aside0.mk (Kd.S_lower (Kd.S_mono (ok' := fun k => k < N0) (H.S_upto hv) (fun k hk => hN0 ▸ hk.2)) HO.out.size); have HN0 := Aside0.mk hN0; replace HO := Aside0.mk (HO.out.step hb); clear hv hb hN0) | (go_at_call 65; refine (HPC.out _ HO.out.below).mono ?_; rintro e w' ⟨vq, rfl, hv, hb⟩; obtain ⟨gq, cq, rfl, _, _, _⟩ := Kd.S_form hv (by omega); rw [hpl] at hv; obtain ⟨N1, hN1⟩ : ∃ N1, w'.heap.size = N1 := ⟨_, rfl⟩; have hN01 : N0 ≤ N1 := (by rw [← HN0.out, ← hN1]; exact hb.size); have HQ := Aside0.mk (Kd.S_lower (Kd.S_mono (ok' := fun k => N0 ≤ k ∧ k < N1) (H.S_upto hv) (fun k hk => ⟨by rw [← HN0.out]; exact hk.1, hN1 ▸ hk.2⟩)) HO.out.size); replace HD := Aside0.mk (Kd.S_below HD.out hb); have HN1 := Aside0.mk hN1; replace HO := Aside0.mk (HO.out.step hb); have hx1 := HO.out.cell 0 rfl 0; clear hv hb hN1) | ((with_reducible refine gate_dst (N := 19) rfl ?_); refine Kd.S_make (Kd.slice 3 (Kd.int .i64)) (w0 := _) _ 32 rfl (N := 19) rfl 22 _ _ rfl (l0_0.length : Int) rfl rfl Try.underlying22 (.slice none 0 0) 24 info32 rfl (by decide) (by omega) [] (ok := fun _ => True) (okp := fun _ => True) ⟨_, rfl, Kd.R_nil _ _ _ _ _⟩ (fun _ hk => hk) trivial (by omega) (by simp only [Int.toNat_natCast]; omega) (Below.refl _ _) (Nat.le_refl _) ?_; intro vs w_ ho_ hb_ hg_ hnew_; obtain ⟨N2, hN2⟩ : ∃ N2, w_.heap.size = N2 := ⟨_, rfl⟩; have hN12 : N1 ≤ N2 := (by rw [← HN1.out, ← hN2]; exact hb_.size); replace HD := Aside0.mk (Kd.S_below HD.out hb_); replace HQ := Aside0.mk (Kd.S_below HQ.out hb_); have HS := Aside0.mk (Kd.S_lower (Kd.S_mono (ok' := fun k => N1 ≤ k ∧ k < N2) (H.S_upto ho_) (fun k hk => ⟨by rw [← HN1.out]; exact hk.1, hN2 ▸ hk.2⟩)) HO.out.size); have HN2 := Aside0.mk hN2; replace HO := Aside0.mk (HO.out.step hb_); clear ho_ hb_ hg_ hnew_ hx1 hN2) | (go_at_call 68; refine (HRE.out _ HO.out.below (-1)).mono ?_; rw [HRD.out]; rintro e w' ⟨vr, rfl, hv, hb⟩; obtain ⟨AR, cR, rfl⟩ := Kd.R_slice hv; obtain ⟨N3, hN3⟩ : ∃ N3, w'.heap.size = N3 := ⟨_, rfl⟩; have hN23 : N2 ≤ N3 := (by rw [← HN2.out, ← hN3]; exact hb.size); have HV := Aside0.mk (Kd.R_lower (Kd.R_mono (ok' := fun k => N2 ≤ k ∧ k < N3) (H.R_upto hv) (fun k hk => ⟨by rw [← HN2.out]; exact hk.1, hN3 ▸ hk.2⟩)) HO.out.size); replace HD := Aside0.mk (Kd.S_below HD.out hb); replace HQ := Aside0.mk (Kd.S_below HQ.out hb); replace HS := Aside0.mk (Kd.S_below HS.out hb); have HNW := Aside0.mk (Nat.le_of_eq hN3.symm); replace HO := Aside0.mk (HO.out.step hb); clear hv hb hN3))
    rw [Int.toNat_natCast] at HS
    obtain ⟨gs, cs, rfl, hgs0, _, _⟩ := Kd.S_form HS.out (by simp; omega)
    have HGS1 := Aside0.mk ((Kd.S_R HS.out).1 gs (by simp [Value.ownBlock]))
    rw [List.length_replicate] at HS ⊢
    have HGS0 := Aside0.mk hgs0
    replace HS := Aside0.mk (Kd.S_mono (ok' := (fun k => (N1 ≤ k ∧ k < N2) ∨ N3 ≤ k)) HS.out (fun k hk => .inl hk))
    have HNN := Aside0.mk (show N0 ≤ N1 ∧ N1 ≤ N2 ∧ N2 ≤ N3 from ⟨hN01, hN12, hN23⟩)
    clear hgs0 hN01 hN12 hN23 HN0 HN1 HN2 hdl hpl
    go_loopw [23] (fun v23 wr => ∃ (i : Nat) (xs : List (List Int)), v23 = .int .i64 i ∧ i ≤ R.length ∧ Aside0 (Kd.S (Kd.slice 3 (Kd.int .i64)) 32 wr w.heap.size (fun k => (N1 ≤ k ∧ k < N2) ∨ N3 ≤ k) (.slice (some ⟨gs, 0, none⟩) l0_0.length cs) xs) ∧ Aside0 (Q.Rel l0_0.length (fun b yy => (b : Int) ∈ R.take i ∧ Q.froM l0_0 b yy) xs) ∧ Aside0 (Kd.S (Kd.slice 3 (Kd.int .i64)) 32 wr w.heap.size (fun k => k < N0) (.slice (some ⟨gd, 0, none⟩) l0_0.length cd) DL) ∧ Aside0 (Kd.S (Kd.slice 3 (Kd.int .i64)) 32 wr w.heap.size (fun k => N0 ≤ k ∧ k < N1) (.slice (some ⟨gq, 0, none⟩) l0_0.length cq) PL) ∧ Aside0 ((Kd.int .i64).R 3 wr w.heap.size (fun k => N2 ≤ k ∧ k < N3) (.slice AR R.length cR) R) ∧ Aside0 (N3 ≤ wr.heap.size) ∧ Aside0 (H.Own w wr [(gp, #[Value.slice A0_0 l0_0.length c0_0], 28)])) (fun v23 _ => R.length - (intOf v23).toNat)
    case atStart => exact ⟨0, _, rfl, Nat.zero_le _, HS, ⟨Q.Rel.nil _ (fun b _ y h => by simp at h)⟩, HD, HQ, HV, HNW, HO⟩
    case round =>
      clear HO HS HV HNW HD HQ
      obtain ⟨i, xs, rfl, hi, HS, HREL, HD, HQ, HV, HNW, HO⟩ := hrel
      by_cases hlt : i < R.length
      · obtain ⟨ad1, e1, hc1⟩ := Kd.at_int (Kd.R_reads' HV.out).2.2 (i : Int) (by omega) (by omega)
        subst e1
        rw [Int.toNat_natCast] at hc1
        have hd : rd R (i : Int) = R.getD i 0 := rfl
        rw [hd] at hc1
        have htk : R.take (i + 1) = R.take i ++ [R.getD i 0] := by rw [List.take_add_one, List.getElem?_eq_getElem hlt, List.getD_eq_getElem?_getD, List.getElem?_eq_getElem hlt]; rfl
        have hin := HRIN.out (R.getD i 0) (by rw [List.getD_eq_getElem?_getD, List.getElem?_eq_getElem hlt]; exact List.getElem_mem hlt)
        obtain ⟨x, hx⟩ : ∃ x : Nat, R.getD i 0 = (x : Int) := ⟨(R.getD i 0).toNat, by omega⟩
        rw [hx] at hc1 htk hin
        have HTK := Aside0.mk htk
        have hxn : (x : Int) < (l0_0.length : Int) := hin.2
        have HXN := Aside0.mk (show x < l0_0.length by omega)
        have hil : (i : Int) < (R.length : Int) := by omega
        clear hd htk hx hin
        go_wp2
        go_loopw [29] (fun v29 wr => ∃ (y : Nat) (xs : List (List Int)), v29 = .int .i64 y ∧ y ≤ l0_0.length ∧ Aside0 (Kd.S (Kd.slice 3 (Kd.int .i64)) 32 wr w.heap.size (fun k => (N1 ≤ k ∧ k < N2) ∨ N3 ≤ k) (.slice (some ⟨gs, 0, none⟩) l0_0.length cs) xs) ∧ Aside0 (Q.Rel l0_0.length (fun b yy => ((b : Int) ∈ R.take i ∧ Q.froM l0_0 b yy) ∨ (b = x ∧ yy < (y : Int) ∧ Q.froM l0_0 b yy)) xs) ∧ Aside0 (Kd.S (Kd.slice 3 (Kd.int .i64)) 32 wr w.heap.size (fun k => k < N0) (.slice (some ⟨gd, 0, none⟩) l0_0.length cd) DL) ∧ Aside0 (Kd.S (Kd.slice 3 (Kd.int .i64)) 32 wr w.heap.size (fun k => N0 ≤ k ∧ k < N1) (.slice (some ⟨gq, 0, none⟩) l0_0.length cq) PL) ∧ Aside0 ((Kd.int .i64).R 3 wr w.heap.size (fun k => N2 ≤ k ∧ k < N3) (.slice (some ad1) R.length cR) R) ∧ Aside0 (N3 ≤ wr.heap.size) ∧ Aside0 (H.Own w wr [(gp, #[Value.slice A0_0 l0_0.length c0_0], 28)])) (fun v29 _ => l0_0.length - (intOf v29).toNat)
        case atStart => exact ⟨0, xs, rfl, Nat.zero_le _, HS, ⟨HREL.out.congr (fun b _ yy => ⟨fun h => .inl h, fun h => h.elim id (fun h => absurd h.2.1 (by have := h.2.2.1; omega))⟩)⟩, HD, HQ, HV, HNW, HO⟩
        case round =>
          clear HO HS HV HNW HD HQ HREL hc1
          obtain ⟨y, xs, rfl, hy, HS, HREL, HD, HQ, HV, HNW, HO⟩ := hrel
          by_cases hlt2 : y < l0_0.length
          · obtain ⟨okr, ur, hur, hRr, hokr, _⟩ := H.S_holeG HQ.out hlt2
            have hyn : (y : Int) < (l0_0.length : Int) := by omega
            have HYN := Aside0.mk (show y < l0_0.length by omega)
            have HYD := HYN
            have hp12 := HP12.out y
            have hprn := HPRN.out y HYN.out
            have hfa := HFA.out x y HYN.out
            obtain ⟨row, hrow⟩ : ∃ row, PL.getD y [] = row := ⟨_, rfl⟩
            rw [hrow] at hRr hp12 hprn hfa
            have HRN := Aside0.mk hprn
            have HFAY := Aside0.mk hfa
            obtain ⟨AW, cW, rfl⟩ := Kd.R_slice hRr
            have HRW := Aside0.mk (Kd.R_mono (ok' := fun k => N0 ≤ k ∧ k < N1) hRr hokr)
            have hdr := HD12.out y
            clear hRr hrow hokr hprn hfa
            go_wp2
            go_loopw [36] (fun v36 wr => ∃ (j : Nat) (xs : List (List Int)), v36 = .int .i64 j ∧ j ≤ row.length ∧ Aside0 (Kd.S (Kd.slice 3 (Kd.int .i64)) 32 wr w.heap.size (fun k => (N1 ≤ k ∧ k < N2) ∨ N3 ≤ k) (.slice (some ⟨gs, 0, none⟩) l0_0.length cs) xs) ∧ Aside0 (Q.Rel l0_0.length (fun b yy => (((b : Int) ∈ R.take i ∧ Q.froM l0_0 b yy) ∨ (b = x ∧ yy < (y : Int) ∧ Q.froM l0_0 b yy)) ∨ (b = x ∧ yy = (y : Int) ∧ ∃ q, q ∈ row.take j ∧ Q.froP l0_0 x yy q)) xs) ∧ Aside0 (Kd.S (Kd.slice 3 (Kd.int .i64)) 32 wr w.heap.size (fun k => k < N0) (.slice (some ⟨gd, 0, none⟩) l0_0.length cd) DL) ∧ Aside0 (Kd.S (Kd.slice 3 (Kd.int .i64)) 32 wr w.heap.size (fun k => N0 ≤ k ∧ k < N1) (.slice (some ⟨gq, 0, none⟩) l0_0.length cq) PL) ∧ Aside0 ((Kd.int .i64).R 3 wr w.heap.size (fun k => N2 ≤ k ∧ k < N3) (.slice (some ad1) R.length cR) R) ∧ Aside0 ((Kd.int .i64).R 3 wr w.heap.size (fun k => N0 ≤ k ∧ k < N1) (.slice AW row.length cW) row) ∧ Aside0 (N3 ≤ wr.heap.size) ∧ Aside0 (H.Own w wr [(gp, #[Value.slice A0_0 l0_0.length c0_0], 28)])) (fun v36 _ => row.length - (intOf v36).toNat)
            case atStart => exact ⟨0, xs, rfl, Nat.zero_le _, HS, ⟨HREL.out.congr (fun b _ yy => by simp)⟩, HD, HQ, HV, HRW, HNW, HO⟩
            case round =>
              clear HO HS HV HNW HD HQ HREL HRW hur
              obtain ⟨j, xs, rfl, hj, HS, HREL, HD, HQ, HV, HRW, HNW, HO⟩ := hrel
              by_cases hlt3 : j < row.length
              · obtain ⟨ad3, e3, hc3⟩ := Kd.at_int (Kd.R_reads' HRW.out).2.2 (j : Int) (by omega) (by omega)
                subst e3
                rw [Int.toNat_natCast] at hc3
                have hd3 : rd row (j : Int) = row.getD j 0 := rfl
                rw [hd3] at hc3
                have htk2 : row.take (j + 1) = row.take j ++ [row.getD j 0] := by rw [List.take_add_one, List.getElem?_eq_getElem hlt3, List.getD_eq_getElem?_getD, List.getElem?_eq_getElem hlt3]; rfl
                have hpr := HRN.out (row.getD j 0) (by rw [List.getD_eq_getElem?_getD, List.getElem?_eq_getElem hlt3]; exact List.getElem_mem hlt3)
                obtain ⟨p, hp⟩ : ∃ p : Nat, row.getD j 0 = (p : Int) := ⟨(row.getD j 0).toNat, by omega⟩
                rw [hp] at hc3 htk2 hpr
                have HTK2 := Aside0.mk htk2
                have hpd : (p : Int) < (l0_0.length : Int) := by omega
                have hjl : (j : Int) < (row.length : Int) := by omega
                obtain ⟨okp, up, hcp, hRp, hokp, _⟩ := H.S_holeG HD.out (show p < l0_0.length by omega)
                have hfp := HFP.out x y p
                have hpl12 := HD12.out p
                obtain ⟨dp, hdp⟩ : ∃ dp, DL.getD p [] = dp := ⟨_, rfl⟩
                rw [hdp] at hRp hfp hpl12
                obtain ⟨AP, cP, rfl⟩ := Kd.R_slice hRp
                have HDP := Aside0.mk hRp
                have HDPL := Aside0.mk (show dp.length ≤ 1048576 by omega)
                obtain ⟨b1, hb1⟩ : ∃ b, decide ((x : Int) ∈ dp) = b := ⟨_, rfl⟩
                have HB1 := Aside0.mk hb1
                clear hd3 htk2 hp hpr hRp hokp hdp hpl12
                cases b1 with
                | false =>
                  have HPN := Aside0.mk (show ¬ Q.froP l0_0 x (y : Int) (p : Int) from fun h => absurd (hfp.1 h).1 (of_decide_eq_false hb1))
                  clear hfp hb1
                  go_wp2_with (go_at_call 43; (refine (has_any (dp) HDPL.out _ _ (x : Int) _ (Kd.R_reads' HDP.out).2.2 (Kd.R_reads' HDP.out).2.1).mono ?_; rw [HB1.out]; rintro e w2 ⟨rfl, hd⟩; replace HD := Aside0.mk (Kd.S_below HD.out hd.below); replace HQ := Aside0.mk (Kd.S_below HQ.out hd.below); replace HV := Aside0.mk (Kd.R_below HV.out hd.below); replace HNW := Aside0.mk (Nat.le_trans HNW.out (hd.below).size); replace HRW := Aside0.mk (Kd.R_below HRW.out hd.below); replace HO := Aside0.mk (HO.out.step hd.below); replace HS := Aside0.mk (Kd.S_below HS.out hd.below); clear hcp hc3; clear hd))
                  go_roundw
                  case rel => exact ⟨j + 1, xs, by go_num, by omega, HS, ⟨HREL.out.congr (fun b _ yy => by
                    rw [HTK2.out]
                    simp only [List.mem_append, List.mem_singleton]
                    constructor
                    · rintro (h | ⟨h1, h2, q, h3, h4⟩)
                      · exact .inl h
                      · exact .inr ⟨h1, h2, q, .inl h3, h4⟩
                    · rintro (h | ⟨h1, h2, q, h3 | h3, h4⟩)
                      · exact .inl h
                      · exact .inr ⟨h1, h2, q, h3, h4⟩
                      · exact absurd h4 (by rw [h2, h3]; exact HPN.out))⟩, HD, HQ, HV, HRW, HNW, HO⟩
                  case measure => simp [intOf]; omega
                | true =>
                  have hxp := of_decide_eq_true hb1
                  by_cases hxy : x = y
                  · have HPN := Aside0.mk (show Q.froP l0_0 x (y : Int) (p : Int) from hfp.2 ⟨hxp, .inl (by omega)⟩)
                    clear hfp hb1 hxp
                    subst hxy
                    obtain ⟨oki, u, hu, hRu, hoki, hH⟩ := H.S_holeG HS.out HXN.out
                    have hgt := Kd.S_typed HS.out gs (by simp [Value.ownBlock])
                    have HRU := Aside0.mk hRu
                    have HOK := Aside0.mk hoki
                    have HH := Aside0.mk hH
                    have HGT := Aside0.mk hgt
                    have HU := Aside0.mk hu
                    have HXL := Aside0.mk (show (xs.getD x []).length ≤ 1048576 by
                      have := HREL.out.len12 (fun b hb yy h => by
                        have hn2 := HN12.out
                        rcases h with (h | h) | h
                        · have := h.2.1; omega
                        · have := h.2.2.1; omega
                        · have := h.2.1; have := HYN.out; omega) HXN.out
                      omega)
                    clear hRu hoki hH hgt hu HS
                    go_wp2_with (first | (go_at_call 43; (refine (has_any (dp) HDPL.out _ _ (x : Int) _ (Kd.R_reads' HDP.out).2.2 (Kd.R_reads' HDP.out).2.1).mono ?_; rw [HB1.out]; rintro e w2 ⟨rfl, hd⟩; replace HD := Aside0.mk (Kd.S_below HD.out hd.below); replace HQ := Aside0.mk (Kd.S_below HQ.out hd.below); replace HV := Aside0.mk (Kd.R_below HV.out hd.below); replace HNW := Aside0.mk (Nat.le_trans HNW.out (hd.below).size); replace HRW := Aside0.mk (Kd.R_below HRW.out hd.below); replace HO := Aside0.mk (HO.out.step hd.below); replace HRU := Aside0.mk (Kd.R_below HRU.out hd.below); replace HH := Aside0.mk (Kd.H_below HH.out hd.below); replace HGT := Aside0.mk (HGT.out.imp (fun cells hc => blk_below hc hd.below)); replace HU := Aside0.mk (pw_cell_below hd.below HU.out); have hu := HU.out; clear hcp hc3; clear hd)) | (go_at_call 41; refine (put_any (xs.getD x []) HXL.out (x : Int) u _ w _ HO.out.below HRU.out).mono ?_; rintro e w3 ⟨v0, rfl, hv0, hb, hk⟩; obtain ⟨A0, c0, rfl⟩ := Kd.R_slice hv0; have HV0 := Aside0.mk hv0; have HPU := Aside0.mk (fun k (hk : some k = u.ownBlock) => HOK.out k (HRU.out.1 k hk.symm)); replace HH := Aside0.mk (H.hole_keptG HH.out hk (fun k hk => HRU.out.1 k hk.symm)); replace HRW := Aside0.mk (H.R_keptB HRW.out hk (fun k h1 h2 => by have a1 := HRW.out.1 k h1; have a2 := (HPU.out k h2); have := HNN.out; omega)); replace HV := Aside0.mk (H.R_keptB HV.out hk (fun k h1 h2 => by have a1 := HV.out.1 k h1; have a2 := (HPU.out k h2); have := HNN.out; omega)); replace HD := Aside0.mk (Kd.S_step HD.out (fun k hok hlt => hk.2 k hlt (fun h2 => by have a2 := HPU.out k h2; have := HNN.out; omega))); replace HQ := Aside0.mk (Kd.S_step HQ.out (fun k hok hlt => hk.2 k hlt (fun h2 => by have a2 := HPU.out k h2; have := HNN.out; omega))); replace HGT := Aside0.mk (HGT.out.imp (fun cells hc => (hk.2 gs (blk_lt hc) (Kd.R_ne HRU.out hc (by decide))).trans hc)); have HNW' := HNW; replace HNW := Aside0.mk (Nat.le_trans HNW.out hk.1); replace HO := Aside0.mk (HO.out.keptU HRU.out hk hb (by simp)); clear hv0 hb hk hu) | ((with_reducible refine gate_store (t := 32) (p := 68) rfl ?_); refine H.own_eputG HO.out HH.out HV0.out (Nat.le_refl _) (fun q hq => by rcases HV0.out.1 q hq with h | h; exact .inl (HRU.out.1 q h.symm); exact .inr ⟨.inr (Nat.le_trans HNW'.out h), h⟩) rfl rfl rfl rfl rfl HII.out HXN.out HGS0.out HGT.out (by simp) ?_; intro w_ ho_ hs_ hg_; replace HRW := Aside0.mk (Kd.R_step HRW.out (fun k hok hlt => hg_.block k hlt (fun he => by injection he with he; have := HGS1.out; have := HNN.out; omega))); replace HV := Aside0.mk (Kd.R_step HV.out (fun k hok hlt => hg_.block k hlt (fun he => by injection he with he; have := HGS1.out; have := HNN.out; omega))); replace HD := Aside0.mk (Kd.S_step HD.out (fun k hok hlt => hg_.block k hlt (fun he => by injection he with he; have := HGS1.out; have := HNN.out; omega))); replace HQ := Aside0.mk (Kd.S_step HQ.out (fun k hok hlt => hg_.block k hlt (fun he => by injection he with he; have := HGS1.out; have := HNN.out; omega))); replace HNW := Aside0.mk (Nat.le_trans HNW.out hg_.size); have HS := Aside0.mk hs_; replace HO := Aside0.mk ho_; clear ho_ hs_ hg_))
                    go_roundw
                    case rel => exact ⟨j + 1, _, by go_num, by omega, HS, ⟨(HREL.out.put HXN.out (x : Int)).congr (fun b _ yy => by
                      rw [HTK2.out]
                      simp only [List.mem_append, List.mem_singleton]
                      constructor
                      · rintro ((h | ⟨h1, h2, q, h3, h4⟩) | ⟨h1, h2⟩)
                        · exact .inl h
                        · exact .inr ⟨h1, h2, q, .inl h3, h4⟩
                        · exact .inr ⟨h1, h2, (p : Int), .inr rfl, by rw [h2]; exact HPN.out⟩
                      · rintro (h | ⟨h1, h2, q, h3 | h3, h4⟩)
                        · exact .inl (.inl h)
                        · exact .inl (.inr ⟨h1, h2, q, h3, h4⟩)
                        · exact .inr ⟨h1, h2⟩)⟩, HD, HQ, HV, HRW, HNW, HO⟩
                    case measure => simp [intOf]; omega
                  · have hxe : ((x : Int) == (y : Int)) = false := beq_eq_false_iff_ne.2 (by omega)
                    obtain ⟨oky, uy, hcy, hRy, hoky, _⟩ := H.S_holeG HD.out HYD.out
                    obtain ⟨dy, hdy⟩ : ∃ dy, DL.getD y [] = dy := ⟨_, rfl⟩
                    rw [hdy] at hRy hfp hdr
                    obtain ⟨AY, cY, rfl⟩ := Kd.R_slice hRy
                    have HDY := Aside0.mk hRy
                    have HDYL := Aside0.mk (show dy.length ≤ 1048576 by omega)
                    have HCY := Aside0.mk hcy
                    obtain ⟨b2, hb2⟩ : ∃ b, decide ((x : Int) ∈ dy) = b := ⟨_, rfl⟩
                    have HB2 := Aside0.mk hb2
                    clear hRy hoky hdy hcy
                    cases b2 with
                    | true =>
                      have HPN := Aside0.mk (show ¬ Q.froP l0_0 x (y : Int) (p : Int) from fun h => (hfp.1 h).2.elim (fun e => hxy (by omega)) (fun e => e (of_decide_eq_true hb2)))
                      clear hfp hb1 hb2 hxp hxy
                      go_wp2_with (go_at_call 43; first | (with_reducible refine (has_any (dp) HDPL.out _ _ (x : Int) _ (Kd.R_reads' HDP.out).2.2 (Kd.R_reads' HDP.out).2.1).mono ?_; rw [HB1.out]; rintro e w2 ⟨rfl, hd⟩; replace HD := Aside0.mk (Kd.S_below HD.out hd.below); replace HQ := Aside0.mk (Kd.S_below HQ.out hd.below); replace HV := Aside0.mk (Kd.R_below HV.out hd.below); replace HNW := Aside0.mk (Nat.le_trans HNW.out (hd.below).size); replace HRW := Aside0.mk (Kd.R_below HRW.out hd.below); replace HO := Aside0.mk (HO.out.step hd.below); replace HS := Aside0.mk (Kd.S_below HS.out hd.below); replace HDY := Aside0.mk (Kd.R_below HDY.out hd.below); have hcy := pw_cell_below hd.below HCY.out; clear hcp hc3 HB1; clear hd) | (refine (has_any (dy) HDYL.out _ _ (x : Int) _ (Kd.R_reads' HDY.out).2.2 (Kd.R_reads' HDY.out).2.1).mono ?_; rw [HB2.out]; rintro e w2 ⟨rfl, hd⟩; replace HD := Aside0.mk (Kd.S_below HD.out hd.below); replace HQ := Aside0.mk (Kd.S_below HQ.out hd.below); replace HV := Aside0.mk (Kd.R_below HV.out hd.below); replace HNW := Aside0.mk (Nat.le_trans HNW.out (hd.below).size); replace HRW := Aside0.mk (Kd.R_below HRW.out hd.below); replace HO := Aside0.mk (HO.out.step hd.below); replace HS := Aside0.mk (Kd.S_below HS.out hd.below); clear hcy; clear hd))
                      go_roundw
                      case rel => exact ⟨j + 1, xs, by go_num, by omega, HS, ⟨HREL.out.congr (fun b _ yy => by
                        rw [HTK2.out]
                        simp only [List.mem_append, List.mem_singleton]
                        constructor
                        · rintro (h | ⟨h1, h2, q, h3, h4⟩)
                          · exact .inl h
                          · exact .inr ⟨h1, h2, q, .inl h3, h4⟩
                        · rintro (h | ⟨h1, h2, q, h3 | h3, h4⟩)
                          · exact .inl h
                          · exact .inr ⟨h1, h2, q, h3, h4⟩
                          · exact absurd h4 (by rw [h2, h3]; exact HPN.out))⟩, HD, HQ, HV, HRW, HNW, HO⟩
                      case measure => simp [intOf]; omega
                    | false =>
                      have HPN := Aside0.mk (show Q.froP l0_0 x (y : Int) (p : Int) from hfp.2 ⟨hxp, .inr (of_decide_eq_false hb2)⟩)
                      clear hfp hb1 hb2 hxp hxy
                      obtain ⟨oki, u, hu, hRu, hoki, hH⟩ := H.S_holeG HS.out HXN.out
                      have hgt := Kd.S_typed HS.out gs (by simp [Value.ownBlock])
                      have HRU := Aside0.mk hRu
                      have HOK := Aside0.mk hoki
                      have HH := Aside0.mk hH
                      have HGT := Aside0.mk hgt
                      have HU := Aside0.mk hu
                      have HXL := Aside0.mk (show (xs.getD x []).length ≤ 1048576 by
                        have := HREL.out.len12 (fun b hb yy h => by
                          have hn2 := HN12.out
                          rcases h with (h | h) | h
                          · have := h.2.1; omega
                          · have := h.2.2.1; omega
                          · have := h.2.1; have := HYN.out; omega) HXN.out
                        omega)
                      clear hRu hoki hH hgt hu HS
                      go_wp2_with (first | (go_at_call 43; first | (with_reducible refine (has_any (dp) HDPL.out _ _ (x : Int) _ (Kd.R_reads' HDP.out).2.2 (Kd.R_reads' HDP.out).2.1).mono ?_; rw [HB1.out]; rintro e w2 ⟨rfl, hd⟩; replace HD := Aside0.mk (Kd.S_below HD.out hd.below); replace HQ := Aside0.mk (Kd.S_below HQ.out hd.below); replace HV := Aside0.mk (Kd.R_below HV.out hd.below); replace HNW := Aside0.mk (Nat.le_trans HNW.out (hd.below).size); replace HRW := Aside0.mk (Kd.R_below HRW.out hd.below); replace HO := Aside0.mk (HO.out.step hd.below); replace HRU := Aside0.mk (Kd.R_below HRU.out hd.below); replace HH := Aside0.mk (Kd.H_below HH.out hd.below); replace HGT := Aside0.mk (HGT.out.imp (fun cells hc => blk_below hc hd.below)); replace HU := Aside0.mk (pw_cell_below hd.below HU.out); replace HDY := Aside0.mk (Kd.R_below HDY.out hd.below); have hcy := pw_cell_below hd.below HCY.out; clear hcp hc3 HB1; clear hd) | (refine (has_any (dy) HDYL.out _ _ (x : Int) _ (Kd.R_reads' HDY.out).2.2 (Kd.R_reads' HDY.out).2.1).mono ?_; rw [HB2.out]; rintro e w2 ⟨rfl, hd⟩; replace HD := Aside0.mk (Kd.S_below HD.out hd.below); replace HQ := Aside0.mk (Kd.S_below HQ.out hd.below); replace HV := Aside0.mk (Kd.R_below HV.out hd.below); replace HNW := Aside0.mk (Nat.le_trans HNW.out (hd.below).size); replace HRW := Aside0.mk (Kd.R_below HRW.out hd.below); replace HO := Aside0.mk (HO.out.step hd.below); replace HRU := Aside0.mk (Kd.R_below HRU.out hd.below); replace HH := Aside0.mk (Kd.H_below HH.out hd.below); replace HGT := Aside0.mk (HGT.out.imp (fun cells hc => blk_below hc hd.below)); replace HU := Aside0.mk (pw_cell_below hd.below HU.out); have hu := HU.out; clear hcy; clear hd)) | (go_at_call 41; refine (put_any (xs.getD x []) HXL.out (y : Int) u _ w _ HO.out.below HRU.out).mono ?_; rintro e w3 ⟨v0, rfl, hv0, hb, hk⟩; obtain ⟨A0, c0, rfl⟩ := Kd.R_slice hv0; have HV0 := Aside0.mk hv0; have HPU := Aside0.mk (fun k (hk : some k = u.ownBlock) => HOK.out k (HRU.out.1 k hk.symm)); replace HH := Aside0.mk (H.hole_keptG HH.out hk (fun k hk => HRU.out.1 k hk.symm)); replace HRW := Aside0.mk (H.R_keptB HRW.out hk (fun k h1 h2 => by have a1 := HRW.out.1 k h1; have a2 := (HPU.out k h2); have := HNN.out; omega)); replace HV := Aside0.mk (H.R_keptB HV.out hk (fun k h1 h2 => by have a1 := HV.out.1 k h1; have a2 := (HPU.out k h2); have := HNN.out; omega)); replace HD := Aside0.mk (Kd.S_step HD.out (fun k hok hlt => hk.2 k hlt (fun h2 => by have a2 := HPU.out k h2; have := HNN.out; omega))); replace HQ := Aside0.mk (Kd.S_step HQ.out (fun k hok hlt => hk.2 k hlt (fun h2 => by have a2 := HPU.out k h2; have := HNN.out; omega))); replace HGT := Aside0.mk (HGT.out.imp (fun cells hc => (hk.2 gs (blk_lt hc) (Kd.R_ne HRU.out hc (by decide))).trans hc)); have HNW' := HNW; replace HNW := Aside0.mk (Nat.le_trans HNW.out hk.1); replace HO := Aside0.mk (HO.out.keptU HRU.out hk hb (by simp)); clear hv0 hb hk hu) | ((with_reducible refine gate_store (t := 32) (p := 68) rfl ?_); refine H.own_eputG HO.out HH.out HV0.out (Nat.le_refl _) (fun q hq => by rcases HV0.out.1 q hq with h | h; exact .inl (HRU.out.1 q h.symm); exact .inr ⟨.inr (Nat.le_trans HNW'.out h), h⟩) rfl rfl rfl rfl rfl HII.out HXN.out HGS0.out HGT.out (by simp) ?_; intro w_ ho_ hs_ hg_; replace HRW := Aside0.mk (Kd.R_step HRW.out (fun k hok hlt => hg_.block k hlt (fun he => by injection he with he; have := HGS1.out; have := HNN.out; omega))); replace HV := Aside0.mk (Kd.R_step HV.out (fun k hok hlt => hg_.block k hlt (fun he => by injection he with he; have := HGS1.out; have := HNN.out; omega))); replace HD := Aside0.mk (Kd.S_step HD.out (fun k hok hlt => hg_.block k hlt (fun he => by injection he with he; have := HGS1.out; have := HNN.out; omega))); replace HQ := Aside0.mk (Kd.S_step HQ.out (fun k hok hlt => hg_.block k hlt (fun he => by injection he with he; have := HGS1.out; have := HNN.out; omega))); replace HNW := Aside0.mk (Nat.le_trans HNW.out hg_.size); have HS := Aside0.mk hs_; replace HO := Aside0.mk ho_; clear ho_ hs_ hg_))
                      go_roundw
                      case rel => exact ⟨j + 1, _, by go_num, by omega, HS, ⟨(HREL.out.put HXN.out (y : Int)).congr (fun b _ yy => by
                        rw [HTK2.out]
                        simp only [List.mem_append, List.mem_singleton]
                        constructor
                        · rintro ((h | ⟨h1, h2, q, h3, h4⟩) | ⟨h1, h2⟩)
                          · exact .inl h
                          · exact .inr ⟨h1, h2, q, .inl h3, h4⟩
                          · exact .inr ⟨h1, h2, (p : Int), .inr rfl, by rw [h2]; exact HPN.out⟩
                        · rintro (h | ⟨h1, h2, q, h3 | h3, h4⟩)
                          · exact .inl (.inl h)
                          · exact .inl (.inr ⟨h1, h2, q, h3, h4⟩)
                          · exact .inr ⟨h1, h2⟩)⟩, HD, HQ, HV, HRW, HNW, HO⟩
                      case measure => simp [intOf]; omega
              · have hE : j = row.length := by omega
                subst hE
                go_wp2
                go_roundw
                case rel => exact ⟨y + 1, xs, by go_num, by omega, HS, ⟨HREL.out.congr (fun b _ yy => by
                  rw [List.take_length]
                  constructor
                  · rintro ((h | h) | ⟨h1, h2, h3⟩)
                    · exact .inl h
                    · exact .inr ⟨h.1, by have := h.2.1; omega, h.2.2⟩
                    · subst h1 h2
                      exact .inr ⟨rfl, by omega, HFAY.out.2 h3⟩
                  · rintro (h | ⟨h1, h2, h3⟩)
                    · exact .inl (.inl h)
                    · by_cases e : yy = (y : Int)
                      · subst h1 e
                        exact .inr ⟨rfl, rfl, HFAY.out.1 h3⟩
                      · exact .inl (.inr ⟨h1, by omega, h3⟩))⟩, HD, HQ, HV, HNW, HO⟩
                case measure => simp [intOf]; omega
          · have hE : y = l0_0.length := by omega
            subst hE
            go_wp2
            go_roundw
            case rel => exact ⟨i + 1, xs, by go_num, by omega, HS, ⟨HREL.out.congr (fun b _ yy => by
              rw [HTK.out]
              simp only [List.mem_append, List.mem_singleton]
              constructor
              · rintro (h | h)
                · exact ⟨.inl h.1, h.2⟩
                · exact ⟨.inr (by omega), h.2.2⟩
              · rintro ⟨h | h, h2⟩
                · exact .inl ⟨h, h2⟩
                · exact .inr ⟨by omega, by have := h2.1; have := HPL.out; omega, h2⟩)⟩, HD, HQ, HV, HNW, HO⟩
            case measure => simp [intOf]; omega
      · have hE : i = R.length := by omega
        subst hE
        have hfin : xs = Q.froL l0_0 := by
          refine (HREL.out.congr (fun b _ y => ?_)).uniq (Q.froL_rel HN12.out)
          rw [List.take_length]
          exact ⟨fun h => h.2, fun h => ⟨HRD.out ▸ Q.froM_in HG.out h, h⟩⟩
        subst hfin
        go_wp2
        go_ret
        exact ⟨_, rfl, Kd.S_mono HS.out (fun _ _ => trivial), HO.out.below⟩
end Go.Proofs.Ytndkblahnihhjaa.P

namespace Go.Proofs.Ytndkblahnihhjaa.P
open Go.RowKit Go.Proofs.YtndkblahnihhjaaW.PrintWords Go.Proofs.YtndkblahnihhjaaW.PrintLast Go.Proofs.YtndkblahnihhjaaW.PrintMore
attribute [local go_sem] max2_int min2_int max_two min_two max_three min_three max_four min_four
def spec_l11Joins.f (l0_0 : List (List Int)) (l1 : List Int) : Option (List Int) := if H.goodG l0_0 && Q.inRow l0_0.length l1 then some (listTo (Q.joinsF (Q.froL l0_0) l1) 12) else none
set_option maxHeartbeats 8000000 in
set_option maxRecDepth 100000 in
theorem spec_l11Joins.calls (A0_0 : Option Addr) (c0_0 : Nat) (l0_0 : List (List Int)) (A1 : Option Addr) (c1 : Nat) (l1 : List Int) (r : List Int) (w : World) (hr0_0 : Kd.C (Kd.slice 3 (Kd.int .i64)) w A0_0 l0_0.length l0_0) (hc0_0 : l0_0.length ≤ c0_0) (hr1 : Kd.C (Kd.int .i64) w A1 l1.length l1) (hc1 : l1.length ≤ c1) (h : spec_l11Joins.f l0_0 l1 = some r) :
    Calls Try.prog 42 #[.agg #[.slice A0_0 l0_0.length c0_0], .slice A1 l1.length c1] w fun e w' => ∃ v0_ : Value, e = .returned (v0_) ∧ Kd.R (Kd.int .i64) 3 w' w.heap.size (fun _ => True) v0_ r ∧ Below w.heap.size w w' := by
  unfold spec_l11Joins.f at h
  cases hG : H.goodG l0_0 with
  | false => rw [hG] at h; exact absurd h (by simp)
  | true =>
    rw [hG, Bool.true_and] at h
    cases hI : Q.inRow l0_0.length l1 with
    | false => rw [hI] at h; exact absurd h (by simp)
    | true =>
    rw [hI, if_pos rfl] at h
    obtain rfl := Option.some.inj h
    have hr := H.goodG_rows hG
    have hn1 : 1 ≤ l0_0.length := hr.1.1
    have hn2 : l0_0.length ≤ 12 := hr.1.2
    obtain ⟨hrng, hl12⟩ := Q.inRow_all hI
    have HR0 := Aside0.mk hr0_0
    have HC0 := Aside0.mk hc0_0
    have HR1 := Aside0.mk hr1
    have HO := Aside0.mk (H.Own.nil w)
    have HFC := Aside0.mk (fun (W : World) (hb : Below w.heap.size w W) => spec_l11Frontier.calls A0_0 c0_0 l0_0 (Q.froL l0_0) W (Kd.C_below HR0.out hb) HC0.out (by unfold spec_l11Frontier.f; rw [hG, if_pos rfl]))
    have hrow := Q.froL_row (g := l0_0) hn2
    have hrow12 := Q.froL_row12 (g := l0_0) hn2
    have hfl : (Q.froL l0_0).length = l0_0.length := by unfold Q.froL H.froF; rw [List.length_map, H.matF_len]
    have HDONE := Aside0.mk (fun acc => Q.JSnd.done (acc := acc) hrow12 (fun y hy => ⟨(hrng y hy).1, by have := (hrng y hy).2; omega⟩) hl12)
    have HLEN := Aside0.mk (fun acc (h : Q.JSnd (Q.froL l0_0) l1 acc) => h.len hrow12)
    have HJR := Aside0.mk (fun y (h : Q.Jn (Q.froL l0_0) l1 y) => h.rng hrow)
    obtain ⟨FL, hFL⟩ : ∃ FL, Q.froL l0_0 = FL := ⟨_, rfl⟩
    rw [hFL] at HFC hfl HDONE HLEN HJR hrow ⊢
    obtain ⟨fin, hfin⟩ : ∃ fin, listTo (Q.joinsF FL l1) 12 = fin := ⟨_, rfl⟩
    rw [hfin] at HDONE ⊢
    have HRNG := Aside0.mk hrng
    have HROW := Aside0.mk hrow
    clear hr0_0 hc0_0 hr1 hG hI h hr hrng hrow hrow12 hFL hfin
    go_enter Try.func42, Try.ntmps42
    go_wp2_with (first | ((with_reducible refine gate_dst (N := 2) rfl ?_); refine H.own_box HO.out ?bxg (N := 2) ?bxd (cs := #[Value.slice A0_0 l0_0.length c0_0]) (t := 28) ?bxr ?_; (case bxd => rfl); (case bxg => rfl); (case bxr => first | (go_simp; done) | (go_simp; rfl)); intro gp w_ ho_ hb_; replace HO := Aside0.mk ho_; clear ho_ hb_) | ((with_reducible refine gate_dst (N := 12) rfl ?_); refine wpList_load_row rfl 28 (.tmp 2) rfl _ rfl 28 _ (0, 0) _ (HO.out.get 0 rfl) Try.underlying28 rfl (by kernel_rfl) ?_) | (go_at_call 64; refine (HFC.out _ HO.out.below).mono ?_; rintro e w' ⟨vd, rfl, hv, hb⟩; obtain ⟨gd, cd, rfl, _, _, _⟩ := Kd.S_form hv (by omega); rw [hfl] at hv; obtain ⟨N0, hN0⟩ : ∃ N0, w'.heap.size = N0 := ⟨_, rfl⟩; have HD := Aside0.mk (Kd.S_lower (Kd.S_mono (ok' := fun k => k < N0) (H.S_upto hv) (fun k hk => hN0 ▸ hk.2)) HO.out.size); have HNW := Aside0.mk (Nat.le_of_eq hN0.symm); replace HO := Aside0.mk (HO.out.step hb); clear hv hb hN0))
    clear hfl
    go_loopw [6] (fun v6 wr => ∃ acc, Aside0 (Q.JSnd FL l1 acc) ∧ Aside0 ((Kd.int .i64).R 3 wr w.heap.size (fun k => N0 ≤ k) v6 acc) ∧ Aside0 (Kd.S (Kd.slice 3 (Kd.int .i64)) 32 wr w.heap.size (fun k => k < N0) (.slice (some ⟨gd, 0, none⟩) l0_0.length cd) FL) ∧ Aside0 (N0 ≤ wr.heap.size) ∧ Aside0 (H.Own w wr [(gp, #[Value.slice A0_0 l0_0.length c0_0], 28)])) (fun v6 _ => 13 - Q.sliceLen v6)
    case atStart => exact ⟨[], ⟨Q.JSnd.nil _ _⟩, ⟨Kd.R_nil _ _ _ _ _⟩, HD, HNW, HO⟩
    case round =>
      clear HO HD HNW
      obtain ⟨acc, HJ, HV, HD, HN01, HO⟩ := hrel
      obtain ⟨AO, cO, rfl⟩ := Kd.R_slice HV.out
      have hal := HLEN.out acc HJ.out
      have HAL := Aside0.mk hal
      obtain ⟨N1, hN1⟩ : ∃ N1, wr.heap.size = N1 := ⟨_, rfl⟩
      rw [hN1] at HN01
      have HN1 := Aside0.mk (Nat.le_of_eq hN1.symm)
      replace HV := Aside0.mk (Kd.R_mono (ok' := fun k => N0 ≤ k ∧ k < N1) (Kd.R_tight rfl HV.out) (fun k hk => ⟨HV.out.1 k hk.symm, by rw [← hN1]; exact Kd.R_lt HV.out k hk.symm⟩))
      clear hN1
      go_wp2_with (first | ((with_reducible refine gate_dst (N := 16) rfl ?_); refine Kd.R_lit (Kd.int .i64) (w0 := w) w.heap.size 3 ?bxg (N := 16) ?bxd (xs := ([] : List Int)) (inner := []) (ok := fun k => N1 ≤ k) (okp := fun k => N1 ≤ k) ?bxr ?bxp (fun _ hk => hk) HN1.out HO.out.below HO.out.size (by simp) ?_; (case bxd => rfl); (case bxg => rfl); (case bxr => first | (go_simp; done) | (go_simp; rfl)); (case bxp => exact Reps.none _ _); intro v16 w_ ho_ hb_ hg_ hnew_; replace HD := Aside0.mk (Kd.S_step HD.out (fun k hok hlt => hg_.block k hlt (fun he => by cases he))); replace HV := Aside0.mk (Kd.R_step HV.out (fun k hok hlt => hg_.block k hlt (fun he => by cases he))); replace HO := Aside0.mk (HO.out.grown hg_ (fun k hk => by cases hk)); replace HN1 := Aside0.mk (Nat.le_trans HN1.out hg_.size); have HE := Aside0.mk ho_; clear ho_ hb_ hg_ hnew_) | ((with_reducible refine gate_builtin (b := .append) (xs := #[.tmp 16, .tmp 17]) rfl ?_); at_builtin; refine Kd.R_append_rows (Kd.int .i64) (w0 := w) w.heap.size rfl (.tmp 16) (.tmp 17) 32 3 (.int .i64 0) 8 rfl Try.underlying32 info3 rfl (by decide) (by omega) v16 [] l1 _ _ _ (fun k => N1 ≤ k) (fun _ => False) rfl rfl ?aO ?aR (fun _ _ h => h) (fun _ h => h.elim) ?aF ?aB ?aS ?aL ?_; (case aO => exact HE.out); (case aR => exact Kd.C_below HR1.out HO.out.below); (case aF => exact fun k hk => Nat.le_trans HN1.out hk); (case aB => exact HO.out.below); (case aS => exact HO.out.size); (case aL => (first | (simp only [List.length_nil]; omega) | (simp only [List.length_append, List.length_nil]; omega))); intro v18 w_ ho_ hb_ hg_ hat_; replace HD := Aside0.mk (Kd.S_step HD.out (fun k hok hlt => hg_.block k hlt (fun he => by have := HE.out.1 k he.symm; have := HN01.out; omega))); replace HV := Aside0.mk (Kd.R_step HV.out (fun k hok hlt => hg_.block k hlt (fun he => by have := HE.out.1 k he.symm; omega))); replace HO := Aside0.mk (HO.out.row HE.out (Nat.le_refl _) hg_ (by simp)); replace HN1 := Aside0.mk (Nat.le_trans HN1.out hg_.size); have HF1 := Aside0.mk ho_; clear ho_ hb_ hg_ hat_ HE) | ((with_reducible refine gate_builtin (b := .append) (xs := #[.tmp 18, .tmp 19]) rfl ?_); at_builtin; refine Kd.R_append_rows (Kd.int .i64) (w0 := w) w.heap.size rfl (.tmp 18) (.tmp 19) 32 3 (.int .i64 0) 8 rfl Try.underlying32 info3 rfl (by decide) (by omega) v18 ([] ++ l1) acc _ _ _ (fun k => N1 ≤ k) (fun _ => False) rfl rfl ?bO ?bR (fun _ _ h => h) (fun _ h => h.elim) ?bF ?bB ?bS ?bL ?_; (case bO => exact HF1.out); (case bR => exact (Kd.R_reads' HV.out).2.2); (case bF => exact fun k hk => Nat.le_trans HN1.out hk); (case bB => exact HO.out.below); (case bS => exact HO.out.size); (case bL => (first | (simp only [List.length_nil]; omega) | (simp only [List.length_append, List.length_nil]; omega))); intro v20 w_ ho_ hb_ hg_ hat_; rw [List.nil_append] at ho_; obtain ⟨q, hq⟩ : ∃ q, l1 ++ acc = q := ⟨_, rfl⟩; rw [hq] at ho_; obtain ⟨AQ, cQ, rfl⟩ := Kd.R_slice ho_; have HQE := Aside0.mk hq; clear hq; replace HD := Aside0.mk (Kd.S_step HD.out (fun k hok hlt => hg_.block k hlt (fun he => by have := HF1.out.1 k he.symm; have := HN01.out; omega))); replace HV := Aside0.mk (Kd.R_step HV.out (fun k hok hlt => hg_.block k hlt (fun he => by have := HF1.out.1 k he.symm; omega))); replace HO := Aside0.mk (HO.out.row HF1.out (Nat.le_refl _) hg_ (by simp)); replace HN1 := Aside0.mk (Nat.le_trans HN1.out hg_.size); have HF2 := Aside0.mk ho_; clear ho_ hb_ hg_ hat_ HF1))
      obtain ⟨N2, hN2⟩ : ∃ N2, w_.heap.size = N2 := ⟨_, rfl⟩
      have HQ := Aside0.mk (Kd.R_mono (ok' := (fun k => N1 ≤ k ∧ k < N2)) (Kd.R_tight rfl HF2.out) (fun k hk => ⟨HF2.out.1 k hk.symm, by rw [← hN2]; exact Kd.R_lt HF2.out k hk.symm⟩))
      have HN12 := Aside0.mk (show N1 ≤ N2 by rw [← hN2]; exact HN1.out)
      have HNW := Aside0.mk (Nat.le_of_eq hN2.symm)
      replace HV := Aside0.mk (Kd.R_mono (ok' := (fun k => (N0 ≤ k ∧ k < N1) ∨ N2 ≤ k)) HV.out (fun k hk => .inl hk))
      have HQR := Aside0.mk (show ∀ x ∈ l1 ++ acc, 0 ≤ x ∧ x < (l0_0.length : Int) from fun x hx => by
        rcases List.mem_append.1 hx with h | h
        · exact HRNG.out x h
        · exact HJR.out x (HJ.out.snd x h))
      have HQJ := Aside0.mk (show ∀ x ∈ l1 ++ acc, ∀ y ∈ FL.getD x.toNat [], Q.Jn FL l1 y from fun x hx y hy => by
        rcases List.mem_append.1 hx with h | h
        · exact .one h hy
        · exact .on (HJ.out.snd x h) hy)
      have hq24 : (l1 ++ acc).length ≤ 24 := by rw [List.length_append]; omega
      rw [HQE.out] at HQR HQJ hq24
      clear hN2 HN1 HF2
      go_loopw [22, 6] (fun v22 v6 wr => ∃ (i : Nat) (acc2 : List Int), v22 = .int .i64 i ∧ i ≤ q.length ∧ Aside0 (Q.JSnd FL l1 acc2) ∧ Aside0 (∀ y ∈ acc, y ∈ acc2) ∧ Aside0 (∀ x ∈ q.take i, ∀ y ∈ FL.getD x.toNat [], y ∈ acc2) ∧ Aside0 ((Kd.int .i64).R 3 wr w.heap.size (fun k => (N0 ≤ k ∧ k < N1) ∨ N2 ≤ k) v6 acc2) ∧ Aside0 ((Kd.int .i64).R 3 wr w.heap.size (fun k => N1 ≤ k ∧ k < N2) (.slice AQ q.length cQ) q) ∧ Aside0 (Kd.S (Kd.slice 3 (Kd.int .i64)) 32 wr w.heap.size (fun k => k < N0) (.slice (some ⟨gd, 0, none⟩) l0_0.length cd) FL) ∧ Aside0 (N2 ≤ wr.heap.size) ∧ Aside0 (H.Own w wr [(gp, #[Value.slice A0_0 l0_0.length c0_0], 28)])) (fun v22 _ _ => q.length - (intOf v22).toNat)
      case atStart => exact ⟨0, acc, rfl, Nat.zero_le _, HJ, ⟨fun _ h => h⟩, ⟨fun x hx => by simp at hx⟩, HV, HQ, HD, HNW, HO⟩
      case round =>
        clear HO HV HQ HD HNW
        obtain ⟨i, acc2, rfl, hi, HJ2, HSUB, HCL, HV, HQ, HD, HNW, HO⟩ := hrel
        obtain ⟨AO2, cO2, rfl⟩ := Kd.R_slice HV.out
        by_cases hlt : i < q.length
        · obtain ⟨ad1, e1, hc1⟩ := Kd.at_int (Kd.R_reads' HQ.out).2.2 (i : Int) (by omega) (by omega)
          subst e1
          rw [Int.toNat_natCast] at hc1
          have hd : rd q (i : Int) = q.getD i 0 := rfl
          rw [hd] at hc1
          have htk : q.take (i + 1) = q.take i ++ [q.getD i 0] := by rw [List.take_add_one, List.getElem?_eq_getElem hlt, List.getD_eq_getElem?_getD, List.getElem?_eq_getElem hlt]; rfl
          have hmem : q.getD i 0 ∈ q := by rw [List.getD_eq_getElem?_getD, List.getElem?_eq_getElem hlt]; exact List.getElem_mem hlt
          have hin := HQR.out _ hmem
          have hqj := HQJ.out _ hmem
          obtain ⟨x, hx⟩ : ∃ x : Nat, q.getD i 0 = (x : Int) := ⟨(q.getD i 0).toNat, by omega⟩
          rw [hx] at hc1 htk hin hqj
          rw [Int.toNat_natCast] at hqj
          have HTK := Aside0.mk htk
          have hxn : (x : Int) < (l0_0.length : Int) := hin.2
          have hil : (i : Int) < (q.length : Int) := by omega
          obtain ⟨okr, ur, hur, hRr, hokr, _⟩ := H.S_holeG HD.out (show x < l0_0.length by omega)
          obtain ⟨row, hrow⟩ : ∃ row, FL.getD x [] = row := ⟨_, rfl⟩
          rw [hrow] at hRr hqj
          obtain ⟨AW, cW, rfl⟩ := Kd.R_slice hRr
          have HRW := Aside0.mk (Kd.R_mono (ok' := fun k => k < N0) hRr hokr)
          have HRJ := Aside0.mk hqj
          have hrl64 := (Kd.C_below (Kd.R_reads' HRW.out).2.2 (Below.refl _ _)).2.1
          have HRE := Aside0.mk hrow
          clear hd htk hmem hin hqj hx hRr hokr hrow
          go_wp2
          go_loopw [31, 6] (fun v31 v6 wr => ∃ (j : Nat) (acc3 : List Int), v31 = .int .i64 j ∧ j ≤ row.length ∧ Aside0 (Q.JSnd FL l1 acc3) ∧ Aside0 (∀ y ∈ acc2, y ∈ acc3) ∧ Aside0 (∀ y ∈ row.take j, y ∈ acc3) ∧ Aside0 ((Kd.int .i64).R 3 wr w.heap.size (fun k => (N0 ≤ k ∧ k < N1) ∨ N2 ≤ k) v6 acc3) ∧ Aside0 ((Kd.int .i64).R 3 wr w.heap.size (fun k => N1 ≤ k ∧ k < N2) (.slice (some ad1) q.length cQ) q) ∧ Aside0 (Kd.S (Kd.slice 3 (Kd.int .i64)) 32 wr w.heap.size (fun k => k < N0) (.slice (some ⟨gd, 0, none⟩) l0_0.length cd) FL) ∧ Aside0 ((Kd.int .i64).R 3 wr w.heap.size (fun k => k < N0) (.slice AW row.length cW) row) ∧ Aside0 (N2 ≤ wr.heap.size) ∧ Aside0 (H.Own w wr [(gp, #[Value.slice A0_0 l0_0.length c0_0], 28)])) (fun v31 _ _ => row.length - (intOf v31).toNat)
          case atStart => exact ⟨0, acc2, rfl, Nat.zero_le _, HJ2, ⟨fun _ h => h⟩, ⟨fun x hx => by simp at hx⟩, HV, HQ, HD, HRW, HNW, HO⟩
          case round =>
            clear HO HV HQ HD HNW HRW hc1 hur
            obtain ⟨j, acc3, rfl, hj, HJ3, HSB3, HC3, HV, HQ, HD, HRW, HNW, HO⟩ := hrel
            obtain ⟨AO3, cO3, rfl⟩ := Kd.R_slice HV.out
            have hl3 := HLEN.out acc3 HJ3.out
            have HL3 := Aside0.mk (show acc3.length ≤ 1048576 by omega)
            by_cases hlt2 : j < row.length
            · obtain ⟨ad2, e2, hc2⟩ := Kd.at_int (Kd.R_reads' HRW.out).2.2 (j : Int) (by omega) (by omega)
              subst e2
              rw [Int.toNat_natCast] at hc2
              have hd : rd row (j : Int) = row.getD j 0 := rfl
              rw [hd] at hc2
              have htk : row.take (j + 1) = row.take j ++ [row.getD j 0] := by rw [List.take_add_one, List.getElem?_eq_getElem hlt2, List.getD_eq_getElem?_getD, List.getElem?_eq_getElem hlt2]; rfl
              have hmem : row.getD j 0 ∈ row := by rw [List.getD_eq_getElem?_getD, List.getElem?_eq_getElem hlt2]; exact List.getElem_mem hlt2
              have HJY := Aside0.mk (HRJ.out _ hmem)
              have HTK2 := Aside0.mk htk
              have hjl : (j : Int) < (row.length : Int) := by omega
              generalize row.getD j 0 = y at hc2 HJY HTK2
              clear hd htk hmem
              go_wp2_with (go_at_call 41; refine (put_any acc3 HL3.out y (.slice AO3 acc3.length cO3) _ w _ HO.out.below HV.out).mono ?_; rintro e w3 ⟨v0, rfl, hv0, hb, hk⟩; have HPU := Aside0.mk (fun k (hk : some k = (Value.slice AO3 acc3.length cO3).ownBlock) => HV.out.1 k hk.symm); replace HRW := Aside0.mk (H.R_keptB HRW.out hk (fun k h1 h2 => by have a1 := HRW.out.1 k h1; have a2 := (HPU.out k h2); have := HN01.out; have := HN12.out; omega)); replace HQ := Aside0.mk (H.R_keptB HQ.out hk (fun k h1 h2 => by have a1 := HQ.out.1 k h1; have a2 := (HPU.out k h2); have := HN01.out; have := HN12.out; omega)); replace HD := Aside0.mk (Kd.S_step HD.out (fun k hok hlt => hk.2 k hlt (fun h2 => by have a2 := HPU.out k h2; have := HN01.out; have := HN12.out; omega))); replace HO := Aside0.mk (HO.out.keptU HV.out hk hb (by simp)); replace HV := Aside0.mk (Kd.R_mono (ok' := (fun k => (N0 ≤ k ∧ k < N1) ∨ N2 ≤ k)) hv0 (fun k hk' => hk'.elim (fun h => HPU.out k h) (fun h => .inr (Nat.le_trans HNW.out h)))); replace HNW := Aside0.mk (Nat.le_trans HNW.out hk.1); clear hv0 hb hk hc2)
              go_roundw
              case rel => exact ⟨j + 1, _, by go_num, by omega, ⟨HJ3.out.put HJY.out⟩, ⟨fun z hz => (Q.putL_mem _ _ _).2 (.inl (HSB3.out z hz))⟩, ⟨fun z hz => by
                rw [HTK2.out] at hz
                rcases List.mem_append.1 hz with h | h
                · exact (Q.putL_mem _ _ _).2 (.inl (HC3.out z h))
                · exact (Q.putL_mem _ _ _).2 (.inr (List.mem_singleton.1 h))⟩, HV, HQ, HD, HRW, HNW, HO⟩
              case measure => simp [intOf]; omega
            · have hE : j = row.length := by omega
              subst hE
              go_wp2
              go_roundw
              case rel => exact ⟨i + 1, acc3, by go_num, by omega, HJ3, ⟨fun z hz => HSB3.out z (HSUB.out z hz)⟩, ⟨fun z hz z2 hz2 => by
                rw [HTK.out] at hz
                rcases List.mem_append.1 hz with h | h
                · exact HSB3.out _ (HCL.out z h z2 hz2)
                · rw [List.mem_singleton.1 h, Int.toNat_natCast, HRE.out] at hz2
                  exact HC3.out z2 (by rw [List.take_length]; exact hz2)⟩, HV, HQ, HD, HNW, HO⟩
              case measure => simp [intOf]; omega
        · have hE : i = q.length := by omega
          subst hE
          have hgrow := HJ.out.grow HJ2.out HSUB.out
          have hl2 := HLEN.out acc2 HJ2.out
          have hsame := HJ.out.same HJ2.out HSUB.out
          by_cases e : acc2.length = acc.length
          · have e2 := hsame e
            subst e2
            have HF := Aside0.mk (HDONE.out acc2 HJ.out (fun x hx y hy => HCL.out x (by rw [List.take_length, ← HQE.out]; exact hx) y hy))
            clear hgrow hsame
            go_wp2
            go_ret
            exact ⟨_, rfl, by rw [← HF.out]; exact Kd.R_mono HV.out (fun _ _ => trivial), HO.out.below⟩
          · have e3 : ((acc2.length : Int) == (acc.length : Int)) = false := beq_eq_false_iff_ne.2 (by omega)
            clear hsame
            go_wp2
            go_roundw
            case rel => exact ⟨acc2, HJ2, ⟨Kd.R_mono HV.out (fun k hk => by have := HN01.out; have := HN12.out; omega)⟩, HD, ⟨by have := HN01.out; have := HN12.out; have := HNW.out; omega⟩, HO⟩
            case measure => simp [Q.sliceLen]; omega
end Go.Proofs.Ytndkblahnihhjaa.P

