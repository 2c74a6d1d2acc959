import Derived.Test.YtkfpbblaomgihaaMFnExactIsFixed1
import Derived.Test.YtkfpbblaomgihaaMFnExactIsFixed2
import Derived.Test.YtkfpbblaomgihaaMFnExactIsFixed3
-- Written by a program of this session (wip/plug.py) out of Lean's print of the translation.
namespace Go.Proofs.Ytkfpbblaomgihaa.P
open Go.RowKit Go.Proofs.YtkfpbblaomgihaaW.PrintWords Go.Proofs.YtkfpbblaomgihaaW.PrintLast Go.Proofs.YtkfpbblaomgihaaW.PrintMore
attribute [local go_sem] max2_int min2_int max_two min_two max_three min_three max_four min_four   -- for this text's walks alone
set_option linter.unusedVariables false
set_option linter.unusedSimpArgs false

/-! ### impl_GoodFlow_1: function 51 -/
def impl_GoodFlow_1.f (k : Nat) (l0_0 : List Int) (l0_1 : List Int) : Option (Bool) := (impl_rising.f k l0_0 0 7).bind fun t179 => (if t179 = true then ((impl_rising.f k l0_1 0 7).bind fun t180 => (some (!t180))) else (some true))
theorem impl_GoodFlow_1.mono : ∀ a0 a1 k, LeO (impl_GoodFlow_1.f k a0 a1) (impl_GoodFlow_1.f (k + 1) a0 a1) := by
  intro a0 a1 k
  unfold impl_GoodFlow_1.f
  repeat' first
      | (with_reducible exact impl_rising.mono _ _ _ _)
      | (with_reducible exact LeO.refl _)
      | (with_reducible exact LeO.none _)
      | (with_reducible refine LeO.ite ?_ ?_)
      | (with_reducible refine LeO.bind ?_ (fun _ => ?_))
      | exact impl_rising.mono _ _ _ _
      | exact LeO.none _
      | refine LeO.ite ?_ ?_
      | refine LeO.bind ?_ (fun _ => ?_)
set_option maxHeartbeats 8000000 in
set_option maxRecDepth 100000 in
theorem impl_GoodFlow_1.calls (k : Nat) (A0_0 : Option Addr) (c0_0 : Nat) (l0_0 : List Int) (A0_1 : Option Addr) (c0_1 : Nat) (l0_1 : List Int) (r : Bool) (w : World) (hr0_0 : Kd.C (Kd.int .i64) w A0_0 l0_0.length l0_0) (hc0_0 : l0_0.length ≤ c0_0) (hr0_1 : Kd.C (Kd.int .i64) w A0_1 l0_1.length l0_1) (hc0_1 : l0_1.length ≤ c0_1) (h : impl_GoodFlow_1.f k l0_0 l0_1 = some r) :
    Calls Try.prog 51 #[.agg #[.slice A0_0 l0_0.length c0_0, .slice A0_1 l0_1.length c0_1]] w fun e w' => e = .returned (.bool r) ∧ Below w.heap.size w w' := by
  have hu56 := Try.underlying56
  have HR0_0 := Aside0.mk hr0_0
  have HC0_0 := Aside0.mk hc0_0
  clear hr0_0 hc0_0
  have HR0_1 := Aside0.mk hr0_1
  have HC0_1 := Aside0.mk hc0_1
  clear hr0_1 hc0_1
  have HB := Aside0.mk (Below.refl w.heap.size w)
  have H : ((impl_rising.f k l0_0 0 7).bind fun t179 => (if t179 = true then ((impl_rising.f k l0_1 0 7).bind fun t180 => (some (!t180))) else (some true))) = some r := h
  clear h
  replace H := Option.bind_eq_some_iff.mp H
  obtain ⟨t179, A20, H⟩ := H
  replace H : (if t179 = true then ((impl_rising.f k l0_1 0 7).bind fun t180 => (some (!t180))) else (some true)) = some r := H
  have A2 := Aside0.mk A20
  clear A20
  by_cases c3 : t179 = true
  · subst c3
    have H1 : ((impl_rising.f k l0_1 0 7).bind fun t180 => (some (!t180))) = some r := by rw [if_pos rfl] at H; exact H
    clear H
    have H := H1
    clear H1
    replace H := Option.bind_eq_some_iff.mp H
    obtain ⟨t180, A40, H⟩ := H
    replace H : (some (!t180)) = some r := H
    have A4 := Aside0.mk A40
    clear A40
    obtain rfl := Option.some.inj H
    go_enter Try.func51, Try.ntmps51
    go_wp2_with (first | ((with_reducible refine gate_dst (N := 1) rfl ?_); refine box_event ?hg (N := 1) ?hd (cs := #[.slice A0_0 l0_0.length c0_0, .slice A0_1 l0_1.length c0_1]) (t := 56) ?hr ?_; (case hd => rfl); (case hg => rfl); (case hr => first | (go_simp; done) | (go_simp; rfl)); intro gb178 hg w5 hbox hb; have n0_ := Aside0.mk (below_step (by repeat (first | (with_reducible first | exact HB.out | apply below_alloc | apply pw_below_drewN | apply below_drew1) | exact HB.out)) hb); have n1_ := Aside0.mk (hbox); have n2_ := Aside0.mk ((by rw [hg]; exact (below_size (by repeat (first | (with_reducible first | exact HB.out | apply below_alloc | apply pw_below_drewN | apply below_drew1) | exact HB.out))) : w.heap.size ≤ gb178)); have n3_ := Aside0.mk ((by rw [hg]; exact (below_size (by repeat (first | (with_reducible first | exact HB.out | apply below_alloc | apply pw_below_drewN | apply below_drew1) | exact HB.out))) : w.heap.size ≤ gb178)); clear HB; have HB := n0_; have BK178 := n1_; have GW178 := n2_; have GE178 := n3_; clear n0_ n1_ n2_ n3_; clear hb hbox hg; have hcz6_0 : w5.cell? ⟨gb178, 0, none⟩ = some (.slice A0_0 l0_0.length c0_0) := (blk_cell BK178.out 0).trans rfl; have hcz6_1 : w5.cell? ⟨gb178, 1, none⟩ = some (.slice A0_1 l0_1.length c0_1) := (blk_cell BK178.out 1).trans rfl; have hfz6_0 := blk_frozen BK178.out 0; have hfz6_1 := blk_frozen BK178.out 1) | ((with_reducible refine gate_callee (f := 52) rfl ?_); refine goesL_ (some 5) rfl rfl Try.func52 (by kernel_rfl) rfl #[.slice A0_0 l0_0.length c0_0, .int .i64 0, .int .i64 7] rfl (by (try simp only [List.map_toArray, List.map_cons, List.map_nil]); first | done | rfl | (simp only [List.length_drop, List.length_take]; rfl)) ?_; (with_reducible refine (impl_rising.calls k _ _ l0_0 0 7 true _ ?side1 ?side2 A2.out).mono ?_); (case side1 => repeat (first | exact (Kd.C_below HR0_0.out HB.out) | (with_reducible refine Kd.C_alloc ?_ _) | (with_reducible refine Kd.C_drewN ?_ _) | (with_reducible refine Kd.C_drew ?_))); (case side2 => exact HC0_0.out); rintro e w' ⟨rfl, ⟨nd, rfl⟩⟩; refine ⟨_, rfl, ?_⟩) | (go_at_call 52; (with_reducible refine (impl_rising.calls k _ _ l0_1 0 7 t180 _ ?side1 ?side2 A4.out).mono ?_); (case side1 => repeat (first | exact (Kd.C_below HR0_1.out (by repeat (first | (with_reducible first | exact HB.out | apply below_alloc | apply pw_below_drewN | apply below_drew1 | refine below_set ?_ GE178.out) | exact HB.out))) | (with_reducible refine Kd.C_alloc ?_ _) | (with_reducible refine Kd.C_drewN ?_ _) | (with_reducible refine Kd.C_drew ?_))); (case side2 => exact HC0_1.out); rintro e w' ⟨rfl, ⟨nd, rfl⟩⟩))
    go_ret
    exact ⟨by first | rfl | (simp [errW_none, errW_some] <;> rfl) | (simp [*, errW_none, errW_some] <;> rfl), by repeat (first | (with_reducible first | exact HB.out | apply below_alloc | apply pw_below_drewN | apply below_drew1 | refine below_set ?_ GE178.out) | exact HB.out)⟩
  · replace c3 := Bool.eq_false_iff.mpr c3
    subst c3
    have H1 : (some true) = some r := by rw [if_neg (show ¬ (false = true) by decide)] at H; exact H
    clear H
    have H := H1
    clear H1
    obtain rfl := Option.some.inj H
    go_enter Try.func51, Try.ntmps51
    go_wp2_with (first | ((with_reducible refine gate_dst (N := 1) rfl ?_); refine box_event ?hg (N := 1) ?hd (cs := #[.slice A0_0 l0_0.length c0_0, .slice A0_1 l0_1.length c0_1]) (t := 56) ?hr ?_; (case hd => rfl); (case hg => rfl); (case hr => first | (go_simp; done) | (go_simp; rfl)); intro gb178 hg w7 hbox hb; have n0_ := Aside0.mk (below_step (by repeat (first | (with_reducible first | exact HB.out | apply below_alloc | apply pw_below_drewN | apply below_drew1) | exact HB.out)) hb); have n1_ := Aside0.mk (hbox); have n2_ := Aside0.mk ((by rw [hg]; exact (below_size (by repeat (first | (with_reducible first | exact HB.out | apply below_alloc | apply pw_below_drewN | apply below_drew1) | exact HB.out))) : w.heap.size ≤ gb178)); have n3_ := Aside0.mk ((by rw [hg]; exact (below_size (by repeat (first | (with_reducible first | exact HB.out | apply below_alloc | apply pw_below_drewN | apply below_drew1) | exact HB.out))) : w.heap.size ≤ gb178)); clear HB; have HB := n0_; have BK178 := n1_; have GW178 := n2_; have GE178 := n3_; clear n0_ n1_ n2_ n3_; clear hb hbox hg; have hcz8_0 : w7.cell? ⟨gb178, 0, none⟩ = some (.slice A0_0 l0_0.length c0_0) := (blk_cell BK178.out 0).trans rfl; have hcz8_1 : w7.cell? ⟨gb178, 1, none⟩ = some (.slice A0_1 l0_1.length c0_1) := (blk_cell BK178.out 1).trans rfl; have hfz8_0 := blk_frozen BK178.out 0; have hfz8_1 := blk_frozen BK178.out 1) | ((with_reducible refine gate_callee (f := 52) rfl ?_); refine goesL_ (some 5) rfl rfl Try.func52 (by kernel_rfl) rfl #[.slice A0_0 l0_0.length c0_0, .int .i64 0, .int .i64 7] rfl (by (try simp only [List.map_toArray, List.map_cons, List.map_nil]); first | done | rfl | (simp only [List.length_drop, List.length_take]; rfl)) ?_; (with_reducible refine (impl_rising.calls k _ _ l0_0 0 7 false _ ?side1 ?side2 A2.out).mono ?_); (case side1 => repeat (first | exact (Kd.C_below HR0_0.out HB.out) | (with_reducible refine Kd.C_alloc ?_ _) | (with_reducible refine Kd.C_drewN ?_ _) | (with_reducible refine Kd.C_drew ?_))); (case side2 => exact HC0_0.out); rintro e w' ⟨rfl, ⟨nd, rfl⟩⟩; refine ⟨_, rfl, ?_⟩))
    go_ret
    exact ⟨by first | rfl | (simp [errW_none, errW_some] <;> rfl) | (simp [*, errW_none, errW_some] <;> rfl), by repeat (first | (with_reducible first | exact HB.out | apply below_alloc | apply pw_below_drewN | apply below_drew1 | refine below_set ?_ GE178.out) | exact HB.out)⟩

end Go.Proofs.Ytkfpbblaomgihaa.P

-- Written by a program of this session (wip/plug.py) out of Lean's print of the translation.
namespace Go.Proofs.Ytkfpbblaomgihaa.P
open Go.RowKit Go.Proofs.YtkfpbblaomgihaaW.PrintWords Go.Proofs.YtkfpbblaomgihaaW.PrintLast Go.Proofs.YtkfpbblaomgihaaW.PrintMore
attribute [local go_sem] max2_int min2_int max_two min_two max_three min_three max_four min_four   -- for this text's walks alone
set_option linter.unusedVariables false
set_option linter.unusedSimpArgs false

/-! ### impl_GoodFlow: function 15 -/
def okBlock (x : S56) : Bool := H.upB x.f0 0 7 0 && H.upB x.f1 0 7 0
def goodF (g : List (List Int)) (b : List (S56)) : Bool := (H.goodG g && decide (b.length = g.length)) && b.all okBlock
def impl_GoodFlow.f (l0_0 : List (List Int)) (l0_1 : List (S56)) : Option (Bool) := some (goodF l0_0 l0_1)
theorem impl_GoodFlow_1.ends (u s : List Int) (hu : u.length ≤ 9223372036854775807) (hs : s.length ≤ 9223372036854775807) : ∃ k, impl_GoodFlow_1.f k u s = some (!(H.upB u 0 7 0 && H.upB s 0 7 0)) := by
  apply Ev.rounds
  have e1 : Ev (fun k => impl_rising.f k u 0 7) (H.upB u 0 7 0) := by
    obtain ⟨k, h⟩ := impl_rising.ends u 0 7 hu
    exact Ev.of (fun k => impl_rising.mono _ _ _ k) h
  have e2 : Ev (fun k => impl_rising.f k s 0 7) (H.upB s 0 7 0) := by
    obtain ⟨k, h⟩ := impl_rising.ends s 0 7 hs
    exact Ev.of (fun k => impl_rising.mono _ _ _ k) h
  unfold impl_GoodFlow_1.f
  refine e1.bind ?_
  cases H.upB u 0 7 0 with
  | true =>
    refine Ev.congr (fun k => by rw [if_pos rfl]) (e2.bind ?_)
    exact H.ev_is fun k => by simp
  | false => exact H.ev_is fun k => by simp
set_option maxHeartbeats 8000000 in
theorem impl_GoodFlow.calls (A0_0 : Option Addr) (c0_0 : Nat) (l0_0 : List (List Int)) (A0_1 : Option Addr) (c0_1 : Nat) (l0_1 : List (S56)) (r : Bool) (w : World) (hr0_0 : Kd.C (Kd.slice 3 (Kd.int .i64)) w A0_0 l0_0.length l0_0) (hc0_0 : l0_0.length ≤ c0_0) (hr0_1 : Kd.C k56 w A0_1 l0_1.length l0_1) (hc0_1 : l0_1.length ≤ c0_1) (h : impl_GoodFlow.f l0_0 l0_1 = some r) :
    Calls Try.prog 15 #[.agg #[.slice A0_0 l0_0.length c0_0, .slice A0_1 l0_1.length c0_1]] w fun e w' => e = .returned (.bool r) ∧ Below w.heap.size w w' := by
  obtain rfl := Option.some.inj h
  clear h
  have hn0 := hr0_0.2.1
  have hn1 := hr0_1.2.1
  have HR0 := Aside0.mk hr0_0
  have HC0 := Aside0.mk hc0_0
  have HR1 := Aside0.mk hr0_1
  have HC1 := Aside0.mk hc0_1
  clear hr0_0 hc0_0 hr0_1 hc0_1
  obtain ⟨rr, hrr⟩ : ∃ rr, goodF l0_0 l0_1 = rr := ⟨_, rfl⟩
  have HG := Aside0.mk hrr
  rw [hrr]
  clear hrr
  have HN := Aside0.mk (fun A c B d (x : S56) W (h1 : x.f0.length ≤ c) (h2 : (Kd.int .i64).C W A x.f0.length x.f0) (h3 : x.f1.length ≤ d) (h4 : (Kd.int .i64).C W B x.f1.length x.f1) => (impl_GoodFlow_1.ends x.f0 x.f1 (by have := h2.2.1; omega) (by have := h4.2.1; omega)).elim fun k hk => impl_GoodFlow_1.calls k A c x.f0 B d x.f1 _ W h2 h1 h4 h3 hk)
  have HK := Aside0.mk (fun (W : World) (hb : Below w.heap.size w W) => impl_GoodGraph.calls A0_0 c0_0 l0_0 _ W (Kd.C_below HR0.out hb) HC0.out rfl)
  have H0 := Aside0.mk (below_alloc (Below.refl w.heap.size w) (Obj.cells #[Value.slice A0_0 l0_0.length c0_0, Value.slice A0_1 l0_1.length c0_1] 33))
  have hx0 : World.cell? (w.alloc (Obj.cells #[Value.slice A0_0 l0_0.length c0_0, Value.slice A0_1 l0_1.length c0_1] 33)) ⟨w.heap.size, 0, none⟩ = some (Value.slice A0_0 l0_0.length c0_0) := blk_cell (blk_new w _) 0
  have hx1 : World.cell? (w.alloc (Obj.cells #[Value.slice A0_0 l0_0.length c0_0, Value.slice A0_1 l0_1.length c0_1] 33)) ⟨w.heap.size, 1, none⟩ = some (Value.slice A0_1 l0_1.length c0_1) := blk_cell (blk_new w _) 1
  have HX0 := Aside0.mk hx0
  have HX1 := Aside0.mk hx1
  clear hx0 hx1
  by_cases c : H.goodG l0_0 = true
  · by_cases c2 : l0_1.length = l0_0.length
    · have HE : rr = !l0_1.any (fun x => !okBlock x) := by rw [← HG.out]; unfold goodF; rw [c, decide_eq_true c2, List.all_eq_not_any_not]; rfl
      have HE := Aside0.mk HE
      have c3 : ((l0_1.length : Int) == (l0_0.length : Int)) = true := by simp; omega
      rw [c] at HK
      clear c c2
      go_enter Try.func15, Try.ntmps15
      go_wp2_with (go_at_call 49; refine (HK.out _ H0.out).mono ?_; rintro e w' ⟨rfl, hb⟩; have HB := Aside0.mk (H0.out.trans (hb.mono H0.out.size)); have hx0 := (hb.cell (World.block_lt_of_cell? _ _ HX0.out)).trans HX0.out; have hx1 := (hb.cell (World.block_lt_of_cell? _ _ HX1.out)).trans HX1.out; clear hb)
      have HN' := Aside0.mk (slices_ContainsFunc_Block.calls 51 (fun x => !okBlock x) A0_1 c0_1 l0_1 w' (Kd.C_below HR1.out HB.out) HC1.out (fun _ _ => by go_simp) (fun A c B d x W h1 h2 h3 h4 => HN.out A c B d x W h1 h2 h3 h4))
      refine HN'.out.mono ?_
      clear HN'
      rintro e w'' ⟨rfl, hb⟩
      have HB' := Aside0.mk (HB.out.trans (hb.mono HB.out.size))
      clear hb HB hx0 hx1
      go_wp2
      go_ret
      exact ⟨H.ret_bool HE.out.symm, HB'.out⟩
    · have HE : rr = false := by rw [← HG.out]; unfold goodF; rw [c, decide_eq_false c2]; rfl
      subst HE
      have c3 : ((l0_1.length : Int) == (l0_0.length : Int)) = false := by simp; omega
      rw [c] at HK
      clear c c2
      go_enter Try.func15, Try.ntmps15
      go_wp2_with (go_at_call 49; refine (HK.out _ H0.out).mono ?_; rintro e w' ⟨rfl, hb⟩; have HB := Aside0.mk (H0.out.trans (hb.mono H0.out.size)); have hx0 := (hb.cell (World.block_lt_of_cell? _ _ HX0.out)).trans HX0.out; have hx1 := (hb.cell (World.block_lt_of_cell? _ _ HX1.out)).trans HX1.out; clear hb)
      go_ret
      exact ⟨rfl, HB.out⟩
  · have c' : H.goodG l0_0 = false := by simpa using c
    have HE : rr = false := by rw [← HG.out]; unfold goodF; rw [c', Bool.false_and, Bool.false_and]
    rw [c'] at HK
    subst HE
    clear c c'
    go_enter Try.func15, Try.ntmps15
    go_wp2_with (go_at_call 49; refine (HK.out _ H0.out).mono ?_; rintro e w' ⟨rfl, hb⟩; have HB := Aside0.mk (H0.out.trans (hb.mono H0.out.size)); have hx0 := (hb.cell (World.block_lt_of_cell? _ _ HX0.out)).trans HX0.out; have hx1 := (hb.cell (World.block_lt_of_cell? _ _ HX1.out)).trans HX1.out; clear hb)
    go_ret
    exact ⟨rfl, HB.out⟩

end Go.Proofs.Ytkfpbblaomgihaa.P

-- Written by a program of this session (wip/plug.py) out of Lean's print of the translation.
namespace Go.Proofs.Ytkfpbblaomgihaa.P
open Go.RowKit Go.Proofs.YtkfpbblaomgihaaW.PrintWords Go.Proofs.YtkfpbblaomgihaaW.PrintLast Go.Proofs.YtkfpbblaomgihaaW.PrintMore
attribute [local go_sem] max2_int min2_int max_two min_two max_three min_three max_four min_four   -- for this text's walks alone
set_option linter.unusedVariables false
set_option linter.unusedSimpArgs false

/-! ### impl_Block_through: function 62 -/
theorem bcells_one (bs : List Bool) : ∀ q ∈ (H.bcells bs).toList, q.oneCell' = true := by
  intro q hq
  unfold H.bcells at hq
  rw [List.toList_toArray] at hq
  obtain ⟨b, _, rfl⟩ := List.mem_map.1 hq
  rfl
def thrS (bs : List Bool) (s : List Int) : List Bool := s.foldl (fun a k => a.set k.toNat false) bs
def thrU (bs : List Bool) (u : List Int) : List Bool := u.foldl (fun a k => a.set k.toNat true) bs
theorem thrS_len (s : List Int) : ∀ bs : List Bool, (thrS bs s).length = bs.length := by
  induction s with
  | nil => intro bs; rfl
  | cons x s ih => intro bs; exact (ih _).trans (by simp)
theorem thrU_len (s : List Int) : ∀ bs : List Bool, (thrU bs s).length = bs.length := by
  induction s with
  | nil => intro bs; rfl
  | cons x s ih => intro bs; exact (ih _).trans (by simp)
set_option maxHeartbeats 8000000 in
theorem impl_through.calls (p : Addr) (A0 : Option Addr) (c0 : Nat) (u : List Int) (A1 : Option Addr) (c1 : Nat) (s : List Int) (bs : List Bool) (w : World) (hp0 : w.cell? p = some (.slice A0 u.length c0)) (hp1 : w.cell? ⟨p.block, p.off + 1, none⟩ = some (.slice A1 s.length c1))
    (hr0 : Kd.C (Kd.int .i64) w A0 u.length u) (hr1 : Kd.C (Kd.int .i64) w A1 s.length s) (hu : ∀ x ∈ u, 0 ≤ x ∧ x ≤ 7) (hs : ∀ x ∈ s, 0 ≤ x ∧ x ≤ 7) (hb : bs.length = 8) :
    Calls Try.prog 62 #[.pointer (some p), .agg (H.bcells bs)] w fun e w' => e = .returned (.agg (H.bcells (thrU (thrS bs s) u))) ∧ Below w.heap.size w w' := by
  have hn0 := hr0.2.1
  have hn1 := hr1.2.1
  have HP0 := Aside0.mk hp0
  have HP1 := Aside0.mk hp1
  have HR0 := Aside0.mk hr0
  have HR1 := Aside0.mk hr1
  have HU := Aside0.mk hu
  have HS := Aside0.mk hs
  have HL := Aside0.mk hb
  clear hp0 hp1 hr0 hr1 hu hs hb
  obtain ⟨rr, hrr⟩ : ∃ rr, thrU (thrS bs s) u = rr := ⟨_, rfl⟩
  have HG := Aside0.mk hrr
  rw [hrr]
  clear hrr
  go_enter Try.func62, Try.ntmps62
  go_wp2_with (first | ((with_reducible refine gate_dst (N := 3) rfl ?_); refine box_event ?hg (N := 3) ?hd (cs := H.bcells bs) (t := 78) ?hr ?_; (case hd => rfl); (case hg => rfl); (case hr => first | (go_simp; done) | (go_simp; rfl)); intro ga hga w1 hba hb1; have HGA := Aside0.mk (show w.heap.size ≤ ga by rw [hga]; exact Nat.le_refl _); have HBA := Aside0.mk hba; have HB1 := Aside0.mk hb1; clear hga hba hb1) | ((with_reducible refine gate_dst (N := 4) rfl ?_); refine box_event ?hg (N := 4) ?hd (cs := H.bcells (List.replicate 8 false)) (t := 78) ?hr ?_; (case hd => rfl); (case hg => rfl); (case hr => first | (go_simp; done) | (go_simp; rfl)); intro gc hgc w2 hbc hb2; have HGC := Aside0.mk (show w.heap.size ≤ gc by rw [hgc]; exact HB1.out.size); have HBC := Aside0.mk hbc; have HBA2 := Aside0.mk (blk_below HBA.out hb2); have HNE := Aside0.mk (show gc ≠ ga by rw [hgc]; exact fun e => by have := blk_lt HBA.out; omega); have HB2 := Aside0.mk (HB1.out.trans (hb2.mono HB1.out.size)); have hx1 := (HB2.out.cell (World.block_lt_of_cell? w _ HP1.out)).trans HP1.out;  clear hgc hbc hb2))
  go_loopw [14] (fun v14 wr => ∃ (i : Nat) (acc : List Bool), v14 = .int .i64 i ∧ i ≤ s.length ∧ Aside0 (acc.length = 8) ∧ Aside0 (thrS acc (s.drop i) = thrS bs s) ∧ Aside0 (wr.heap[ga]? = some (.cells (H.bcells acc) 78 (0, 0))) ∧ Aside0 (wr.heap[gc]? = some (.cells (H.bcells (List.replicate 8 false)) 78 (0, 0))) ∧ Aside0 (Below w.heap.size w wr)) (fun v14 _ => s.length - (intOf v14).toNat)
  case atStart => exact ⟨0, bs, rfl, Nat.zero_le _, HL, ⟨rfl⟩, HBA2, HBC, HB2⟩
  case round =>
    clear HBA2 HBC HB2 HB1 HBA hx1
    obtain ⟨i, acc, rfl, hi, HLA, HE, HBA, HBC, HB⟩ := hrel
    by_cases hlt : i < s.length
    · obtain ⟨ad, e, h0⟩ := Kd.at_int HR1.out (i : Int) (by omega) (by omega)
      cases e
      rw [Int.toNat_natCast] at h0
      replace h0 := (HB.out.cell (World.block_lt_of_cell? w _ h0)).trans h0
      have hx : rd s (i : Int) = s[i] := by
        show s.getD i _ = _
        rw [List.getD_eq_getElem?_getD, List.getElem?_eq_getElem hlt]
        rfl
      have hE := HE.out
      rw [List.drop_eq_getElem_cons hlt] at hE
      obtain ⟨hx0, hx1⟩ := HS.out s[i] (List.getElem_mem hlt)
      rw [hx] at h0
      generalize s[i] = x at h0 hE hx0 hx1
      have HE' := Aside0.mk (show thrS (acc.set x.toNat false) (s.drop (i + 1)) = thrS bs s from hE)
      have hx2 : x < 8 := by omega
      have HX := Aside0.mk (show x.toNat < 8 by omega)
      clear hE HE hx
      go_wp2_with ((with_reducible refine gate_store (t := 4) (p := 19) rfl ?_); refine H.store_blk (cs' := H.bcells (acc.set x.toNat false)) (u := .bool false) (seg := [.bool false]) rfl rfl rfl rfl HBA.out rfl rfl (by kernel_rfl) (by simp [Value.oneCell']) (by rw [H.bcells_size, HLA.out]; have := HX.out; simp; omega) (H.bcells_put _ _ _ (by rw [HLA.out]; exact HX.out)) ?_; intro w8 hba8 hg8 hz8; have HBA8 := Aside0.mk hba8; have HBC8 := Aside0.mk (H.blk_other HBC.out hg8 HNE.out); have HB8 := Aside0.mk (H.below_own HB.out hg8 HB.out.size HGA.out); clear hba8 hg8 hz8)
      go_roundw
      case rel => exact ⟨i + 1, _, by go_num, by omega, ⟨by rw [List.length_set]; exact HLA.out⟩, HE', HBA8, HBC8, HB8⟩
      case measure => simp [intOf]; omega
    · have hE : acc = thrS bs s := by rw [← HE.out, List.drop_of_length_le (by omega)]; rfl
      subst hE
      have hx0 := (HB.out.cell (World.block_lt_of_cell? w _ HP0.out)).trans HP0.out
      go_wp2
      clear HE
      go_loopw [26] (fun v26 wr => ∃ (i : Nat) (acc : List Bool), v26 = .int .i64 i ∧ i ≤ u.length ∧ Aside0 (acc.length = 8) ∧ Aside0 (thrU acc (u.drop i) = rr) ∧ Aside0 (wr.heap[ga]? = some (.cells (H.bcells acc) 78 (0, 0))) ∧ Aside0 (wr.heap[gc]? = some (.cells (H.bcells (List.replicate 8 false)) 78 (0, 0))) ∧ Aside0 (Below w.heap.size w wr)) (fun v26 _ => u.length - (intOf v26).toNat)
      case atStart => exact ⟨0, _, rfl, Nat.zero_le _, HLA, HG, HBA, HBC, HB⟩
      case round =>
        clear HBA HBC HB hx0 HLA
        obtain ⟨i, acc, rfl, hi, HLA, HE, HBA, HBC, HB⟩ := hrel
        by_cases hlt : i < u.length
        · obtain ⟨ad, e, h0⟩ := Kd.at_int HR0.out (i : Int) (by omega) (by omega)
          cases e
          rw [Int.toNat_natCast] at h0
          replace h0 := (HB.out.cell (World.block_lt_of_cell? w _ h0)).trans h0
          have hx : rd u (i : Int) = u[i] := by
            show u.getD i _ = _
            rw [List.getD_eq_getElem?_getD, List.getElem?_eq_getElem hlt]
            rfl
          have hE := HE.out
          rw [List.drop_eq_getElem_cons hlt] at hE
          obtain ⟨hx0, hx1⟩ := HU.out u[i] (List.getElem_mem hlt)
          rw [hx] at h0
          generalize u[i] = x at h0 hE hx0 hx1
          have HE' := Aside0.mk (show thrU (acc.set x.toNat true) (u.drop (i + 1)) = rr from hE)
          have hx2 : x < 8 := by omega
          have HX := Aside0.mk (show x.toNat < 8 by omega)
          clear hE HE hx
          go_wp2_with ((with_reducible refine gate_store (t := 4) (p := 31) rfl ?_); refine H.store_blk (cs' := H.bcells (acc.set x.toNat true)) (u := .bool true) (seg := [.bool true]) rfl rfl rfl rfl HBA.out rfl rfl (by kernel_rfl) (by simp [Value.oneCell']) (by rw [H.bcells_size, HLA.out]; have := HX.out; simp; omega) (H.bcells_put _ _ _ (by rw [HLA.out]; exact HX.out)) ?_; intro w8 hba8 hg8 hz8; have HBA8 := Aside0.mk hba8; have HBC8 := Aside0.mk (H.blk_other HBC.out hg8 HNE.out); have HB8 := Aside0.mk (H.below_own HB.out hg8 HB.out.size HGA.out); clear hba8 hg8 hz8)
          go_roundw
          case rel => exact ⟨i + 1, _, by go_num, by omega, ⟨by rw [List.length_set]; exact HLA.out⟩, HE', HBA8, HBC8, HB8⟩
          case measure => simp [intOf]; omega
        · have hE : acc = rr := by rw [← HE.out, List.drop_of_length_le (by omega)]; rfl
          subst hE
          go_wp2_with (first | ((with_reducible refine gate_dst (N := 33) rfl ?_); refine wpList_load_row rfl 78 (.tmp 3) rfl ga rfl 78 (H.bcells acc) (0, 0) _ HBA.out Try.underlying78 rfl (by rw [H.bcells_size, HLA.out]; kernel_rfl) ?_) | ((with_reducible refine gate_store (t := 78) (p := 4) rfl ?_); refine H.store_blk (cs' := H.bcells acc) (u := .agg (H.bcells acc)) (seg := (H.bcells acc).toList) rfl rfl rfl rfl HBC.out rfl rfl (by rw [Array.length_toList, H.bcells_size, HLA.out]; kernel_rfl) (bcells_one acc) (by rw [Array.length_toList, H.bcells_size, H.bcells_size, HLA.out, List.length_replicate]; decide) (by rw [List.take_zero, List.nil_append, Array.length_toList, H.bcells_size, HLA.out, List.drop_of_length_le (by rw [Array.length_toList, H.bcells_size, List.length_replicate]; decide), List.append_nil]) ?_; intro w9 hbc9 hg9 hz9; have HBC9 := Aside0.mk hbc9; have HB9 := Aside0.mk (H.below_own HB.out hg9 HB.out.size HGC.out); clear hbc9 hg9 hz9))
          (try simp only [Exit.inBlock, Exit.then])
          refine bodyPost_ret (results_cell_row rfl _ _ gc _ (H.bcells acc) (0, 0) _ rfl HBC9.out Try.underlying78 rfl (by rw [H.bcells_size, HLA.out]; kernel_rfl)) rfl ?_
          exact ⟨rfl, HB9.out⟩

end Go.Proofs.Ytkfpbblaomgihaa.P

-- Written by a program of this session (wip/plug.py) out of Lean's print of the translation.
namespace Go.Proofs.Ytkfpbblaomgihaa.P
open Go.RowKit Go.Proofs.YtkfpbblaomgihaaW.PrintWords Go.Proofs.YtkfpbblaomgihaaW.PrintLast Go.Proofs.YtkfpbblaomgihaaW.PrintMore
attribute [local go_sem] max2_int min2_int max_two min_two max_three min_three max_four min_four   -- for this text's walks alone
set_option linter.unusedVariables false
set_option linter.unusedSimpArgs false

/-! ### impl_Flow_out: function 63 -/
theorem flat_get {n j : Nat} (hj : j < n) : ∀ (M : List (List Bool)) (k : Nat), (∀ r ∈ M, r.length = n) → k < M.length → M.flatten[k * n + j]? = (M.getD k [])[j]?
  | [], k, _, hk => by simp at hk
  | r :: M, 0, h, _ => by
    have hr := h r (by simp)
    rw [List.flatten_cons, Nat.zero_mul, Nat.zero_add, List.getElem?_append_left (by omega)]
    rfl
  | r :: M, k + 1, h, hk => by
    have hr := h r (by simp)
    have e : (k + 1) * n + j = n + (k * n + j) := by rw [Nat.succ_mul]; omega
    rw [List.flatten_cons, e, List.getElem?_append_right (by omega), hr, Nat.add_sub_cancel_left, flat_get hj M k (fun x hx => h x (by simp [hx])) (by simpa using hk)]
    rfl
theorem mrange {W : World} {g n : Nat} {M : List (List Bool)} {T : TypeId} (h : W.heap[g]? = some (.cells (H.bcells M.flatten) T (0, 0))) (hM : ∀ r ∈ M, r.length = n) (k : Nat) (hk : k < M.length) : W.rangeAt g (k * n) ((M.getD k []).map Value.bool) := by
  intro j v hv
  have hl : (M.getD k []).length = n := by
    rw [List.getD_eq_getElem?_getD, List.getElem?_eq_getElem hk]
    exact hM _ (List.getElem_mem hk)
  have hj : j < n := by
    have := (List.getElem?_eq_some_iff.1 hv).1
    rw [List.length_map] at this
    omega
  rw [blk_cell h (k * n + j)]
  unfold H.bcells
  rw [List.getElem?_toArray, List.getElem?_map, flat_get hj M k hM hk, ← List.getElem?_map]
  exact hv
theorem run_idx8 (w : World) (bs : List Bool) (hb : bs.length = 8) (j : Nat) (hj : j < 8) : (Instr.index 78 (.agg (bs.map Value.bool).toArray) (.int .i64 (j : Int))).run Try.prog w = .ok (.bool (bs.getD j false)) w := by
  have h0 : (0 : Int) ≤ (j : Int) := by omega
  have h1 : (j : Int) < ((8 : Nat) : Int) := by omega
  have h2 : (bs.map Value.bool)[j]? = some (.bool (bs.getD j false)) := by rw [List.getElem?_map, H.getD_some false (by omega)]; rfl
  have hi : (Try.prog.info? 4).map (·.size) = some 1 := by kernel_rfl
  obtain ⟨i, hq, hs⟩ := Option.map_eq_some_iff.1 hi
  simp [Instr.index, run_underlying Try.underlying78, run_underlying Try.underlying4, asIntOf, h0, h1, part, isAgg, sizeOf, typeInfo, hq, hs, Sem.run_bind, go_sem]
  obtain ⟨v, hv⟩ : ∃ v, bs[j]? = some v := ⟨_, List.getElem?_eq_getElem (by omega)⟩
  rw [if_pos hj, hv]
  rfl
def orB (a b : List Bool) : List Bool := List.zipWith (fun x y => x || y) a b
theorem orB_len (a b : List Bool) (h : a.length = b.length) : (orB a b).length = a.length := by unfold orB; rw [List.length_zipWith]; omega
theorem orB_step {a b c : List Bool} {n j : Nat} (ha : a.length = n) (hb : b.length = n) (hj : j < n) (hc : c = (orB a b).take j ++ a.drop j) : c.set j (c.getD j false || b.getD j false) = (orB a b).take (j + 1) ++ a.drop (j + 1) := by
  have hl : ((orB a b).take j).length = j := by rw [List.length_take, orB_len a b (by omega)]; omega
  have h1 : c.getD j false = a[j] := by
    rw [hc, List.getD_eq_getElem?_getD, List.getElem?_append_right (by omega), hl, Nat.sub_self, List.drop_eq_getElem_cons (by omega)]
    rfl
  have h2 : b.getD j false = b[j] := by
    rw [List.getD_eq_getElem?_getD, List.getElem?_eq_getElem (by omega)]
    rfl
  rw [h1, h2, hc, List.set_append_right _ _ (by omega), hl, Nat.sub_self, List.drop_eq_getElem_cons (by omega : j < a.length), List.set_cons_zero, List.take_add_one, List.append_assoc]
  congr 1
  have h3 : (orB a b)[j]? = some (a[j] || b[j]) := by
    unfold orB
    rw [List.getElem?_zipWith, List.getElem?_eq_getElem (by omega), List.getElem?_eq_getElem (by omega)]
  rw [h3]
  rfl
def outF (g : List (List Int)) (M : List (List Bool)) (b : Nat) : List Bool := (g.getD b []).foldl (fun a k => orB a (M.getD k.toNat [])) (List.replicate 8 false)
set_option maxHeartbeats 8000000 in
set_option maxRecDepth 100000 in
theorem impl_out.calls (p : Addr) (A0 : Option Addr) (c0 : Nat) (g : List (List Int)) (gm : Nat) (M : List (List Bool)) (b : Nat) (w : World) (hp0 : w.cell? p = some (.slice A0 g.length c0))
    (hr0 : Kd.C (Kd.slice 3 (Kd.int .i64)) w A0 g.length g) (hm : w.heap[gm]? = some (.cells (H.bcells M.flatten) 78 (0, 0))) (hM : ∀ r ∈ M, r.length = 8) (hb : b < g.length) (hk : ∀ k ∈ g.getD b [], 0 ≤ k ∧ k < (M.length : Int)) :
    Calls Try.prog 63 #[.pointer (some p), .slice (some ⟨gm, 0, none⟩) M.length M.length, .int .i64 b] w fun e w' => e = .returned (.agg (H.bcells (outF g M b))) ∧ Below w.heap.size w w' := by
  have hn0 := hr0.2.1
  obtain ⟨ad, A1, c1, e, h0, h1, h2⟩ := at_L1 hr0 (b : Int) (by omega) (by omega)
  cases e
  have HP0 := Aside0.mk hp0
  have HR0 := Aside0.mk hr0
  have HM := Aside0.mk hm
  have HL := Aside0.mk hM
  have HK := Aside0.mk hk
  have hlb : (b : Int) < (g.length : Int) := by omega
  have hb0 : (0 : Int) ≤ (b : Int) := by omega
  rw [Int.toNat_natCast] at h0
  have H0 := Aside0.mk h0
  have H2 := Aside0.mk h2
  clear hp0 hr0 hm hM hk h0 h2
  obtain ⟨l, hl⟩ : ∃ l, rd_L1 g (b : Int) = l := ⟨_, rfl⟩
  have hl' : g.getD b [] = l := by rw [← hl]; rfl
  rw [hl] at H0 H2 h1
  unfold outF
  rw [hl'] at HK ⊢
  clear hl hl'
  have hn2 := H2.out.2.1
  obtain ⟨rr, hrr⟩ : ∃ rr, l.foldl (fun a k => orB a (M.getD k.toNat [])) (List.replicate 8 false) = rr := ⟨_, rfl⟩
  have HG := Aside0.mk hrr
  rw [hrr]
  clear hrr
  go_enter Try.func63, Try.ntmps63
  go_wp2_with (first | ((with_reducible refine gate_dst (N := 6) rfl ?_); refine box_event ?hg (N := 6) ?hd (cs := H.bcells (List.replicate 8 false)) (t := 78) ?hr ?_; (case hd => rfl); (case hg => rfl); (case hr => first | (go_simp; done) | (go_simp; rfl)); intro gc hgc w1 hbc hb1; have HGC := Aside0.mk (show w.heap.size ≤ gc by rw [hgc]; exact Nat.le_refl _); have HBC := Aside0.mk hbc; have HB1 := Aside0.mk hb1; clear hgc hbc hb1) | ((with_reducible refine gate_dst (N := 7) rfl ?_); refine box_event ?hg (N := 7) ?hd (cs := H.bcells (List.replicate 8 false)) (t := 78) ?hr ?_; (case hd => rfl); (case hg => rfl); (case hr => first | (go_simp; done) | (go_simp; rfl)); intro ga hga w2 hba hb2; have HGA := Aside0.mk (show w.heap.size ≤ ga by rw [hga]; exact HB1.out.size); have HBA := Aside0.mk hba; have HBC2 := Aside0.mk (blk_below HBC.out hb2); have HNE := Aside0.mk (show gc ≠ ga by rw [hga]; exact fun e => by have := blk_lt HBC.out; omega); have HB2 := Aside0.mk (HB1.out.trans (hb2.mono HB1.out.size)); clear hga hba hb2) | ((with_reducible refine gate_store (t := 78) (p := 7) rfl ?_); refine H.store_blk (cs' := H.bcells (List.replicate 8 false)) (u := .agg #[.bool false, .bool false, .bool false, .bool false, .bool false, .bool false, .bool false, .bool false]) (seg := [.bool false, .bool false, .bool false, .bool false, .bool false, .bool false, .bool false, .bool false]) rfl rfl rfl rfl HBA.out rfl rfl (by kernel_rfl) (by simp [Value.oneCell']) (by simp [H.bcells_size]) (by simp [H.bcells, List.replicate]) ?_; intro w3 hba3 hg3 hz3; have HBA3 := Aside0.mk hba3; have HBC3 := Aside0.mk (H.blk_other HBC2.out hg3 HNE.out); have HB3 := Aside0.mk (H.below_own HB2.out hg3 HB2.out.size HGA.out); have hx0 := (HB3.out.cell (World.block_lt_of_cell? w _ HP0.out)).trans HP0.out; have hx1 := (HB3.out.cell (World.block_lt_of_cell? w _ H0.out)).trans H0.out; clear hba3 hg3 hz3))
  go_loopw [22] (fun v22 wr => ∃ (i : Nat) (acc : List Bool), v22 = .int .i64 i ∧ i ≤ l.length ∧ Aside0 (acc.length = 8) ∧ Aside0 ((l.drop i).foldl (fun a k => orB a (M.getD k.toNat [])) acc = rr) ∧ Aside0 (wr.heap[ga]? = some (.cells (H.bcells acc) 78 (0, 0))) ∧ Aside0 (wr.heap[gc]? = some (.cells (H.bcells (List.replicate 8 false)) 78 (0, 0))) ∧ Aside0 (Below w.heap.size w wr)) (fun v22 _ => l.length - (intOf v22).toNat)
  case atStart => exact ⟨0, _, rfl, Nat.zero_le _, ⟨by simp⟩, HG, HBA3, HBC3, HB3⟩
  case round =>
    clear HBA HBC2 HB2 HB1 HBC HBA3 HBC3 HB3 hx0 hx1
    obtain ⟨i, acc, rfl, hi, HLA, HE, HBA, HBC, HB⟩ := hrel
    by_cases hlt : i < l.length
    · obtain ⟨ad2, e2, h0⟩ := Kd.at_int H2.out (i : Int) (by omega) (by omega)
      cases e2
      rw [Int.toNat_natCast] at h0
      replace h0 := (HB.out.cell (World.block_lt_of_cell? w _ h0)).trans h0
      have hx : rd l (i : Int) = l[i] := by
        show l.getD i _ = _
        rw [List.getD_eq_getElem?_getD, List.getElem?_eq_getElem hlt]
        rfl
      have hE := HE.out
      rw [List.drop_eq_getElem_cons hlt, List.foldl_cons] at hE
      obtain ⟨hx0, hx1⟩ := HK.out l[i] (List.getElem_mem hlt)
      rw [hx] at h0
      generalize l[i] = x at h0 hE hx0 hx1
      obtain ⟨k, rfl⟩ : ∃ k : Nat, x = (k : Int) := ⟨x.toNat, by omega⟩
      rw [Int.toNat_natCast] at hE
      have hk : k < M.length := by omega
      have HX := Aside0.mk hk
      have HR : Aside0 ((M.getD k []).length = 8) := ⟨by rw [List.getD_eq_getElem?_getD, List.getElem?_eq_getElem hk]; exact HL.out _ (List.getElem_mem hk)⟩
      generalize hrow : M.getD k [] = row at hE HR
      have HROW := Aside0.mk hrow
      have HE' := Aside0.mk hE
      clear hE HE hx hrow
      have hmr : Aside0 (wr.heap[gm]? = some (.cells (H.bcells M.flatten) 78 (0, 0))) := ⟨blk_below HM.out HB.out⟩
      go_wp2_with ((with_reducible refine gate_dst (N := 29) rfl ?_); refine wpList_load_mid rfl 78 (.tmp 28) rfl gm (k * 8) rfl (row.map Value.bool) _ (by rw [← HROW.out]; exact mrange hmr.out HL.out k HX.out) Try.underlying78 rfl (by rw [List.length_map, HR.out]; kernel_rfl) ?_)
      go_loopw [30] (fun v30 wr => ∃ (j : Nat) (a2 : List Bool), v30 = .int .i64 j ∧ j ≤ 8 ∧ Aside0 (a2.length = 8) ∧ Aside0 (a2 = (orB acc row).take j ++ acc.drop j) ∧ Aside0 (wr.heap[ga]? = some (.cells (H.bcells a2) 78 (0, 0))) ∧ Aside0 (wr.heap[gc]? = some (.cells (H.bcells (List.replicate 8 false)) 78 (0, 0))) ∧ Aside0 (Below w.heap.size w wr)) (fun v30 _ => 8 - (intOf v30).toNat)
      case atStart => exact ⟨0, acc, rfl, Nat.zero_le _, HLA, ⟨by simp⟩, HBA, HBC, HB⟩
      case round =>
        clear HBA HBC HB h0 hmr
        obtain ⟨j, a2, rfl, hj, HLB, HE2, HBA, HBC, HB⟩ := hrel
        by_cases hlt2 : j < 8
        · have hcj : wr.cell? ⟨ga, j, none⟩ = some (.bool (a2.getD j false)) := H.bcells_get HBA.out j (by rw [HLB.out]; exact hlt2)
          have hj2 : (j : Int) < 8 := by omega
          have hidx := run_idx8 wr row HR.out j hlt2
          have hset := orB_step HLA.out HR.out hlt2 HE2.out
          obtain ⟨ra, hra⟩ : ∃ ra, a2.getD j false = ra := ⟨_, rfl⟩
          obtain ⟨rb, hrb⟩ : ∃ rb, row.getD j false = rb := ⟨_, rfl⟩
          rw [hra, hrb] at hset
          rw [hra] at hcj
          rw [hrb] at hidx
          have HSET := Aside0.mk hset
          clear hra hrb hset
          cases ra with
          | true =>
            go_wp2_with ((with_reducible refine gate_store (t := 4) (p := 41) rfl ?_); refine H.store_blk (cs' := H.bcells (a2.set j true)) (u := .bool true) (seg := [.bool true]) rfl rfl rfl rfl HBA.out rfl rfl (by kernel_rfl) (by simp [Value.oneCell']) (by rw [H.bcells_size, HLB.out]; simp; omega) (H.bcells_put _ _ _ (by rw [HLB.out]; exact hlt2)) ?_; intro w8 hba8 hg8 hz8; have HBA8 := Aside0.mk hba8; have HBC8 := Aside0.mk (H.blk_other HBC.out hg8 HNE.out); have HB8 := Aside0.mk (H.below_own HB.out hg8 HB.out.size HGA.out); clear hba8 hg8 hz8)
            go_roundw
            case rel => exact ⟨j + 1, _, by go_num, by omega, ⟨by rw [List.length_set]; exact HLB.out⟩, HSET, HBA8, HBC8, HB8⟩
            case measure => simp [intOf]; omega
          | false =>
            go_wp2_with ((with_reducible refine gate_store (t := 4) (p := 41) rfl ?_); refine H.store_blk (cs' := H.bcells (a2.set j rb)) (u := .bool rb) (seg := [.bool rb]) rfl rfl rfl rfl HBA.out rfl rfl (by kernel_rfl) (by simp [Value.oneCell']) (by rw [H.bcells_size, HLB.out]; simp; omega) (H.bcells_put _ _ _ (by rw [HLB.out]; exact hlt2)) ?_; intro w8 hba8 hg8 hz8; have HBA8 := Aside0.mk hba8; have HBC8 := Aside0.mk (H.blk_other HBC.out hg8 HNE.out); have HB8 := Aside0.mk (H.below_own HB.out hg8 HB.out.size HGA.out); clear hba8 hg8 hz8)
            go_roundw
            case rel => exact ⟨j + 1, _, by go_num, by omega, ⟨by rw [List.length_set]; exact HLB.out⟩, ⟨by rw [← HSET.out, Bool.false_or]⟩, HBA8, HBC8, HB8⟩
            case measure => simp [intOf]; omega
        · have hE2 : a2 = orB acc row := by
            have e := HE2.out
            rw [List.take_of_length_le (by rw [orB_len acc row (by rw [HLA.out, HR.out]), HLA.out]; omega), List.drop_of_length_le (by rw [HLA.out]; omega), List.append_nil] at e
            exact e
          subst hE2
          go_wp2
          go_roundw
          case rel => exact ⟨i + 1, _, by go_num, by omega, HLB, HE', HBA, HBC, HB⟩
          case measure => simp [intOf]; omega
    · have hE : acc = rr := by rw [← HE.out, List.drop_of_length_le (by omega)]; rfl
      subst hE
      go_wp2_with (first | ((with_reducible refine gate_dst (N := 44) rfl ?_); refine wpList_load_row rfl 78 (.tmp 7) rfl ga rfl 78 (H.bcells acc) (0, 0) _ HBA.out Try.underlying78 rfl (by rw [H.bcells_size, HLA.out]; kernel_rfl) ?_) | ((with_reducible refine gate_store (t := 78) (p := 6) rfl ?_); refine H.store_blk (cs' := H.bcells acc) (u := .agg (H.bcells acc)) (seg := (H.bcells acc).toList) rfl rfl rfl rfl HBC.out rfl rfl (by rw [Array.length_toList, H.bcells_size, HLA.out]; kernel_rfl) (bcells_one acc) (by rw [Array.length_toList, H.bcells_size, H.bcells_size, HLA.out, List.length_replicate]; decide) (by rw [List.take_zero, List.nil_append, Array.length_toList, H.bcells_size, HLA.out, List.drop_of_length_le (by rw [Array.length_toList, H.bcells_size, List.length_replicate]; decide), List.append_nil]) ?_; intro w9 hbc9 hg9 hz9; have HBC9 := Aside0.mk hbc9; have HB9 := Aside0.mk (H.below_own HB.out hg9 HB.out.size HGC.out); clear hbc9 hg9 hz9))
      (try simp only [Exit.inBlock, Exit.then])
      refine bodyPost_ret (results_cell_row rfl _ _ gc _ (H.bcells acc) (0, 0) _ rfl HBC9.out Try.underlying78 rfl (by rw [H.bcells_size, HLA.out]; kernel_rfl)) rfl ?_
      exact ⟨rfl, HB9.out⟩

end Go.Proofs.Ytkfpbblaomgihaa.P

-- Written by a program of this session (wip/plug.py) out of Lean's print of the translation.
namespace Go.Proofs.Ytkfpbblaomgihaa.P
open Go.RowKit Go.Proofs.YtkfpbblaomgihaaW.PrintWords Go.Proofs.YtkfpbblaomgihaaW.PrintLast Go.Proofs.YtkfpbblaomgihaaW.PrintMore
attribute [local go_sem] max2_int min2_int max_two min_two max_three min_three max_four min_four   -- for this text's walks alone
set_option linter.unusedVariables false
set_option linter.unusedSimpArgs false

/-! ### impl_IsFixed: function 24 -/
theorem eq8 (W : World) (a0 a1 a2 a3 a4 a5 a6 a7 b0 b1 b2 b3 b4 b5 b6 b7 : Bool) : (Op.equalIn 10000 78 (.agg #[.bool a0, .bool a1, .bool a2, .bool a3, .bool a4, .bool a5, .bool a6, .bool a7]) (.agg #[.bool b0, .bool b1, .bool b2, .bool b3, .bool b4, .bool b5, .bool b6, .bool b7])).run Try.prog W = .ok (decide ([a0, a1, a2, a3, a4, a5, a6, a7] = [b0, b1, b2, b3, b4, b5, b6, b7])) W := by
  obtain ⟨r, h, hi⟩ := run_equalIn_deep (P := Try.prog) 9998 2 78 (by kernel_rfl) W 3 3 (.agg #[.bool a0, .bool a1, .bool a2, .bool a3, .bool a4, .bool a5, .bool a6, .bool a7]) (.agg #[.bool b0, .bool b1, .bool b2, .bool b3, .bool b4, .bool b5, .bool b6, .bool b7]) [.bool a0, .bool a1, .bool a2, .bool a3, .bool a4, .bool a5, .bool a6, .bool a7] [.bool b0, .bool b1, .bool b2, .bool b3, .bool b4, .bool b5, .bool b6, .bool b7] (by kernel_rfl) (by kernel_rfl) (by kernel_rfl) (by kernel_rfl)
  have e : r = decide ([a0, a1, a2, a3, a4, a5, a6, a7] = [b0, b1, b2, b3, b4, b5, b6, b7]) := by
    rw [Bool.eq_iff_iff, hi]
    simp
  rw [← e]
  exact h
theorem madeCells8 (n : Nat) : madeCells #[.bool false, .bool false, .bool false, .bool false, .bool false, .bool false, .bool false, .bool false] (n * 8) = H.bcells (List.replicate n (List.replicate 8 false)).flatten := by
  rw [List.flatten_replicate_replicate]
  apply Array.ext
  · rw [size_madeCells, H.bcells_size, List.length_replicate]
  · intro i h1 h2
    have h3 : i % 8 < 8 := Nat.mod_lt _ (by decide)
    have e : ∀ k, k < 8 → (#[Value.bool false, .bool false, .bool false, .bool false, .bool false, .bool false, .bool false, .bool false] : Array Value)[k]! = .bool false := by
      intro k hk
      match k, hk with
      | 0, _ => rfl
      | 1, _ => rfl
      | 2, _ => rfl
      | 3, _ => rfl
      | 4, _ => rfl
      | 5, _ => rfl
      | 6, _ => rfl
      | 7, _ => rfl
    simp only [madeCells, H.bcells, Array.getElem_map, Array.getElem_range, List.getElem_toArray, List.getElem_map, List.getElem_replicate]
    exact e _ h3
theorem make_names (W : World) (n : Nat) (hn : n ≤ 1048576) : (Instr.makeSlice 76 (.int .i64 (n : Int)) (.int .i64 (n : Int))).run Try.prog W = .ok (.slice (some ⟨W.heap.size, 0, none⟩) n n) (W.alloc (.cells (H.bcells (List.replicate n (List.replicate 8 false)).flatten) 78)) := by
  have hi : (Try.prog.info? 78).map (fun i => (i.zero, i.size, i.bytes)) = some (some (.agg #[.bool false, .bool false, .bool false, .bool false, .bool false, .bool false, .bool false, .bool false]), 8, 8) := by kernel_rfl
  obtain ⟨i, hq, hs⟩ := Option.map_eq_some_iff.1 hi
  simp only [Prod.mk.injEq] at hs
  have h := run_make (P := Try.prog) W 76 78 i _ Try.underlying76 hq hs.1 .i64 .i64 (n : Int) (n : Int) (by omega) (by omega) (by rw [hs.2.2]; omega) (by omega)
  rw [h, hs.2.1, Int.toNat_natCast]
  simp only [Value.cells]
  rw [madeCells8]
theorem flat_set {n j : Nat} (b : Bool) (hj : j < n) : ∀ (M : List (List Bool)) (k : Nat), (∀ r ∈ M, r.length = n) → k < M.length → M.flatten.set (k * n + j) b = (M.set k ((M.getD k []).set j b)).flatten
  | [], k, _, hk => by simp at hk
  | r :: M, 0, h, _ => by
    have hr := h r (by simp)
    rw [List.flatten_cons, Nat.zero_mul, Nat.zero_add, List.set_append_left _ _ (by omega), List.set_cons_zero, List.flatten_cons]
    rfl
  | r :: M, k + 1, h, hk => by
    have hr := h r (by simp)
    have e : (k + 1) * n + j = n + (k * n + j) := by rw [Nat.succ_mul]; omega
    rw [List.flatten_cons, e, List.set_append_right _ _ (by omega), hr, Nat.add_sub_cancel_left, flat_set b hj M k (fun x hx => h x (by simp [hx])) (by simpa using hk), List.set_cons_succ, List.flatten_cons]
    rfl
theorem flat_len {n : Nat} : ∀ (M : List (List Bool)), (∀ r ∈ M, r.length = n) → M.flatten.length = M.length * n
  | [], _ => by simp
  | r :: M, h => by
    rw [List.flatten_cons, List.length_append, h r (by simp), flat_len M (fun x hx => h x (by simp [hx])), List.length_cons, Nat.succ_mul]
    omega
theorem upB_mem {l : List Int} {lo hi : Int} (h : H.upB l lo hi 0 = true) : ∀ x ∈ l, lo ≤ x ∧ x ≤ hi := by
  intro x hx
  obtain ⟨j, hj, e⟩ := List.getElem_of_mem hx
  have h1 := of_decide_eq_true h j hj (Nat.zero_le _)
  unfold H.upAt at h1
  simp only [Bool.and_eq_true, decide_eq_true_eq] at h1
  rw [List.getD_eq_getElem?_getD, List.getElem?_eq_getElem hj, e] at h1
  exact ⟨h1.1.1, h1.1.2⟩
/-- The set of a list. -/
def setOf (l : List Int) : List Bool := thrU (List.replicate 8 false) l
theorem setOf_len (l : List Int) : (setOf l).length = 8 := by unfold setOf; rw [thrU_len, List.length_replicate]
/-- The sets while they are filled: those of the first i lists, and empty ones. -/
def part_ (l : List (List Int)) (i : Nat) : List (List Bool) := (l.take i).map setOf ++ List.replicate (l.length - i) (List.replicate 8 false)
theorem part_len (l : List (List Int)) {i : Nat} (hi : i ≤ l.length) : (part_ l i).length = l.length := by unfold part_; simp; omega
theorem part_rows (l : List (List Int)) (i : Nat) : ∀ r ∈ part_ l i, r.length = 8 := by
  intro r hr
  unfold part_ at hr
  rcases List.mem_append.1 hr with h | h
  · obtain ⟨x, _, rfl⟩ := List.mem_map.1 h
    exact setOf_len x
  · rw [List.eq_of_mem_replicate h, List.length_replicate]
theorem part_at (l : List (List Int)) {i : Nat} (hi : i < l.length) : (part_ l i).getD i [] = List.replicate 8 false := by
  unfold part_
  rw [List.getD_eq_getElem?_getD, List.getElem?_append_right (by simp; omega), List.length_map, List.length_take, Nat.min_eq_left (by omega), Nat.sub_self, List.getElem?_replicate, if_pos (by omega)]
  rfl
theorem part_step (l : List (List Int)) {i : Nat} (hi : i < l.length) : (part_ l i).set i (setOf l[i]) = part_ l (i + 1) := by
  unfold part_
  rw [List.set_append_right _ _ (by simp; omega), List.length_map, List.length_take, Nat.min_eq_left (by omega), Nat.sub_self]
  obtain ⟨d, hd⟩ : ∃ d, l.length - i = d + 1 := ⟨l.length - i - 1, by omega⟩
  rw [hd, List.replicate_succ, List.set_cons_zero, List.take_add_one, List.getElem?_eq_getElem hi, List.map_append, List.append_assoc]
  have : l.length - (i + 1) = d := by omega
  rw [this]
  rfl
theorem part_self (l : List (List Int)) {i : Nat} (hi : i < l.length) : (part_ l i).set i (List.replicate 8 false) = part_ l i := by
  unfold part_
  rw [List.set_append_right _ _ (by simp; omega), List.length_map, List.length_take, Nat.min_eq_left (by omega), Nat.sub_self]
  obtain ⟨d, hd⟩ : ∃ d, l.length - i = d + 1 := ⟨l.length - i - 1, by omega⟩
  rw [hd, List.replicate_succ, List.set_cons_zero]
theorem row_rows {P : List (List Bool)} {n i : Nat} {acc : List Bool} (hP : ∀ r ∈ P, r.length = n) (ha : acc.length = n) : ∀ r ∈ P.set i acc, r.length = n := by
  intro r hr
  rcases List.mem_or_eq_of_mem_set hr with h | rfl
  · exact hP r h
  · exact ha
theorem row_put {P : List (List Bool)} {n i k : Nat} {acc : List Bool} (b : Bool) (hP : ∀ r ∈ P, r.length = n) (hi : i < P.length) (ha : acc.length = n) (hk : k < n) : ((P.set i acc).flatten).set (i * n + k) b = (P.set i (acc.set k b)).flatten := by
  rw [flat_set b hk _ i (row_rows hP ha) (by rw [List.length_set]; exact hi)]
  have : (P.set i acc).getD i [] = acc := by rw [List.getD_eq_getElem?_getD, List.getElem?_set_self hi]; rfl
  rw [this, List.set_set]
theorem outF_len (g : List (List Int)) (M : List (List Bool)) (b : Nat) (hM : ∀ r ∈ M, r.length = 8) (hk : ∀ k ∈ g.getD b [], 0 ≤ k ∧ k < (M.length : Int)) : (outF g M b).length = 8 := by
  unfold outF
  have : ∀ (l : List Int) (acc : List Bool), acc.length = 8 → (∀ k ∈ l, 0 ≤ k ∧ k < (M.length : Int)) → (l.foldl (fun a k => orB a (M.getD k.toNat [])) acc).length = 8 := by
    intro l
    induction l with
    | nil => intro acc h _; exact h
    | cons x l ih =>
      intro acc h hl
      have hx : x.toNat < M.length := by have := hl x (by simp); omega
      have hr : (M.getD x.toNat []).length = 8 := by
        rw [List.getD_eq_getElem?_getD, List.getElem?_eq_getElem hx]
        exact hM _ (List.getElem_mem hx)
      exact ih _ (by rw [orB_len _ _ (by omega), h]) (fun k hk => hl k (by simp [hk]))
  exact this _ _ (by simp) hk
theorem rising_any (A : Option Addr) (c : Nat) (l : List Int) (lo hi : Int) (W : World) (h : Kd.C (Kd.int .i64) W A l.length l) (hc : l.length ≤ c) : Calls Try.prog 52 #[.slice A l.length c, .int .i64 lo, .int .i64 hi] W fun e w' => e = .returned (.bool (H.upB l lo hi 0)) ∧ Drawn0 W w' := by
  obtain ⟨k, hk⟩ := impl_rising.ends l lo hi (by have := h.2.1; omega)
  exact impl_rising.calls k A c l lo hi _ W h hc hk
def fixedF (g : List (List Int)) (b : List S56) (M : List (List Bool)) : Bool := decide (∀ i, i < b.length → thrU (thrS (outF g M i) (b.getD i z56).f1) (b.getD i z56).f0 = M.getD i [])
def isFixedF (g : List (List Int)) (b : List S56) (l : List (List Int)) : Bool × Bool :=
  if goodF g b && decide (l.length = b.length) then (if l.all (fun x => H.upB x 0 7 0) then (fixedF g b (l.map setOf), true) else (false, false)) else (false, false)
def impl_IsFixed.f (l0_0 : List (List Int)) (l0_1 : List (S56)) (l1 : List (List Int)) : Option (Bool × Bool) := some (isFixedF l0_0 l0_1 l1)
set_option maxHeartbeats 8000000 in
set_option maxRecDepth 100000 in
theorem impl_IsFixed.calls (A0_0 : Option Addr) (c0_0 : Nat) (l0_0 : List (List Int)) (A0_1 : Option Addr) (c0_1 : Nat) (l0_1 : List (S56)) (A1 : Option Addr) (c1 : Nat) (l1 : List (List Int)) (r1 : Bool) (r2 : Bool) (w : World)
    (hr0_0 : Kd.C (Kd.slice 3 (Kd.int .i64)) w A0_0 l0_0.length l0_0) (hc0_0 : l0_0.length ≤ c0_0) (hr0_1 : Kd.C k56 w A0_1 l0_1.length l0_1) (hc0_1 : l0_1.length ≤ c0_1) (hr1 : Kd.C (Kd.slice 3 (Kd.int .i64)) w A1 l1.length l1) (hc1 : l1.length ≤ c1) (h : impl_IsFixed.f l0_0 l0_1 l1 = some (r1, r2)) :
    Calls Try.prog 24 #[.agg #[.slice A0_0 l0_0.length c0_0, .slice A0_1 l0_1.length c0_1], .slice A1 l1.length c1] w fun e w' => e = .returned (.tuple #[.bool r1, .bool r2]) ∧ Below w.heap.size w w' := by
  replace h : isFixedF l0_0 l0_1 l1 = (r1, r2) := Option.some.inj h
  have hn0 := hr0_0.2.1
  have hn1 := hr0_1.2.1
  have hn2 := hr1.2.1
  have HR0 := Aside0.mk hr0_0
  have HC0 := Aside0.mk hc0_0
  have HR1 := Aside0.mk hr0_1
  have HC1 := Aside0.mk hc0_1
  have HR2 := Aside0.mk hr1
  have HC2 := Aside0.mk hc1
  clear hr0_0 hc0_0 hr0_1 hc0_1 hr1 hc1
  have HK := Aside0.mk (fun (W : World) (hb : Below w.heap.size w W) => impl_GoodFlow.calls A0_0 c0_0 l0_0 A0_1 c0_1 l0_1 _ W (Kd.C_below HR0.out hb) HC0.out (Kd.C_below HR1.out hb) HC1.out rfl)
  have H0 := Aside0.mk (below_alloc (Below.refl w.heap.size w) (Obj.cells #[Value.slice A0_0 l0_0.length c0_0, Value.slice A0_1 l0_1.length c0_1] 33))
  have HBX := Aside0.mk (blk_new w (Obj.cells #[Value.slice A0_0 l0_0.length c0_0, Value.slice A0_1 l0_1.length c0_1] 33))
  unfold isFixedF at h
  cases hg : goodF l0_0 l0_1 with
  | false =>
    rw [hg, Bool.false_and, if_neg (by simp), Prod.mk.injEq] at h
    obtain ⟨rfl, rfl⟩ := h
    rw [hg] at HK
    clear hg
    go_enter Try.func24, Try.ntmps24
    go_wp2_with (go_at_call 15; refine (HK.out _ H0.out).mono ?_; rintro e w' ⟨rfl, hb⟩; have HB := Aside0.mk (H0.out.trans (hb.mono H0.out.size)); have HBX1 := blk_below HBX.out hb; have hx0 := blk_cell HBX1 0; have hx1 := blk_cell HBX1 1; clear hb)
    go_ret2
    exact ⟨rfl, HB.out⟩
  | true =>
    rw [hg, Bool.true_and] at h
    rw [hg] at HK
    have hlen0 : l0_1.length = l0_0.length ∧ 1 ≤ l0_1.length ∧ l0_1.length ≤ 12 := by
      unfold goodF H.goodG at hg
      simp only [Bool.and_eq_true, decide_eq_true_eq] at hg
      omega
    have HGF := Aside0.mk hg
    clear hg
    by_cases hlen : l1.length = l0_1.length
    · rw [decide_eq_true hlen, if_pos rfl] at h
      have c3 : ((l1.length : Int) == (l0_1.length : Int)) = true := by simp; omega
      have hmk : ∀ W : World, (Instr.makeSlice 76 (.int .i64 (l1.length : Int)) (.int .i64 (l1.length : Int))).run Try.prog W = .ok (.slice (some ⟨W.heap.size, 0, none⟩) l1.length l1.length) (W.alloc (.cells (H.bcells (List.replicate l1.length (List.replicate 8 false)).flatten) 78)) := fun W => make_names W l1.length (by omega)
      have HH := Aside0.mk h
      have HLEN := Aside0.mk hlen
      have HLEN0 := Aside0.mk hlen0
      have hl1 : l1.length ≤ 12 := by omega
      have hl1' : 1 ≤ l1.length := by omega
      clear h hlen0 hlen
      go_enter Try.func24, Try.ntmps24
      go_wp2_with (first | (go_at_call 15; refine (HK.out _ H0.out).mono ?_; rintro e w' ⟨rfl, hb⟩; have HB := Aside0.mk (H0.out.trans (hb.mono H0.out.size)); have HBX1 := Aside0.mk (blk_below HBX.out hb); have hx0 := blk_cell HBX1.out 0; have hx1 := blk_cell HBX1.out 1; clear hb) | ((with_reducible refine gate_dst (N := 25) rfl ?_); refine H.make_event ?hg (N := 25) ?hd (n := l1.length) (cs := H.bcells (List.replicate l1.length (List.replicate 8 false)).flatten) (t := 78) ?hr ?_; (case hd => rfl); (case hg => rfl); (case hr => first | (go_simp; done) | (go_simp; rfl)); intro gs hgs w6 hbs hb6; have HGS := Aside0.mk (show w.heap.size ≤ gs by rw [hgs]; exact HB.out.size); have HBS := Aside0.mk hbs; have HNEX := Aside0.mk (show w.heap.size ≠ gs by rw [hgs]; exact fun e => by have := blk_lt HBX1.out; omega); have HBX2 := Aside0.mk (blk_below HBX1.out hb6); have HB6 := Aside0.mk (HB.out.trans (hb6.mono HB.out.size)); clear hgs hbs hb6 hmk hx0 hx1))
      have HRI := Aside0.mk rising_any
      go_loopw [28] (fun v28 wr => ∃ i : Nat, v28 = .int .i64 i ∧ i ≤ l1.length ∧ Aside0 (∀ j, j < i → H.upB (l1.getD j []) 0 7 0 = true) ∧ Aside0 (wr.heap[gs]? = some (.cells (H.bcells (part_ l1 i).flatten) 78 (0, 0))) ∧ Aside0 (wr.heap[w.heap.size]? = some (.cells #[Value.slice A0_0 l0_0.length c0_0, Value.slice A0_1 l0_1.length c0_1] 33 (0, 0))) ∧ Aside0 (Below w.heap.size w wr)) (fun v28 _ => l1.length - (intOf v28).toNat)
      case atStart => exact ⟨0, rfl, Nat.zero_le _, ⟨by intro j h; omega⟩, HBS, HBX2, HB6⟩
      case round =>
        clear HBS HBX2 HB6 HB HBX1
        obtain ⟨i, rfl, hi, HUP, HBS, HBX, HB⟩ := hrel
        by_cases hlt : i < l1.length
        · obtain ⟨ad, A2, c2, e, h0, h1, h2⟩ := at_L1 HR2.out (i : Int) (by omega) (by omega)
          cases e
          rw [Int.toNat_natCast] at h0
          replace h0 := (HB.out.cell (World.block_lt_of_cell? w _ h0)).trans h0
          have H2 := Aside0.mk h2
          have hx : rd_L1 l1 (i : Int) = l1[i] := by
            show l1.getD i _ = _
            rw [List.getD_eq_getElem?_getD, List.getElem?_eq_getElem hlt]
            rfl
          have hps := part_step l1 hlt
          have hal : l1.all (fun x => H.upB x 0 7 0) = true → H.upB l1[i] 0 7 0 = true := fun h => List.all_eq_true.1 h _ (List.getElem_mem hlt)
          have hget : l1.getD i [] = l1[i] := by rw [List.getD_eq_getElem?_getD, List.getElem?_eq_getElem hlt]; rfl
          rw [hx] at h0 h1 H2
          clear hx h2
          generalize l1[i] = l at h0 h1 H2 hps hal hget
          have hnl := H2.out.2.1
          have HPS := Aside0.mk hps
          have HGET := Aside0.mk hget
          have HL1 := Aside0.mk h1
          have HAL := Aside0.mk hal
          clear hps hget h1 hal
          cases hup : H.upB l 0 7 0 with
          | false =>
            have hf := HH.out
            rw [if_neg (fun h => by have := HAL.out h; rw [hup] at this; exact absurd this (by simp)), Prod.mk.injEq] at hf
            have HF := Aside0.mk hf
            have HU := Aside0.mk hup
            clear hf hup
            go_wp2_with (go_at_call 52; refine (HRI.out _ _ l _ _ _ (Kd.C_below H2.out HB.out) HL1.out).mono ?_; rw [HU.out]; rintro e w' ⟨rfl, ⟨m, rfl⟩⟩)
            go_ret2
            exact ⟨by rw [← HF.out.1, ← HF.out.2]; rfl, pw_below_drewN HB.out _⟩
          | true =>
            have HU := Aside0.mk hup
            clear hup
            go_wp2_with (go_at_call 52; refine (HRI.out _ _ l _ _ _ (Kd.C_below H2.out HB.out) HL1.out).mono ?_; rw [HU.out]; rintro e w' ⟨rfl, ⟨m, rfl⟩⟩)
            have HBm := Aside0.mk (pw_below_drewN HB.out m)
            have HPL := Aside0.mk (part_len l1 (i := i) (by omega))
            have hi8 : (i : Int) < (l1.length : Int) := by omega
            have HIL := Aside0.mk hlt
            go_loopw [38] (fun v38 wr2 => ∃ (j : Nat) (acc : List Bool), v38 = .int .i64 j ∧ j ≤ l.length ∧ Aside0 (acc.length = 8) ∧ Aside0 (thrU acc (l.drop j) = setOf l) ∧ Aside0 (wr2.heap[gs]? = some (.cells (H.bcells ((part_ l1 i).set i acc).flatten) 78 (0, 0))) ∧ Aside0 (wr2.heap[w.heap.size]? = some (.cells #[Value.slice A0_0 l0_0.length c0_0, Value.slice A0_1 l0_1.length c0_1] 33 (0, 0))) ∧ Aside0 (Below w.heap.size w wr2)) (fun v38 _ => l.length - (intOf v38).toNat)
            case atStart => exact ⟨0, List.replicate 8 false, rfl, Nat.zero_le _, ⟨by simp⟩, ⟨rfl⟩, ⟨by rw [part_self l1 hlt]; exact blk_drewN HBS.out m⟩, ⟨blk_drewN HBX.out m⟩, HBm⟩
            case round =>
              clear HBS HBX HB HBm h0
              obtain ⟨j, acc, rfl, hj, HLA, HE, HBS, HBX, HB⟩ := hrel
              by_cases hlt2 : j < l.length
              · obtain ⟨ad2, e2, h0⟩ := Kd.at_int H2.out (j : Int) (by omega) (by omega)
                cases e2
                rw [Int.toNat_natCast] at h0
                replace h0 := (HB.out.cell (World.block_lt_of_cell? w _ h0)).trans h0
                have hx : rd l (j : Int) = l[j] := by
                  show l.getD j _ = _
                  rw [List.getD_eq_getElem?_getD, List.getElem?_eq_getElem hlt2]
                  rfl
                have hE := HE.out
                rw [List.drop_eq_getElem_cons hlt2] at hE
                obtain ⟨hx0, hx1⟩ := upB_mem HU.out l[j] (List.getElem_mem hlt2)
                rw [hx] at h0
                generalize l[j] = x at h0 hE hx0 hx1
                obtain ⟨k, rfl⟩ : ∃ k : Nat, x = (k : Int) := ⟨x.toNat, by omega⟩
                have HE' := Aside0.mk (show thrU (acc.set k true) (l.drop (j + 1)) = setOf l from hE)
                have hx2 : (k : Int) < 8 := by omega
                have hk8 : k < 8 := by omega
                have HK8 := Aside0.mk hk8
                clear hE HE hx
                go_wp2_with ((with_reducible refine gate_store (t := 4) (p := 46) rfl ?_); refine H.store_blk (cs' := H.bcells ((part_ l1 i).set i (acc.set k true)).flatten) (u := .bool true) (seg := [.bool true]) rfl rfl rfl rfl HBS.out rfl rfl (by kernel_rfl) (by simp [Value.oneCell']) (by rw [H.bcells_size, flat_len _ (row_rows (part_rows l1 i) HLA.out), List.length_set, HPL.out]; have h1 := HIL.out; have h2 := HK8.out; simp only [List.length_cons, List.length_nil]; omega) (by rw [← row_put true (part_rows l1 i) (by rw [HPL.out]; exact HIL.out) HLA.out HK8.out]; exact H.bcells_put _ _ _ (by rw [flat_len _ (row_rows (part_rows l1 i) HLA.out), List.length_set, HPL.out]; have h1 := HIL.out; have h2 := HK8.out; omega)) ?_; intro w8 hbs8 hg8 hz8; have HBS8 := Aside0.mk hbs8; have HBX8 := Aside0.mk (H.blk_other HBX.out hg8 HNEX.out); have HB8 := Aside0.mk (H.below_own HB.out hg8 HB.out.size HGS.out); clear hbs8 hg8 hz8)
                go_roundw
                case rel => exact ⟨j + 1, _, by go_num, by omega, ⟨by rw [List.length_set]; exact HLA.out⟩, HE', HBS8, HBX8, HB8⟩
                case measure => simp [intOf]; omega
              · have hE : acc = setOf l := by rw [← HE.out, List.drop_of_length_le (by omega)]; rfl
                subst hE
                have HBS2 : Aside0 (wr.heap[gs]? = some (.cells (H.bcells (part_ l1 (i + 1)).flatten) 78 (0, 0))) := ⟨by rw [← HPS.out]; exact HBS.out⟩
                go_wp2
                go_roundw
                case rel => exact ⟨i + 1, by go_num, by omega, ⟨fun j hj => by rcases Nat.lt_succ_iff_lt_or_eq.1 hj with h | rfl; exact HUP.out j h; rw [HGET.out]; exact HU.out⟩, HBS2, HBX, HB⟩
                case measure => simp [intOf]; omega
        · have hE : i = l1.length := by omega
          clear hlt hi
          have hall : l1.all (fun x => H.upB x 0 7 0) = true := by
            rw [List.all_eq_true]
            intro x hx
            obtain ⟨j, hj, e⟩ := List.getElem_of_mem hx
            have := HUP.out j (by omega)
            rw [List.getD_eq_getElem?_getD, List.getElem?_eq_getElem hj, e] at this
            exact this
          have hf := HH.out
          rw [if_pos hall, Prod.mk.injEq] at hf
          obtain ⟨hf1, rfl⟩ := hf
          have hpe : part_ l1 i = l1.map setOf := by unfold part_; rw [hE, List.take_length, Nat.sub_self]; simp
          have hbs := HBS.out
          rw [hpe] at hbs
          clear HBS HUP hall hpe
          have hMl : (l1.map setOf).length = l1.length := by rw [List.length_map]
          have hMr : ∀ r ∈ l1.map setOf, r.length = 8 := fun r hr => by obtain ⟨x, _, rfl⟩ := List.mem_map.1 hr; exact setOf_len x
          generalize l1.map setOf = M at hf1 hbs hMl hMr
          have HF1 := Aside0.mk hf1
          have HMl := Aside0.mk hMl
          have HMr := Aside0.mk hMr
          have HBS := Aside0.mk hbs
          have hx1 := blk_cell HBX.out 1
          clear hf1 hbs hMl hMr HH
          have hge : ¬ i < l1.length := by omega
          have HEI := Aside0.mk hE
          clear hE
          go_wp2
          have hl2 : 1 ≤ l0_1.length := HLEN0.out.2.1
          go_loopw [52] (fun v52 wr2 => ∃ t : Nat, v52 = .int .i64 t ∧ t ≤ l0_1.length ∧ Aside0 (∀ j, j < t → thrU (thrS (outF l0_0 M j) (l0_1.getD j z56).f1) (l0_1.getD j z56).f0 = M.getD j []) ∧ Aside0 (wr2.heap[gs]? = some (.cells (H.bcells M.flatten) 78 (0, 0))) ∧ Aside0 (wr2.heap[w.heap.size]? = some (.cells #[Value.slice A0_0 l0_0.length c0_0, Value.slice A0_1 l0_1.length c0_1] 33 (0, 0))) ∧ Aside0 (Below w.heap.size w wr2)) (fun v52 _ => l0_1.length - (intOf v52).toNat)
          case atStart => exact ⟨0, rfl, Nat.zero_le _, ⟨by intro j h; omega⟩, HBS, HBX, HB⟩
          case round =>
            clear HBS HBX HB hx1 hge HEI
            obtain ⟨t, rfl, ht, HALL, HBS, HBX, HB⟩ := hrel
            by_cases hlt : t < l0_1.length
            · obtain ⟨adb, A3, c3', B3, d3, e3, h0, h1, h2, h3, h4, h5⟩ := at_T56 HR1.out (t : Int) (by omega) (by omega)
              cases e3
              rw [Int.toNat_natCast] at h0 h1
              have hx1 := blk_cell HBX.out 1
              have htl : (t : Int) < (l1.length : Int) := by rw [HLEN.out]; omega
              have hrg := mrange (n := 8) HBS.out HMr.out t (by rw [HMl.out, HLEN.out]; exact hlt)
              have hgb : goodF l0_0 l0_1 = true := HGF.out
              have hgt : ∀ k ∈ l0_0.getD t [], 0 ≤ k ∧ k < (M.length : Int) := by
                unfold goodF H.goodG at hgb
                simp only [Bool.and_eq_true, decide_eq_true_eq] at hgb
                have ht0 : t < l0_0.length := by have := HLEN0.out.1; omega
                have h8 := List.all_eq_true.1 hgb.1.1.2 (l0_0.getD t []) (by rw [List.getD_eq_getElem?_getD, List.getElem?_eq_getElem ht0]; exact List.getElem_mem ht0)
                intro k hk
                have := upB_mem h8 k hk
                have := HMl.out
                have := HLEN.out
                have := HLEN0.out.1
                omega
              have hxb : rd_T56 l0_1 (t : Int) = l0_1.getD t z56 := rfl
              have hokb : H.upB (l0_1.getD t z56).f0 0 7 0 = true ∧ H.upB (l0_1.getD t z56).f1 0 7 0 = true := by
                unfold goodF at hgb
                simp only [Bool.and_eq_true, decide_eq_true_eq] at hgb
                have h8 := List.all_eq_true.1 hgb.2 (l0_1.getD t z56) (by rw [List.getD_eq_getElem?_getD, List.getElem?_eq_getElem hlt]; exact List.getElem_mem hlt)
                unfold okBlock at h8
                simpa using h8
              rw [hxb] at h0 h1 h2 h3 h4 h5
              obtain ⟨row, hrow⟩ : ∃ row, M.getD t [] = row := ⟨_, rfl⟩
              rw [hrow] at hrg
              have hrl : row.length = 8 := by
                rw [← hrow, List.getD_eq_getElem?_getD, List.getElem?_eq_getElem (by rw [HMl.out, HLEN.out]; exact hlt)]
                exact HMr.out _ (List.getElem_mem _)
              obtain ⟨R, hR0, hRd, hRb, hR1, hR2, hRB, HOUT, HTHR⟩ : ∃ R : World → Prop, R wr ∧ (∀ W, R W → R W.drew) ∧ (∀ W W', R W → Below W.heap.size W W' → R W') ∧ (∀ W, R W → W.cell? ⟨w.heap.size, 1, none⟩ = some (Value.slice (some adb) l0_1.length c0_1)) ∧ (∀ W, R W → W.rangeAt gs (t * 8) (row.map Value.bool)) ∧ (∀ W, R W → W.heap[gs]? = some (.cells (H.bcells M.flatten) 78 (0, 0)) ∧ W.heap[w.heap.size]? = some (.cells #[Value.slice A0_0 l0_0.length c0_0, Value.slice (some adb) l0_1.length c0_1] 33 (0, 0)) ∧ Below w.heap.size w W) ∧
                  (∀ W, R W → Calls Try.prog 63 #[.pointer (some ⟨w.heap.size, 0, none⟩), .slice (some ⟨gs, 0, none⟩) l1.length l1.length, .int .i64 t] W fun e w' => e = .returned (.agg (H.bcells (outF l0_0 M t))) ∧ Below W.heap.size W w') ∧
                  (∀ W, R W → Calls Try.prog 62 #[.pointer (some (adb.add (t * 2))), .agg (H.bcells (outF l0_0 M t))] W fun e w' => e = .returned (.agg (H.bcells (thrU (thrS (outF l0_0 M t) (l0_1.getD t z56).f1) (l0_1.getD t z56).f0))) ∧ Below W.heap.size W w') := by
                refine ⟨fun W => W.heap[gs]? = some (.cells (H.bcells M.flatten) 78 (0, 0)) ∧ W.heap[w.heap.size]? = some (.cells #[Value.slice A0_0 l0_0.length c0_0, Value.slice (some adb) l0_1.length c0_1] 33 (0, 0)) ∧ Below w.heap.size w W, ⟨HBS.out, HBX.out, HB.out⟩, fun W h => ⟨blk_drew h.1, blk_drew h.2.1, h.2.2.drew⟩, fun W W' h hb => ⟨blk_below h.1 hb, blk_below h.2.1 hb, h.2.2.trans (hb.mono h.2.2.size)⟩, fun W h => blk_cell h.2.1 1, fun W h => by rw [← hrow]; exact mrange (n := 8) h.1 HMr.out t (by rw [HMl.out, HLEN.out]; exact hlt), fun W h => h, ?_, ?_⟩
                · intro W h
                  have := impl_out.calls ⟨w.heap.size, 0, none⟩ A0_0 c0_0 l0_0 gs M t W (blk_cell h.2.1 0) (Kd.C_below HR0.out h.2.2) h.1 HMr.out (by have := HLEN0.out.1; omega) hgt
                  rw [HMl.out] at this
                  exact this
                · intro W h
                  exact impl_through.calls (adb.add (t * 2)) A3 c3' _ B3 d3 _ (outF l0_0 M t) W ((h.2.2.cell (World.block_lt_of_cell? w _ h0)).trans h0) ((h.2.2.cell (World.block_lt_of_cell? w _ h1)).trans h1) (Kd.C_below h3 h.2.2) (Kd.C_below h5 h.2.2) (upB_mem hokb.1) (upB_mem hokb.2) (outF_len _ _ _ HMr.out hgt)
              have HOL := Aside0.mk (outF_len _ _ _ HMr.out hgt)
              have HROW := Aside0.mk hrow
              have HRL := Aside0.mk hrl
              have HTR := Aside0.mk HTHR
              have HOT := Aside0.mk HOUT
              have HRb := Aside0.mk hRb
              have HRd := Aside0.mk hRd
              have HRB := Aside0.mk hRB
              have HR1' := Aside0.mk hR1
              have HR2' := Aside0.mk hR2
              have HRW := Aside0.mk hR0
              clear hrow hrl hgb hgt hokb hxb h0 h1 h2 h3 h4 h5 hRb hRd hRB HTHR HOUT hR1 hR2 hR0 hrg hx1
              have hXl : (thrU (thrS (outF l0_0 M t) (l0_1.getD t z56).f1) (l0_1.getD t z56).f0).length = 8 := by rw [thrU_len, thrS_len]; exact HOL.out
              have hXR := HROW.out
              have hTR := HTR.out
              obtain ⟨X, hX⟩ : ∃ X, thrU (thrS (outF l0_0 M t) (l0_1.getD t z56).f1) (l0_1.getD t z56).f0 = X := ⟨_, rfl⟩
              rw [hX] at hTR hXl
              clear HTR
              have HTR := Aside0.mk hTR
              have HX := Aside0.mk hX
              clear hTR hX hXR
              obtain ⟨r0_, r1_, r2_, r3_, r4_, r5_, r6_, r7_, hre⟩ : ∃ r0_ r1_ r2_ r3_ r4_ r5_ r6_ r7_ : Bool, row = [r0_, r1_, r2_, r3_, r4_, r5_, r6_, r7_] := by
                match row, HRL.out with
                | [a, b, c, d, e, f, g, h], _ => exact ⟨a, b, c, d, e, f, g, h, rfl⟩
              subst hre
              have HR3 : Aside0 (∀ W, R W → W.cell? ⟨gs, t * 8, none⟩ = some (.bool r0_) ∧ W.cell? ⟨gs, t * 8 + 1, none⟩ = some (.bool r1_) ∧ W.cell? ⟨gs, t * 8 + 2, none⟩ = some (.bool r2_) ∧ W.cell? ⟨gs, t * 8 + 3, none⟩ = some (.bool r3_) ∧ W.cell? ⟨gs, t * 8 + 4, none⟩ = some (.bool r4_) ∧ W.cell? ⟨gs, t * 8 + 5, none⟩ = some (.bool r5_) ∧ W.cell? ⟨gs, t * 8 + 6, none⟩ = some (.bool r6_) ∧ W.cell? ⟨gs, t * 8 + 7, none⟩ = some (.bool r7_)) := ⟨fun W h => by
                have h2 := HR2'.out W h
                exact ⟨h2 0 _ rfl, h2 1 _ rfl, h2 2 _ rfl, h2 3 _ rfl, h2 4 _ rfl, h2 5 _ rfl, h2 6 _ rfl, h2 7 _ rfl⟩⟩
              obtain ⟨dd, hdd⟩ : ∃ dd, decide (X = [r0_, r1_, r2_, r3_, r4_, r5_, r6_, r7_]) = dd := ⟨_, rfl⟩
              have heq : ∀ W : World, (Op.equalIn 10000 78 (.agg (H.bcells X)) (.agg #[.bool r0_, .bool r1_, .bool r2_, .bool r3_, .bool r4_, .bool r5_, .bool r6_, .bool r7_])).run Try.prog W = .ok dd W := by
                intro W
                rw [← hdd]
                match X, hXl with
                | [a, b, c, d, e, f, g, h], _ => exact eq8 W a b c d e f g h _ _ _ _ _ _ _ _
              have HDD := Aside0.mk hdd
              clear hdd hXl
              go_wp2
              go_region_held3 (fun W => W.cell? ⟨w.heap.size, 1, none⟩ = some (Value.slice (some adb) l0_1.length c0_1) ∧ (W.cell? ⟨gs, t * 8, none⟩ = some (.bool r0_) ∧ W.cell? ⟨gs, t * 8 + 1, none⟩ = some (.bool r1_) ∧ W.cell? ⟨gs, t * 8 + 2, none⟩ = some (.bool r2_) ∧ W.cell? ⟨gs, t * 8 + 3, none⟩ = some (.bool r3_) ∧ W.cell? ⟨gs, t * 8 + 4, none⟩ = some (.bool r4_) ∧ W.cell? ⟨gs, t * 8 + 5, none⟩ = some (.bool r5_) ∧ W.cell? ⟨gs, t * 8 + 6, none⟩ = some (.bool r6_) ∧ W.cell? ⟨gs, t * 8 + 7, none⟩ = some (.bool r7_)) ∧ Aside0 (R W))
                (first | (exact ⟨HR1'.out _ (HRd.out _ HRW.out), HR3.out _ (HRd.out _ HRW.out), ⟨HRd.out _ HRW.out⟩⟩) | (exact ⟨HR1'.out _ hr2.out, HR3.out _ hr2.out, hr2⟩) | (exact ⟨HR1'.out _ hr1'.out, HR3.out _ hr1'.out, hr1'⟩))
                (first | (go_at_call 63; refine (HOT.out _ (HRd.out _ HRW.out)).mono ?_; rintro e w' ⟨rfl, hbu⟩; have hr1' := Aside0.mk (HRb.out _ _ (HRd.out _ HRW.out) hbu); clear hbu) | (go_at_call 62; refine (HTR.out _ hr1'.out).mono ?_; rintro e w'' ⟨rfl, hbu⟩; have hr2 := Aside0.mk (HRb.out _ _ hr1'.out hbu); clear hbu))
              clear heq
              cases dd with
              | true =>
                go_wp2
                go_roundw
                case rel => exact ⟨t + 1, by go_num, by omega, ⟨fun j hj => by rcases Nat.lt_succ_iff_lt_or_eq.1 hj with h | rfl; exact HALL.out j h; rw [HX.out, HROW.out]; exact of_decide_eq_true HDD.out⟩, ⟨(HRB.out _ hr2.out).1⟩, ⟨(HRB.out _ hr2.out).2.1⟩, ⟨(HRB.out _ hr2.out).2.2⟩⟩
                case measure => simp [intOf]; omega
              | false =>
                have hr1 : r1 = false := by
                  rw [← HF1.out]
                  unfold fixedF
                  refine decide_eq_false (fun h => ?_)
                  have := h t hlt
                  rw [HX.out, HROW.out] at this
                  exact of_decide_eq_false HDD.out this
                subst hr1
                go_wp2
                go_ret2
                exact ⟨rfl, (HRB.out _ hr2.out).2.2⟩
            · have hE2 : t = l0_1.length := by omega
              have hr1 : r1 = true := by
                rw [← HF1.out]
                unfold fixedF
                exact decide_eq_true (fun j hj => HALL.out j (by omega))
              subst hr1
              clear hE2
              go_wp2
              go_ret2
              exact ⟨rfl, HB.out⟩
    · rw [decide_eq_false hlen, if_neg (by simp), Prod.mk.injEq] at h
      obtain ⟨rfl, rfl⟩ := h
      have c3 : ((l1.length : Int) == (l0_1.length : Int)) = false := by simp; omega
      clear hlen0 hlen
      go_enter Try.func24, Try.ntmps24
      go_wp2_with (go_at_call 15; refine (HK.out _ H0.out).mono ?_; rintro e w' ⟨rfl, hb⟩; have HB := Aside0.mk (H0.out.trans (hb.mono H0.out.size)); have HBX1 := blk_below HBX.out hb; have hx0 := blk_cell HBX1 0; have hx1 := blk_cell HBX1 1; clear hb)
      go_ret2
      exact ⟨rfl, HB.out⟩

end Go.Proofs.Ytkfpbblaomgihaa.P

-- Written by a program of this session (wip/plug.py) out of Lean's print of the translation.
namespace Go.Proofs.Ytkfpbblaomgihaa.P
open Go.RowKit Go.Proofs.YtkfpbblaomgihaaW.PrintWords Go.Proofs.YtkfpbblaomgihaaW.PrintLast Go.Proofs.YtkfpbblaomgihaaW.PrintMore
attribute [local go_sem] max2_int min2_int max_two min_two max_three min_three max_four min_four   -- for this text's walks alone
set_option linter.unusedVariables false
set_option linter.unusedSimpArgs false

/-! ### laws_FnExactIsFixed: function 5 -/
def laws_FnExactIsFixed.j0 : Nat → List (List Int) → List (List Int) → Bool → List (List Int) → List (S97) → List (List Int) → List (S56) → Option (Bool)
  | 0, _, _, _, _, _, _, _ => none
  | k + 1, x1, x9, x47, x363000, x363001, x383000, x383001 => if x47 = true then (some false) else ((laws_toFlow.f k x363000 x363001).bind fun bt388 => ((laws_eqFlow.f k x383000 x383001 bt388.1 bt388.2).bind fun t394 => (if t394 = true then ((laws_toIntSS.f k x1).bind fun t395 => ((laws_eqIntSS.f k x9 t395).bind fun t398 => (if t398 = true then (some true) else (some false)))) else (some false))))
def laws_FnExactIsFixed.f (k : Nat) (l0_0 : List (List Int)) (l0_1 : List (S97)) (l1 : List (List Int)) : Option (Bool) := (laws_szFlow.f k l0_0 l0_1 1048576).bind fun t363 => (if t363 < 0 then (some true) else ((laws_szIntSS.f k l1 t363).bind fun t364 => (if t364 < 0 then (some true) else ((laws_toFlow.f k l0_0 l0_1).bind fun bt365 => ((laws_toIntSS.f k l1).bind fun t371 => ((spec_IsFixed.f k bt365.1 bt365.2 t371).bind fun bt374 => ((laws_toFlow.f k l0_0 l0_1).bind fun bt376 => ((laws_toIntSS.f k l1).bind fun t383 => ((impl_IsFixed.f bt376.1 bt376.2 t383).bind fun bt386 => (if (bt386.1 != bt374.1) = true then (laws_FnExactIsFixed.j0 k l1 t383 true l0_0 l0_1 bt376.1 bt376.2) else (laws_FnExactIsFixed.j0 k l1 t383 (bt386.2 != bt374.2) l0_0 l0_1 bt376.1 bt376.2)))))))))))
theorem laws_FnExactIsFixed.mono_l : ∀ k, (∀ y0 y1 y2 y3 y4 y5 y6, LeO (laws_FnExactIsFixed.j0 k y0 y1 y2 y3 y4 y5 y6) (laws_FnExactIsFixed.j0 (k + 1) y0 y1 y2 y3 y4 y5 y6))
  | 0 => fun _ _ _ _ _ _ _ r h => by simp [laws_FnExactIsFixed.j0] at h
  | k + 1 => by
    have ih0 := laws_FnExactIsFixed.mono_l k
    · intro y0 y1 y2 y3 y4 y5 y6
      unfold laws_FnExactIsFixed.j0
      repeat' first
      | (with_reducible exact ih0 _ _ _ _ _ _ _)
      | (with_reducible exact laws_eqFlow.mono _ _ _ _ _)
      | (with_reducible exact laws_eqIntSS.mono _ _ _)
      | (with_reducible exact laws_szFlow.mono _ _ _ _)
      | (with_reducible exact laws_szIntSS.mono _ _ _)
      | (with_reducible exact laws_toFlow.mono _ _ _)
      | (with_reducible exact laws_toIntSS.mono _ _)
      | (with_reducible exact spec_IsFixed.mono _ _ _ _)
      | (with_reducible exact LeO.refl _)
      | (with_reducible exact LeO.none _)
      | (with_reducible refine LeO.ite ?_ ?_)
      | (with_reducible refine LeO.bind ?_ (fun _ => ?_))
      | exact ih0 _ _ _ _ _ _ _
      | exact laws_eqFlow.mono _ _ _ _ _
      | exact laws_eqIntSS.mono _ _ _
      | exact laws_szFlow.mono _ _ _ _
      | exact laws_szIntSS.mono _ _ _
      | exact laws_toFlow.mono _ _ _
      | exact laws_toIntSS.mono _ _
      | exact spec_IsFixed.mono _ _ _ _
      | exact LeO.none _
      | refine LeO.ite ?_ ?_
      | refine LeO.bind ?_ (fun _ => ?_)
theorem laws_FnExactIsFixed.mono : ∀ a0 a1 a2 k, LeO (laws_FnExactIsFixed.f k a0 a1 a2) (laws_FnExactIsFixed.f (k + 1) a0 a1 a2) := by
  intro a0 a1 a2 k
  have ih0 := laws_FnExactIsFixed.mono_l k
  unfold laws_FnExactIsFixed.f
  repeat' first
      | (with_reducible exact ih0 _ _ _ _ _ _ _)
      | (with_reducible exact laws_eqFlow.mono _ _ _ _ _)
      | (with_reducible exact laws_eqIntSS.mono _ _ _)
      | (with_reducible exact laws_szFlow.mono _ _ _ _)
      | (with_reducible exact laws_szIntSS.mono _ _ _)
      | (with_reducible exact laws_toFlow.mono _ _ _)
      | (with_reducible exact laws_toIntSS.mono _ _)
      | (with_reducible exact spec_IsFixed.mono _ _ _ _)
      | (with_reducible exact LeO.refl _)
      | (with_reducible exact LeO.none _)
      | (with_reducible refine LeO.ite ?_ ?_)
      | (with_reducible refine LeO.bind ?_ (fun _ => ?_))
      | exact ih0 _ _ _ _ _ _ _
      | exact laws_eqFlow.mono _ _ _ _ _
      | exact laws_eqIntSS.mono _ _ _
      | exact laws_szFlow.mono _ _ _ _
      | exact laws_szIntSS.mono _ _ _
      | exact laws_toFlow.mono _ _ _
      | exact laws_toIntSS.mono _ _
      | exact spec_IsFixed.mono _ _ _ _
      | exact LeO.none _
      | refine LeO.ite ?_ ?_
      | refine LeO.bind ?_ (fun _ => ?_)
set_option maxHeartbeats 8000000 in
set_option maxRecDepth 100000 in
theorem laws_FnExactIsFixed.calls (k : Nat) (A0_0 : Option Addr) (c0_0 : Nat) (l0_0 : List (List Int)) (A0_1 : Option Addr) (c0_1 : Nat) (l0_1 : List (S97)) (A1 : Option Addr) (c1 : Nat) (l1 : List (List Int)) (r : Bool) (w : World) (hr0_0 : Kd.C (Kd.slice 3 (Kd.int .i64)) w A0_0 l0_0.length l0_0) (hc0_0 : l0_0.length ≤ c0_0) (hr0_1 : Kd.C k97 w A0_1 l0_1.length l0_1) (hc0_1 : l0_1.length ≤ c0_1) (hr1 : Kd.C (Kd.slice 3 (Kd.int .i64)) w A1 l1.length l1) (hc1 : l1.length ≤ c1) (h : laws_FnExactIsFixed.f k l0_0 l0_1 l1 = some r) :
    Calls Try.prog 5 #[.agg #[.slice A0_0 l0_0.length c0_0, .slice A0_1 l0_1.length c0_1], .slice A1 l1.length c1] w fun e w' => e = .returned (.bool r) ∧ Below w.heap.size w w' := by
  have hu27 := Try.underlying27
  have hu33 := Try.underlying33
  have HR0_0 := Aside0.mk hr0_0
  have HC0_0 := Aside0.mk hc0_0
  clear hr0_0 hc0_0
  have HR0_1 := Aside0.mk hr0_1
  have HC0_1 := Aside0.mk hc0_1
  clear hr0_1 hc0_1
  have HR1 := Aside0.mk hr1
  have HC1 := Aside0.mk hc1
  clear hr1 hc1
  have HB := Aside0.mk (Below.refl w.heap.size w)
  have H : ((laws_szFlow.f k l0_0 l0_1 1048576).bind fun t363 => (if t363 < 0 then (some true) else ((laws_szIntSS.f k l1 t363).bind fun t364 => (if t364 < 0 then (some true) else ((laws_toFlow.f k l0_0 l0_1).bind fun bt365 => ((laws_toIntSS.f k l1).bind fun t371 => ((spec_IsFixed.f k bt365.1 bt365.2 t371).bind fun bt374 => ((laws_toFlow.f k l0_0 l0_1).bind fun bt376 => ((laws_toIntSS.f k l1).bind fun t383 => ((impl_IsFixed.f bt376.1 bt376.2 t383).bind fun bt386 => (if (bt386.1 != bt374.1) = true then (laws_FnExactIsFixed.j0 k l1 t383 true l0_0 l0_1 bt376.1 bt376.2) else (laws_FnExactIsFixed.j0 k l1 t383 (bt386.2 != bt374.2) l0_0 l0_1 bt376.1 bt376.2)))))))))))) = some r := h
  clear h
  replace H := Option.bind_eq_some_iff.mp H
  obtain ⟨t363, A30, H⟩ := H
  replace H : (if t363 < 0 then (some true) else ((laws_szIntSS.f k l1 t363).bind fun t364 => (if t364 < 0 then (some true) else ((laws_toFlow.f k l0_0 l0_1).bind fun bt365 => ((laws_toIntSS.f k l1).bind fun t371 => ((spec_IsFixed.f k bt365.1 bt365.2 t371).bind fun bt374 => ((laws_toFlow.f k l0_0 l0_1).bind fun bt376 => ((laws_toIntSS.f k l1).bind fun t383 => ((impl_IsFixed.f bt376.1 bt376.2 t383).bind fun bt386 => (if (bt386.1 != bt374.1) = true then (laws_FnExactIsFixed.j0 k l1 t383 true l0_0 l0_1 bt376.1 bt376.2) else (laws_FnExactIsFixed.j0 k l1 t383 (bt386.2 != bt374.2) l0_0 l0_1 bt376.1 bt376.2))))))))))) = some r := H
  have A3 := Aside0.mk A30
  clear A30
  by_cases c4 : t363 < 0
  · rw [if_pos c4] at H
    have c4b0 : decide (t363 < 0) = true := decide_eq_true c4
    clear c4
    obtain rfl := Option.some.inj H
    go_enter Try.func5, Try.ntmps5
    go_wp2_with (first | ((with_reducible refine gate_dst (N := 2) rfl ?_); refine box_event ?hg (N := 2) ?hd (cs := #[.slice A0_0 l0_0.length c0_0, .slice A0_1 l0_1.length c0_1]) (t := 27) ?hr ?_; (case hd => rfl); (case hg => rfl); (case hr => first | (go_simp; done) | (go_simp; rfl)); intro gb362 hg w5 hbox hb; have n0_ := Aside0.mk (below_step (by repeat (first | (with_reducible first | exact HB.out | apply below_alloc | apply pw_below_drewN | apply below_drew1) | exact HB.out)) hb); have n1_ := Aside0.mk (hbox); have n2_ := Aside0.mk ((by rw [hg]; exact (below_size (by repeat (first | (with_reducible first | exact HB.out | apply below_alloc | apply pw_below_drewN | apply below_drew1) | exact HB.out))) : w.heap.size ≤ gb362)); have n3_ := Aside0.mk ((by rw [hg]; exact (below_size (by repeat (first | (with_reducible first | exact HB.out | apply below_alloc | apply pw_below_drewN | apply below_drew1) | exact HB.out))) : w.heap.size ≤ gb362)); clear HB; have HB := n0_; have BK362 := n1_; have GW362 := n2_; have GE362 := n3_; clear n0_ n1_ n2_ n3_; clear hb hbox hg; have hcz6_0 : w5.cell? ⟨gb362, 0, none⟩ = some (.slice A0_0 l0_0.length c0_0) := (blk_cell BK362.out 0).trans rfl; have hcz6_1 : w5.cell? ⟨gb362, 1, none⟩ = some (.slice A0_1 l0_1.length c0_1) := (blk_cell BK362.out 1).trans rfl; have hfz6_0 := blk_frozen BK362.out 0; have hfz6_1 := blk_frozen BK362.out 1) | ((with_reducible refine gate_callee (f := 12) rfl ?_); refine goesL_ (some 14) rfl rfl Try.func12 (by kernel_rfl) rfl #[.agg #[.slice A0_0 l0_0.length c0_0, .slice A0_1 l0_1.length c0_1], .int .i64 1048576] rfl (by (try simp only [List.map_toArray, List.map_cons, List.map_nil]); first | done | rfl | (simp only [List.length_drop, List.length_take]; rfl)) ?_; (with_reducible refine (laws_szFlow.calls k _ _ l0_0 _ _ l0_1 1048576 t363 _ ?side1 ?side2 ?side3 ?side4 A3.out).mono ?_); (case side1 => repeat (first | exact (Kd.C_below HR0_0.out HB.out) | (with_reducible refine Kd.C_alloc ?_ _) | (with_reducible refine Kd.C_drewN ?_ _) | (with_reducible refine Kd.C_drew ?_))); (case side2 => exact HC0_0.out); (case side3 => repeat (first | exact (Kd.C_below HR0_1.out HB.out) | (with_reducible refine Kd.C_alloc ?_ _) | (with_reducible refine Kd.C_drewN ?_ _) | (with_reducible refine Kd.C_drew ?_))); (case side4 => exact HC0_1.out); rintro e w7 ⟨rfl, hb⟩; refine ⟨_, rfl, ?_⟩; have n0_ := Aside0.mk (blk_below (g := gb362) (o := .cells #[.slice A0_0 l0_0.length c0_0, .slice A0_1 l0_1.length c0_1] 27 (0, 0)) (by (with_reducible repeat (first | refine blk_drewN ?_ _ | refine blk_drew ?_ | refine blk_alloc ?_ _)); exact BK362.out) hb); have n1_ := Aside0.mk (below_step (by repeat (first | (with_reducible first | exact HB.out | apply below_alloc | apply pw_below_drewN | apply below_drew1 | refine below_set ?_ GE362.out) | exact HB.out)) hb); clear BK362; clear HB; have BK362 := n0_; have HB := n1_; clear n0_ n1_; (try clear hb); (try clear hb2); (try clear hk); (try clear hi)))
    go_ret
    exact ⟨by first | rfl | (simp [errW_none, errW_some] <;> rfl) | (simp [*, errW_none, errW_some] <;> rfl), by repeat (first | (with_reducible first | exact HB.out | apply below_alloc | apply pw_below_drewN | apply below_drew1 | refine below_set ?_ GE362.out) | exact HB.out)⟩
  · rw [if_neg c4] at H
    have c4b0 : decide (t363 < 0) = false := decide_eq_false c4
    clear c4
    replace H := Option.bind_eq_some_iff.mp H
    obtain ⟨t364, A80, H⟩ := H
    replace H : (if t364 < 0 then (some true) else ((laws_toFlow.f k l0_0 l0_1).bind fun bt365 => ((laws_toIntSS.f k l1).bind fun t371 => ((spec_IsFixed.f k bt365.1 bt365.2 t371).bind fun bt374 => ((laws_toFlow.f k l0_0 l0_1).bind fun bt376 => ((laws_toIntSS.f k l1).bind fun t383 => ((impl_IsFixed.f bt376.1 bt376.2 t383).bind fun bt386 => (if (bt386.1 != bt374.1) = true then (laws_FnExactIsFixed.j0 k l1 t383 true l0_0 l0_1 bt376.1 bt376.2) else (laws_FnExactIsFixed.j0 k l1 t383 (bt386.2 != bt374.2) l0_0 l0_1 bt376.1 bt376.2))))))))) = some r := H
    have A8 := Aside0.mk A80
    clear A80
    by_cases c9 : t364 < 0
    · rw [if_pos c9] at H
      have c9b0 : decide (t364 < 0) = true := decide_eq_true c9
      clear c9
      obtain rfl := Option.some.inj H
      go_enter Try.func5, Try.ntmps5
      go_wp2_with (first | ((with_reducible refine gate_dst (N := 2) rfl ?_); refine box_event ?hg (N := 2) ?hd (cs := #[.slice A0_0 l0_0.length c0_0, .slice A0_1 l0_1.length c0_1]) (t := 27) ?hr ?_; (case hd => rfl); (case hg => rfl); (case hr => first | (go_simp; done) | (go_simp; rfl)); intro gb362 hg w10 hbox hb; have n0_ := Aside0.mk (below_step (by repeat (first | (with_reducible first | exact HB.out | apply below_alloc | apply pw_below_drewN | apply below_drew1) | exact HB.out)) hb); have n1_ := Aside0.mk (hbox); have n2_ := Aside0.mk ((by rw [hg]; exact (below_size (by repeat (first | (with_reducible first | exact HB.out | apply below_alloc | apply pw_below_drewN | apply below_drew1) | exact HB.out))) : w.heap.size ≤ gb362)); have n3_ := Aside0.mk ((by rw [hg]; exact (below_size (by repeat (first | (with_reducible first | exact HB.out | apply below_alloc | apply pw_below_drewN | apply below_drew1) | exact HB.out))) : w.heap.size ≤ gb362)); clear HB; have HB := n0_; have BK362 := n1_; have GW362 := n2_; have GE362 := n3_; clear n0_ n1_ n2_ n3_; clear hb hbox hg; have hcz11_0 : w10.cell? ⟨gb362, 0, none⟩ = some (.slice A0_0 l0_0.length c0_0) := (blk_cell BK362.out 0).trans rfl; have hcz11_1 : w10.cell? ⟨gb362, 1, none⟩ = some (.slice A0_1 l0_1.length c0_1) := (blk_cell BK362.out 1).trans rfl; have hfz11_0 := blk_frozen BK362.out 0; have hfz11_1 := blk_frozen BK362.out 1) | ((with_reducible refine gate_callee (f := 12) rfl ?_); refine goesL_ (some 14) rfl rfl Try.func12 (by kernel_rfl) rfl #[.agg #[.slice A0_0 l0_0.length c0_0, .slice A0_1 l0_1.length c0_1], .int .i64 1048576] rfl (by (try simp only [List.map_toArray, List.map_cons, List.map_nil]); first | done | rfl | (simp only [List.length_drop, List.length_take]; rfl)) ?_; (with_reducible refine (laws_szFlow.calls k _ _ l0_0 _ _ l0_1 1048576 t363 _ ?side1 ?side2 ?side3 ?side4 A3.out).mono ?_); (case side1 => repeat (first | exact (Kd.C_below HR0_0.out HB.out) | (with_reducible refine Kd.C_alloc ?_ _) | (with_reducible refine Kd.C_drewN ?_ _) | (with_reducible refine Kd.C_drew ?_))); (case side2 => exact HC0_0.out); (case side3 => repeat (first | exact (Kd.C_below HR0_1.out HB.out) | (with_reducible refine Kd.C_alloc ?_ _) | (with_reducible refine Kd.C_drewN ?_ _) | (with_reducible refine Kd.C_drew ?_))); (case side4 => exact HC0_1.out); rintro e w12 ⟨rfl, hb⟩; refine ⟨_, rfl, ?_⟩; have n0_ := Aside0.mk (blk_below (g := gb362) (o := .cells #[.slice A0_0 l0_0.length c0_0, .slice A0_1 l0_1.length c0_1] 27 (0, 0)) (by (with_reducible repeat (first | refine blk_drewN ?_ _ | refine blk_drew ?_ | refine blk_alloc ?_ _)); exact BK362.out) hb); have n1_ := Aside0.mk (below_step (by repeat (first | (with_reducible first | exact HB.out | apply below_alloc | apply pw_below_drewN | apply below_drew1 | refine below_set ?_ GE362.out) | exact HB.out)) hb); clear BK362; clear HB; have BK362 := n0_; have HB := n1_; clear n0_ n1_; (try clear hb); (try clear hb2); (try clear hk); (try clear hi)) | ((with_reducible refine gate_callee (f := 21) rfl ?_); refine goesL_ (some 19) rfl rfl Try.func21 (by kernel_rfl) rfl #[.slice A1 l1.length c1, .int .i64 t363] rfl (by (try simp only [List.map_toArray, List.map_cons, List.map_nil]); first | done | rfl | (simp only [List.length_drop, List.length_take]; rfl)) ?_; (with_reducible refine (laws_szIntSS.calls k _ _ l1 t363 t364 _ ?side1 ?side2 A8.out).mono ?_); (case side1 => repeat (first | exact (Kd.C_below HR1.out HB.out) | (with_reducible refine Kd.C_alloc ?_ _) | (with_reducible refine Kd.C_drewN ?_ _) | (with_reducible refine Kd.C_drew ?_))); (case side2 => exact HC1.out); rintro e w' ⟨rfl, ⟨nd, rfl⟩⟩; refine ⟨_, rfl, ?_⟩))
      go_ret
      exact ⟨by first | rfl | (simp [errW_none, errW_some] <;> rfl) | (simp [*, errW_none, errW_some] <;> rfl), by repeat (first | (with_reducible first | exact HB.out | apply below_alloc | apply pw_below_drewN | apply below_drew1 | refine below_set ?_ GE362.out) | exact HB.out)⟩
    · rw [if_neg c9] at H
      have c9b0 : decide (t364 < 0) = false := decide_eq_false c9
      clear c9
      replace H := Option.bind_eq_some_iff.mp H
      obtain ⟨⟨t365, t368⟩, A130, H⟩ := H
      replace H : ((laws_toIntSS.f k l1).bind fun t371 => ((spec_IsFixed.f k t365 t368 t371).bind fun bt374 => ((laws_toFlow.f k l0_0 l0_1).bind fun bt376 => ((laws_toIntSS.f k l1).bind fun t383 => ((impl_IsFixed.f bt376.1 bt376.2 t383).bind fun bt386 => (if (bt386.1 != bt374.1) = true then (laws_FnExactIsFixed.j0 k l1 t383 true l0_0 l0_1 bt376.1 bt376.2) else (laws_FnExactIsFixed.j0 k l1 t383 (bt386.2 != bt374.2) l0_0 l0_1 bt376.1 bt376.2))))))) = some r := H
      have A13 := Aside0.mk A130
      clear A130
      replace H := Option.bind_eq_some_iff.mp H
      obtain ⟨t371, A140, H⟩ := H
      replace H : ((spec_IsFixed.f k t365 t368 t371).bind fun bt374 => ((laws_toFlow.f k l0_0 l0_1).bind fun bt376 => ((laws_toIntSS.f k l1).bind fun t383 => ((impl_IsFixed.f bt376.1 bt376.2 t383).bind fun bt386 => (if (bt386.1 != bt374.1) = true then (laws_FnExactIsFixed.j0 k l1 t383 true l0_0 l0_1 bt376.1 bt376.2) else (laws_FnExactIsFixed.j0 k l1 t383 (bt386.2 != bt374.2) l0_0 l0_1 bt376.1 bt376.2)))))) = some r := H
      have A14 := Aside0.mk A140
      clear A140
      replace H := Option.bind_eq_some_iff.mp H
      obtain ⟨⟨t374, t375⟩, A150, H⟩ := H
      replace H : ((laws_toFlow.f k l0_0 l0_1).bind fun bt376 => ((laws_toIntSS.f k l1).bind fun t383 => ((impl_IsFixed.f bt376.1 bt376.2 t383).bind fun bt386 => (if (bt386.1 != t374) = true then (laws_FnExactIsFixed.j0 k l1 t383 true l0_0 l0_1 bt376.1 bt376.2) else (laws_FnExactIsFixed.j0 k l1 t383 (bt386.2 != t375) l0_0 l0_1 bt376.1 bt376.2))))) = some r := H
      have A15 := Aside0.mk A150
      clear A150
      replace H := Option.bind_eq_some_iff.mp H
      obtain ⟨⟨t376, t379⟩, A160, H⟩ := H
      replace H : ((laws_toIntSS.f k l1).bind fun t383 => ((impl_IsFixed.f t376 t379 t383).bind fun bt386 => (if (bt386.1 != t374) = true then (laws_FnExactIsFixed.j0 k l1 t383 true l0_0 l0_1 t376 t379) else (laws_FnExactIsFixed.j0 k l1 t383 (bt386.2 != t375) l0_0 l0_1 t376 t379)))) = some r := H
      have A16 := Aside0.mk A160
      clear A160
      replace H := Option.bind_eq_some_iff.mp H
      obtain ⟨t383, A170, H⟩ := H
      replace H : ((impl_IsFixed.f t376 t379 t383).bind fun bt386 => (if (bt386.1 != t374) = true then (laws_FnExactIsFixed.j0 k l1 t383 true l0_0 l0_1 t376 t379) else (laws_FnExactIsFixed.j0 k l1 t383 (bt386.2 != t375) l0_0 l0_1 t376 t379))) = some r := H
      have A17 := Aside0.mk A170
      clear A170
      replace H := Option.bind_eq_some_iff.mp H
      obtain ⟨⟨t386, t387⟩, A180, H⟩ := H
      replace H : (if (t386 != t374) = true then (laws_FnExactIsFixed.j0 k l1 t383 true l0_0 l0_1 t376 t379) else (laws_FnExactIsFixed.j0 k l1 t383 (t387 != t375) l0_0 l0_1 t376 t379)) = some r := H
      have A18 := Aside0.mk A180
      clear A180
      have HC19 := Aside0.mk H
      clear H
      go_enter Try.func5, Try.ntmps5
      go_upto_region 12 with (first | ((with_reducible refine gate_dst (N := 2) rfl ?_); refine box_event ?hg (N := 2) ?hd (cs := #[.slice A0_0 l0_0.length c0_0, .slice A0_1 l0_1.length c0_1]) (t := 27) ?hr ?_; (case hd => rfl); (case hg => rfl); (case hr => first | (go_simp; done) | (go_simp; rfl)); intro gb362 hg w20 hbox hb; have n0_ := Aside0.mk (below_step (by repeat (first | (with_reducible first | exact HB.out | apply below_alloc | apply pw_below_drewN | apply below_drew1) | exact HB.out)) hb); have n1_ := Aside0.mk (hbox); have n2_ := Aside0.mk ((by rw [hg]; exact (below_size (by repeat (first | (with_reducible first | exact HB.out | apply below_alloc | apply pw_below_drewN | apply below_drew1) | exact HB.out))) : w.heap.size ≤ gb362)); have n3_ := Aside0.mk ((by rw [hg]; exact (below_size (by repeat (first | (with_reducible first | exact HB.out | apply below_alloc | apply pw_below_drewN | apply below_drew1) | exact HB.out))) : w.heap.size ≤ gb362)); clear HB; have HB := n0_; have BK362 := n1_; have GW362 := n2_; have GE362 := n3_; clear n0_ n1_ n2_ n3_; clear hb hbox hg; have hcz21_0 : w20.cell? ⟨gb362, 0, none⟩ = some (.slice A0_0 l0_0.length c0_0) := (blk_cell BK362.out 0).trans rfl; have hcz21_1 : w20.cell? ⟨gb362, 1, none⟩ = some (.slice A0_1 l0_1.length c0_1) := (blk_cell BK362.out 1).trans rfl; have hfz21_0 := blk_frozen BK362.out 0; have hfz21_1 := blk_frozen BK362.out 1) | ((with_reducible refine gate_callee (f := 12) rfl ?_); refine goesL_ (some 14) rfl rfl Try.func12 (by kernel_rfl) rfl #[.agg #[.slice A0_0 l0_0.length c0_0, .slice A0_1 l0_1.length c0_1], .int .i64 1048576] rfl (by (try simp only [List.map_toArray, List.map_cons, List.map_nil]); first | done | rfl | (simp only [List.length_drop, List.length_take]; rfl)) ?_; (with_reducible refine (laws_szFlow.calls k _ _ l0_0 _ _ l0_1 1048576 t363 _ ?side1 ?side2 ?side3 ?side4 A3.out).mono ?_); (case side1 => repeat (first | exact (Kd.C_below HR0_0.out HB.out) | (with_reducible refine Kd.C_alloc ?_ _) | (with_reducible refine Kd.C_drewN ?_ _) | (with_reducible refine Kd.C_drew ?_))); (case side2 => exact HC0_0.out); (case side3 => repeat (first | exact (Kd.C_below HR0_1.out HB.out) | (with_reducible refine Kd.C_alloc ?_ _) | (with_reducible refine Kd.C_drewN ?_ _) | (with_reducible refine Kd.C_drew ?_))); (case side4 => exact HC0_1.out); rintro e w22 ⟨rfl, hb⟩; refine ⟨_, rfl, ?_⟩; have n0_ := Aside0.mk (blk_below (g := gb362) (o := .cells #[.slice A0_0 l0_0.length c0_0, .slice A0_1 l0_1.length c0_1] 27 (0, 0)) (by (with_reducible repeat (first | refine blk_drewN ?_ _ | refine blk_drew ?_ | refine blk_alloc ?_ _)); exact BK362.out) hb); have n1_ := Aside0.mk (below_step (by repeat (first | (with_reducible first | exact HB.out | apply below_alloc | apply pw_below_drewN | apply below_drew1 | refine below_set ?_ GE362.out) | exact HB.out)) hb); clear BK362; clear HB; have BK362 := n0_; have HB := n1_; clear n0_ n1_; (try clear hb); (try clear hb2); (try clear hk); (try clear hi)) | ((with_reducible refine gate_callee (f := 21) rfl ?_); refine goesL_ (some 19) rfl rfl Try.func21 (by kernel_rfl) rfl #[.slice A1 l1.length c1, .int .i64 t363] rfl (by (try simp only [List.map_toArray, List.map_cons, List.map_nil]); first | done | rfl | (simp only [List.length_drop, List.length_take]; rfl)) ?_; (with_reducible refine (laws_szIntSS.calls k _ _ l1 t363 t364 _ ?side1 ?side2 A8.out).mono ?_); (case side1 => repeat (first | exact (Kd.C_below HR1.out HB.out) | (with_reducible refine Kd.C_alloc ?_ _) | (with_reducible refine Kd.C_drewN ?_ _) | (with_reducible refine Kd.C_drew ?_))); (case side2 => exact HC1.out); rintro e w' ⟨rfl, ⟨nd, rfl⟩⟩; refine ⟨_, rfl, ?_⟩; (try (rw [drewN_self w22]; generalize hq_ : World.drewN w22 _ = w22; have n0_ : Aside0 (w22.heap[gb362]? = some (.cells #[.slice A0_0 l0_0.length c0_0, .slice A0_1 l0_1.length c0_1] 27 (0, 0))) := ⟨by rw [← hq_]; exact (by (with_reducible repeat (first | refine blk_drewN ?_ _ | refine blk_drew ?_ | refine blk_alloc ?_ _)); exact BK362.out)⟩; have n1_ : Aside0 (Below w.heap.size w w22) := ⟨by rw [← hq_]; exact (by repeat (first | (with_reducible first | exact HB.out | apply below_alloc | apply pw_below_drewN | apply below_drew1 | refine below_set ?_ GE362.out) | exact HB.out))⟩; clear BK362 HB hq_; have BK362 := n0_; have HB := n1_; clear n0_ n1_)); have hcz23_0 : w22.cell? ⟨gb362, 0, none⟩ = some (.slice A0_0 l0_0.length c0_0) := (blk_cell BK362.out 0).trans rfl; have hcz23_1 : w22.cell? ⟨gb362, 1, none⟩ = some (.slice A0_1 l0_1.length c0_1) := (blk_cell BK362.out 1).trans rfl; have hfz23_0 := blk_frozen BK362.out 0; have hfz23_1 := blk_frozen BK362.out 1) | ((with_reducible refine gate_callee (f := 14) rfl ?_); refine goesL_ (some 24) rfl rfl Try.func14 (by kernel_rfl) rfl #[.agg #[.slice A0_0 l0_0.length c0_0, .slice A0_1 l0_1.length c0_1]] rfl (by (try simp only [List.map_toArray, List.map_cons, List.map_nil]); first | done | rfl | (simp only [List.length_drop, List.length_take]; rfl)) ?_; (with_reducible refine (laws_toFlow.calls k _ _ l0_0 _ _ l0_1 t365 t368 _ ?side1 ?side2 ?side3 ?side4 A13.out).mono ?_); (case side1 => repeat (first | exact (Kd.C_below HR0_0.out HB.out) | (with_reducible refine Kd.C_alloc ?_ _) | (with_reducible refine Kd.C_drewN ?_ _) | (with_reducible refine Kd.C_drew ?_))); (case side2 => exact HC0_0.out); (case side3 => repeat (first | exact (Kd.C_below HR0_1.out HB.out) | (with_reducible refine Kd.C_alloc ?_ _) | (with_reducible refine Kd.C_drewN ?_ _) | (with_reducible refine Kd.C_drew ?_))); (case side4 => exact HC0_1.out); rintro e w24 ⟨v366, v369, rfl, ho0, ho1, hb⟩; refine ⟨_, rfl, ?_⟩; have n0_ := Aside0.mk (Kd.S_lower ho0 (below_size (by repeat (first | (with_reducible first | exact HB.out | apply below_alloc | apply pw_below_drewN | apply below_drew1 | refine below_set ?_ GE362.out) | exact HB.out)))); have n1_ := Aside0.mk (Kd.S_lower ho1 (below_size (by repeat (first | (with_reducible first | exact HB.out | apply below_alloc | apply pw_below_drewN | apply below_drew1 | refine below_set ?_ GE362.out) | exact HB.out)))); have n2_ := Aside0.mk (blk_below (g := gb362) (o := .cells #[.slice A0_0 l0_0.length c0_0, .slice A0_1 l0_1.length c0_1] 27 (0, 0)) (by (with_reducible repeat (first | refine blk_drewN ?_ _ | refine blk_drew ?_ | refine blk_alloc ?_ _)); exact BK362.out) hb); have n3_ := Aside0.mk (below_step (by repeat (first | (with_reducible first | exact HB.out | apply below_alloc | apply pw_below_drewN | apply below_drew1 | refine below_set ?_ GE362.out) | exact HB.out)) hb); clear BK362; clear HB; have HO367 := n0_; have HO370 := n1_; have BK362 := n2_; have HB := n3_; clear n0_ n1_ n2_ n3_; (try clear hb); (try clear hb2); (try clear hk); (try clear hi); (try clear ho0); (try clear ho1)) | ((with_reducible refine gate_callee (f := 23) rfl ?_); refine goesL_ (some 26) rfl rfl Try.func23 (by kernel_rfl) rfl #[.slice A1 l1.length c1] rfl (by (try simp only [List.map_toArray, List.map_cons, List.map_nil]); first | done | rfl | (simp only [List.length_drop, List.length_take]; rfl)) ?_; (with_reducible refine (laws_toIntSS.calls k _ _ l1 t371 _ ?side1 ?side2 A14.out).mono ?_); (case side1 => repeat (first | exact (Kd.C_below HR1.out HB.out) | (with_reducible refine Kd.C_alloc ?_ _) | (with_reducible refine Kd.C_drewN ?_ _) | (with_reducible refine Kd.C_drew ?_))); (case side2 => exact HC1.out); rintro e w25 ⟨v372, rfl, ho0, hb⟩; refine ⟨_, rfl, ?_⟩; have n0_ := Aside0.mk (Kd.S_elder' (by (with_reducible repeat (first | apply Kd.S_alloc | apply Kd.S_drewN | apply Kd.S_drew)); exact HO367.out) (Kd.S_base ho0) hb); have n1_ := Aside0.mk (Kd.S_below (by (with_reducible repeat (first | apply Kd.S_alloc | apply Kd.S_drewN | apply Kd.S_drew)); exact HO370.out) hb); have n2_ := Aside0.mk (Kd.S_lower (Kd.S_new' ho0 (Kd.S_lt (by (with_reducible repeat (first | apply Kd.S_alloc | apply Kd.S_drewN | apply Kd.S_drew)); exact HO367.out))) (below_size (by repeat (first | (with_reducible first | exact HB.out | apply below_alloc | apply pw_below_drewN | apply below_drew1 | refine below_set ?_ GE362.out) | exact HB.out)))); have n3_ := Aside0.mk (blk_below (g := gb362) (o := .cells #[.slice A0_0 l0_0.length c0_0, .slice A0_1 l0_1.length c0_1] 27 (0, 0)) (by (with_reducible repeat (first | refine blk_drewN ?_ _ | refine blk_drew ?_ | refine blk_alloc ?_ _)); exact BK362.out) hb); have n4_ := Aside0.mk (below_step (by repeat (first | (with_reducible first | exact HB.out | apply below_alloc | apply pw_below_drewN | apply below_drew1 | refine below_set ?_ GE362.out) | exact HB.out)) hb); clear HO367; clear HO370; clear BK362; clear HB; have HO367 := n0_; have HO370 := n1_; have HO373 := n2_; have BK362 := n3_; have HB := n4_; clear n0_ n1_ n2_ n3_ n4_; (try clear hb); (try clear hb2); (try clear hk); (try clear hi); (try clear ho0); obtain ⟨Ao26, co26, eo26⟩ := Kd.S_slice HO367.out; subst eo26; obtain ⟨Ao27, co27, eo27⟩ := Kd.S_slice HO370.out; subst eo27; obtain ⟨Ao28, co28, eo28⟩ := Kd.S_slice HO373.out; subst eo28) | ((with_reducible refine gate_callee (f := 22) rfl ?_); refine goesL_ (some 27) rfl rfl Try.func22 (by kernel_rfl) rfl #[.agg #[.slice Ao26 t365.length co26, .slice Ao27 t368.length co27], .slice Ao28 t371.length co28] rfl (by (try simp only [List.map_toArray, List.map_cons, List.map_nil]); first | done | rfl | (simp only [List.length_drop, List.length_take]; rfl)) ?_; (with_reducible refine (spec_IsFixed.calls k _ _ t365 _ _ t368 _ _ t371 t374 t375 _ ?side1 ?side2 ?side3 ?side4 ?side5 ?side6 A15.out).mono ?_); (case side1 => repeat (first | exact (Kd.S_reads' HO367.out).2.2 | (with_reducible refine Kd.C_alloc ?_ _) | (with_reducible refine Kd.C_drewN ?_ _) | (with_reducible refine Kd.C_drew ?_))); (case side2 => exact (Kd.S_reads' HO367.out).2.1); (case side3 => repeat (first | exact (Kd.S_reads' HO370.out).2.2 | (with_reducible refine Kd.C_alloc ?_ _) | (with_reducible refine Kd.C_drewN ?_ _) | (with_reducible refine Kd.C_drew ?_))); (case side4 => exact (Kd.S_reads' HO370.out).2.1); (case side5 => repeat (first | exact (Kd.S_reads' HO373.out).2.2 | (with_reducible refine Kd.C_alloc ?_ _) | (with_reducible refine Kd.C_drewN ?_ _) | (with_reducible refine Kd.C_drew ?_))); (case side6 => exact (Kd.S_reads' HO373.out).2.1); rintro e w29 ⟨rfl, hb⟩; refine ⟨_, rfl, ?_⟩; have n0_ := Aside0.mk (Kd.S_below (by (with_reducible repeat (first | apply Kd.S_alloc | apply Kd.S_drewN | apply Kd.S_drew)); exact HO367.out) hb); have n1_ := Aside0.mk (Kd.S_below (by (with_reducible repeat (first | apply Kd.S_alloc | apply Kd.S_drewN | apply Kd.S_drew)); exact HO370.out) hb); have n2_ := Aside0.mk (Kd.S_below (by (with_reducible repeat (first | apply Kd.S_alloc | apply Kd.S_drewN | apply Kd.S_drew)); exact HO373.out) hb); have n3_ := Aside0.mk (blk_below (g := gb362) (o := .cells #[.slice A0_0 l0_0.length c0_0, .slice A0_1 l0_1.length c0_1] 27 (0, 0)) (by (with_reducible repeat (first | refine blk_drewN ?_ _ | refine blk_drew ?_ | refine blk_alloc ?_ _)); exact BK362.out) hb); have n4_ := Aside0.mk (below_step (by repeat (first | (with_reducible first | exact HB.out | apply below_alloc | apply pw_below_drewN | apply below_drew1 | refine below_set ?_ GE362.out) | exact HB.out)) hb); clear HO367; clear HO370; clear HO373; clear BK362; clear HB; have HO367 := n0_; have HO370 := n1_; have HO373 := n2_; have BK362 := n3_; have HB := n4_; clear n0_ n1_ n2_ n3_ n4_; (try clear hb); (try clear hb2); (try clear hk); (try clear hi); have hcz30_0 : w29.cell? ⟨gb362, 0, none⟩ = some (.slice A0_0 l0_0.length c0_0) := (blk_cell BK362.out 0).trans rfl; have hcz30_1 : w29.cell? ⟨gb362, 1, none⟩ = some (.slice A0_1 l0_1.length c0_1) := (blk_cell BK362.out 1).trans rfl; have hfz30_0 := blk_frozen BK362.out 0; have hfz30_1 := blk_frozen BK362.out 1) | ((with_reducible refine gate_callee (f := 14) rfl ?_); refine goesL_ (some 31) rfl rfl Try.func14 (by kernel_rfl) rfl #[.agg #[.slice A0_0 l0_0.length c0_0, .slice A0_1 l0_1.length c0_1]] rfl (by (try simp only [List.map_toArray, List.map_cons, List.map_nil]); first | done | rfl | (simp only [List.length_drop, List.length_take]; rfl)) ?_; (with_reducible refine (laws_toFlow.calls k _ _ l0_0 _ _ l0_1 t376 t379 _ ?side1 ?side2 ?side3 ?side4 A16.out).mono ?_); (case side1 => repeat (first | exact (Kd.C_below HR0_0.out HB.out) | (with_reducible refine Kd.C_alloc ?_ _) | (with_reducible refine Kd.C_drewN ?_ _) | (with_reducible refine Kd.C_drew ?_))); (case side2 => exact HC0_0.out); (case side3 => repeat (first | exact (Kd.C_below HR0_1.out HB.out) | (with_reducible refine Kd.C_alloc ?_ _) | (with_reducible refine Kd.C_drewN ?_ _) | (with_reducible refine Kd.C_drew ?_))); (case side4 => exact HC0_1.out); rintro e w31 ⟨v377, v380, rfl, ho0, ho1, hb⟩; refine ⟨_, rfl, ?_⟩; have n0_ := Aside0.mk (Kd.S_elder' (by (with_reducible repeat (first | apply Kd.S_alloc | apply Kd.S_drewN | apply Kd.S_drew)); exact HO367.out) (Kd.S_base ho0) hb); have n1_ := Aside0.mk (Kd.S_elder' (by (with_reducible repeat (first | apply Kd.S_alloc | apply Kd.S_drewN | apply Kd.S_drew)); exact HO370.out) (Kd.S_base ho1) hb); have n2_ := Aside0.mk (Kd.S_elder' (by (with_reducible repeat (first | apply Kd.S_alloc | apply Kd.S_drewN | apply Kd.S_drew)); exact HO373.out) (Kd.S_base ho0) hb); have n3_ := Aside0.mk (Kd.S_lower (Kd.S_new' (Kd.S_new' ho0 (Kd.S_lt (by (with_reducible repeat (first | apply Kd.S_alloc | apply Kd.S_drewN | apply Kd.S_drew)); exact HO367.out))) (Kd.S_lt (by (with_reducible repeat (first | apply Kd.S_alloc | apply Kd.S_drewN | apply Kd.S_drew)); exact HO373.out))) (below_size (by repeat (first | (with_reducible first | exact HB.out | apply below_alloc | apply pw_below_drewN | apply below_drew1 | refine below_set ?_ GE362.out) | exact HB.out)))); have n4_ := Aside0.mk (Kd.S_lower (Kd.S_new' ho1 (Kd.S_lt (by (with_reducible repeat (first | apply Kd.S_alloc | apply Kd.S_drewN | apply Kd.S_drew)); exact HO370.out))) (below_size (by repeat (first | (with_reducible first | exact HB.out | apply below_alloc | apply pw_below_drewN | apply below_drew1 | refine below_set ?_ GE362.out) | exact HB.out)))); have n5_ := Aside0.mk (blk_below (g := gb362) (o := .cells #[.slice A0_0 l0_0.length c0_0, .slice A0_1 l0_1.length c0_1] 27 (0, 0)) (by (with_reducible repeat (first | refine blk_drewN ?_ _ | refine blk_drew ?_ | refine blk_alloc ?_ _)); exact BK362.out) hb); have n6_ := Aside0.mk (below_step (by repeat (first | (with_reducible first | exact HB.out | apply below_alloc | apply pw_below_drewN | apply below_drew1 | refine below_set ?_ GE362.out) | exact HB.out)) hb); clear HO367; clear HO370; clear HO373; clear BK362; clear HB; have HO367 := n0_; have HO370 := n1_; have HO373 := n2_; have HO378 := n3_; have HO381 := n4_; have BK362 := n5_; have HB := n6_; clear n0_ n1_ n2_ n3_ n4_ n5_ n6_; (try clear hb); (try clear hb2); (try clear hk); (try clear hi); (try clear ho0); (try clear ho1)) | ((with_reducible refine gate_dst (N := 8) rfl ?_); refine box_event ?hg (N := 8) ?hd (cs := #[.slice none 0 0, .slice none 0 0]) (t := 33) ?hr ?_; (case hd => rfl); (case hg => rfl); (case hr => first | (go_simp; done) | (go_simp; rfl)); intro gb382 hg w32 hbox hb; have n0_ := Aside0.mk (Kd.S_below (by (with_reducible repeat (first | apply Kd.S_alloc | apply Kd.S_drewN | apply Kd.S_drew)); exact HO367.out) hb); have n1_ := Aside0.mk (Kd.S_below (by (with_reducible repeat (first | apply Kd.S_alloc | apply Kd.S_drewN | apply Kd.S_drew)); exact HO370.out) hb); have n2_ := Aside0.mk (Kd.S_below (by (with_reducible repeat (first | apply Kd.S_alloc | apply Kd.S_drewN | apply Kd.S_drew)); exact HO373.out) hb); have n3_ := Aside0.mk (Kd.S_below (by (with_reducible repeat (first | apply Kd.S_alloc | apply Kd.S_drewN | apply Kd.S_drew)); exact HO378.out) hb); have n4_ := Aside0.mk (Kd.S_below (by (with_reducible repeat (first | apply Kd.S_alloc | apply Kd.S_drewN | apply Kd.S_drew)); exact HO381.out) hb); have n5_ := Aside0.mk (blk_below (g := gb362) (o := .cells #[.slice A0_0 l0_0.length c0_0, .slice A0_1 l0_1.length c0_1] 27 (0, 0)) (by (with_reducible repeat (first | refine blk_drewN ?_ _ | refine blk_drew ?_ | refine blk_alloc ?_ _)); exact BK362.out) hb); have n6_ := Aside0.mk (below_step (by repeat (first | (with_reducible first | exact HB.out | apply below_alloc | apply pw_below_drewN | apply below_drew1 | refine below_set ?_ GE362.out) | exact HB.out)) hb); have n7_ := Aside0.mk (hbox); have n8_ := Aside0.mk ((by rw [hg]; exact (below_size (by repeat (first | (with_reducible first | exact HB.out | apply below_alloc | apply pw_below_drewN | apply below_drew1 | refine below_set ?_ GE362.out) | exact HB.out))) : w.heap.size ≤ gb382)); have n9_ := Aside0.mk ((by rw [hg]; exact (below_size (by repeat (first | (with_reducible first | exact HB.out | apply below_alloc | apply pw_below_drewN | apply below_drew1 | refine below_set ?_ GE362.out) | exact HB.out))) : w.heap.size ≤ gb382)); have n10_ := Aside0.mk ((by rw [hg]; exact Nat.ne_of_lt (blk_lt (g := gb362) (o := .cells #[.slice A0_0 l0_0.length c0_0, .slice A0_1 l0_1.length c0_1] 27 (0, 0)) (by (with_reducible repeat (first | refine blk_drewN ?_ _ | refine blk_drew ?_ | refine blk_alloc ?_ _)); exact BK362.out)) : gb362 ≠ gb382)); have n11_ := Aside0.mk ((by rw [hg]; exact Nat.ne_of_gt (blk_lt (g := gb362) (o := .cells #[.slice A0_0 l0_0.length c0_0, .slice A0_1 l0_1.length c0_1] 27 (0, 0)) (by (with_reducible repeat (first | refine blk_drewN ?_ _ | refine blk_drew ?_ | refine blk_alloc ?_ _)); exact BK362.out)) : gb382 ≠ gb362)); clear HO367; clear HO370; clear HO373; clear HO378; clear HO381; clear BK362; clear HB; have HO367 := n0_; have HO370 := n1_; have HO373 := n2_; have HO378 := n3_; have HO381 := n4_; have BK362 := n5_; have HB := n6_; have BK382 := n7_; have GW382 := n8_; have GE382 := n9_; have NB362_382 := n10_; have NB382_362 := n11_; clear n0_ n1_ n2_ n3_ n4_ n5_ n6_ n7_ n8_ n9_ n10_ n11_; clear hb hbox hg; obtain ⟨Ao33, co33, eo33⟩ := Kd.S_slice HO378.out; subst eo33; have hnb34 := NB382_362.out; have hnc34 := NB362_382.out; have hcz35_0 : w32.cell? ⟨gb382, 0, none⟩ = some (.slice none 0 0) := (blk_cell BK382.out 0).trans rfl; have hcz35_1 : w32.cell? ⟨gb382, 1, none⟩ = some (.slice none 0 0) := (blk_cell BK382.out 1).trans rfl; have hfz35_0 := blk_frozen BK382.out 0; have hfz35_1 := blk_frozen BK382.out 1; obtain ⟨Ao36, co36, eo36⟩ := Kd.S_slice HO381.out; subst eo36) | ((with_reducible refine gate_callee (f := 23) rfl ?_); refine goesL_ (some 33) rfl rfl Try.func23 (by kernel_rfl) rfl #[.slice A1 l1.length c1] rfl (by (try simp only [List.map_toArray, List.map_cons, List.map_nil]); first | done | rfl | (simp only [List.length_drop, List.length_take]; rfl)) ?_; (with_reducible refine (laws_toIntSS.calls k _ _ l1 t383 _ ?side1 ?side2 A17.out).mono ?_); (case side1 => exact Kd.C_below HR1.out (by repeat (first | (with_reducible first | exact HB.out | apply below_alloc | apply pw_below_drewN | apply below_drew1 | refine below_set ?_ GE362.out | refine below_set ?_ GE382.out) | exact HB.out))); (case side2 => exact HC1.out); rintro e w37 ⟨v384, rfl, ho0, hb⟩; refine ⟨_, rfl, ?_⟩; have n0_ := Aside0.mk (Kd.S_elder' (by (with_reducible repeat (first | apply Kd.S_alloc | apply Kd.S_drewN | apply Kd.S_drew)); exact (Kd.S_mono (Kd.S_far (p := ⟨gb382, 1, none⟩) (Kd.S_far (p := ⟨gb382, 0, none⟩) (Kd.S_types HO367.out BK382.out (by decide)) (fun _ hk => hk.2) (.slice Ao33 t376.length co33)) (fun _ hk => hk.2) (.slice Ao36 t379.length co36)) (fun _ h_ => h_.1))) (Kd.S_base ho0) hb); have n1_ := Aside0.mk (Kd.S_below (by (with_reducible repeat (first | apply Kd.S_alloc | apply Kd.S_drewN | apply Kd.S_drew)); exact (Kd.S_mono (Kd.S_far (p := ⟨gb382, 1, none⟩) (Kd.S_far (p := ⟨gb382, 0, none⟩) (Kd.S_types HO370.out BK382.out (by decide)) (fun _ hk => hk.2) (.slice Ao33 t376.length co33)) (fun _ hk => hk.2) (.slice Ao36 t379.length co36)) (fun _ h_ => h_.1))) hb); have n2_ := Aside0.mk (Kd.S_elder' (by (with_reducible repeat (first | apply Kd.S_alloc | apply Kd.S_drewN | apply Kd.S_drew)); exact (Kd.S_mono (Kd.S_far (p := ⟨gb382, 1, none⟩) (Kd.S_far (p := ⟨gb382, 0, none⟩) (Kd.S_types HO373.out BK382.out (by decide)) (fun _ hk => hk.2) (.slice Ao33 t376.length co33)) (fun _ hk => hk.2) (.slice Ao36 t379.length co36)) (fun _ h_ => h_.1))) (Kd.S_base ho0) hb); have n3_ := Aside0.mk (Kd.S_elder' (by (with_reducible repeat (first | apply Kd.S_alloc | apply Kd.S_drewN | apply Kd.S_drew)); exact (Kd.S_mono (Kd.S_far (p := ⟨gb382, 1, none⟩) (Kd.S_far (p := ⟨gb382, 0, none⟩) (Kd.S_types HO378.out BK382.out (by decide)) (fun _ hk => hk.2) (.slice Ao33 t376.length co33)) (fun _ hk => hk.2) (.slice Ao36 t379.length co36)) (fun _ h_ => h_.1))) (Kd.S_base ho0) hb); have n4_ := Aside0.mk (Kd.S_below (by (with_reducible repeat (first | apply Kd.S_alloc | apply Kd.S_drewN | apply Kd.S_drew)); exact (Kd.S_mono (Kd.S_far (p := ⟨gb382, 1, none⟩) (Kd.S_far (p := ⟨gb382, 0, none⟩) (Kd.S_types HO381.out BK382.out (by decide)) (fun _ hk => hk.2) (.slice Ao33 t376.length co33)) (fun _ hk => hk.2) (.slice Ao36 t379.length co36)) (fun _ h_ => h_.1))) hb); have n5_ := Aside0.mk (Kd.S_lower (Kd.S_new' (Kd.S_new' (Kd.S_new' ho0 (Kd.S_lt (by (with_reducible repeat (first | apply Kd.S_alloc | apply Kd.S_drewN | apply Kd.S_drew)); exact (Kd.S_mono (Kd.S_far (p := ⟨gb382, 1, none⟩) (Kd.S_far (p := ⟨gb382, 0, none⟩) (Kd.S_types HO367.out BK382.out (by decide)) (fun _ hk => hk.2) (.slice Ao33 t376.length co33)) (fun _ hk => hk.2) (.slice Ao36 t379.length co36)) (fun _ h_ => h_.1))))) (Kd.S_lt (by (with_reducible repeat (first | apply Kd.S_alloc | apply Kd.S_drewN | apply Kd.S_drew)); exact (Kd.S_mono (Kd.S_far (p := ⟨gb382, 1, none⟩) (Kd.S_far (p := ⟨gb382, 0, none⟩) (Kd.S_types HO373.out BK382.out (by decide)) (fun _ hk => hk.2) (.slice Ao33 t376.length co33)) (fun _ hk => hk.2) (.slice Ao36 t379.length co36)) (fun _ h_ => h_.1))))) (Kd.S_lt (by (with_reducible repeat (first | apply Kd.S_alloc | apply Kd.S_drewN | apply Kd.S_drew)); exact (Kd.S_mono (Kd.S_far (p := ⟨gb382, 1, none⟩) (Kd.S_far (p := ⟨gb382, 0, none⟩) (Kd.S_types HO378.out BK382.out (by decide)) (fun _ hk => hk.2) (.slice Ao33 t376.length co33)) (fun _ hk => hk.2) (.slice Ao36 t379.length co36)) (fun _ h_ => h_.1))))) (below_size (by repeat (first | (with_reducible first | exact HB.out | apply below_alloc | apply pw_below_drewN | apply below_drew1 | refine below_set ?_ GE362.out | refine below_set ?_ GE382.out) | exact HB.out)))); have n6_ := Aside0.mk (blk_below (g := gb362) (o := .cells #[.slice A0_0 l0_0.length c0_0, .slice A0_1 l0_1.length c0_1] 27 (0, 0)) (by (with_reducible repeat (first | refine blk_drewN ?_ _ | refine blk_drew ?_ | refine blk_alloc ?_ _)); refine blk_far ?_ NB362_382.out _; (with_reducible repeat (first | refine blk_drewN ?_ _ | refine blk_drew ?_ | refine blk_alloc ?_ _)); refine blk_far ?_ NB362_382.out _; (with_reducible repeat (first | refine blk_drewN ?_ _ | refine blk_drew ?_ | refine blk_alloc ?_ _)); exact BK362.out) hb); have n7_ := Aside0.mk (blk_below (g := gb382) (o := .cells #[.slice Ao33 t376.length co33, .slice Ao36 t379.length co36] 33 (0, 0)) (by (with_reducible repeat (first | refine blk_drewN ?_ _ | refine blk_drew ?_ | refine blk_alloc ?_ _)); refine blk_put (cs := #[.slice Ao33 t376.length co33, .slice none 0 0]) ?_ 1 _ rfl; (with_reducible repeat (first | refine blk_drewN ?_ _ | refine blk_drew ?_ | refine blk_alloc ?_ _)); refine blk_put (cs := #[.slice none 0 0, .slice none 0 0]) ?_ 0 _ rfl; (with_reducible repeat (first | refine blk_drewN ?_ _ | refine blk_drew ?_ | refine blk_alloc ?_ _)); exact BK382.out) hb); have n8_ := Aside0.mk (below_step (by repeat (first | (with_reducible first | exact HB.out | apply below_alloc | apply pw_below_drewN | apply below_drew1 | refine below_set ?_ GE362.out | refine below_set ?_ GE382.out) | exact HB.out)) hb); clear HO367; clear HO370; clear HO373; clear HO378; clear HO381; clear BK362; clear BK382; clear HB; have HO367 := n0_; have HO370 := n1_; have HO373 := n2_; have HO378 := n3_; have HO381 := n4_; have HO385 := n5_; have BK362 := n6_; have BK382 := n7_; have HB := n8_; clear n0_ n1_ n2_ n3_ n4_ n5_ n6_ n7_ n8_; (try clear hb); (try clear hb2); (try clear hk); (try clear hi); (try clear ho0); have hcz38_0 : w37.cell? ⟨gb382, 0, none⟩ = some (.slice Ao33 t376.length co33) := (blk_cell BK382.out 0).trans rfl; have hcz38_1 : w37.cell? ⟨gb382, 1, none⟩ = some (.slice Ao36 t379.length co36) := (blk_cell BK382.out 1).trans rfl; have hfz38_0 := blk_frozen BK382.out 0; have hfz38_1 := blk_frozen BK382.out 1; obtain ⟨Ao39, co39, eo39⟩ := Kd.S_slice HO385.out; subst eo39) | ((with_reducible refine gate_callee (f := 24) rfl ?_); refine goesL_ (some 37) rfl rfl Try.func24 (by kernel_rfl) rfl #[.agg #[.slice Ao33 t376.length co33, .slice Ao36 t379.length co36], .slice Ao39 t383.length co39] rfl (by (try simp only [List.map_toArray, List.map_cons, List.map_nil]); first | done | rfl | (simp only [List.length_drop, List.length_take]; rfl)) ?_; (with_reducible refine (impl_IsFixed.calls _ _ t376 _ _ t379 _ _ t383 t386 t387 _ ?side1 ?side2 ?side3 ?side4 ?side5 ?side6 A18.out).mono ?_); (case side1 => repeat (first | exact (Kd.S_reads' HO378.out).2.2 | (with_reducible refine Kd.C_alloc ?_ _) | (with_reducible refine Kd.C_drewN ?_ _) | (with_reducible refine Kd.C_drew ?_))); (case side2 => exact (Kd.S_reads' HO378.out).2.1); (case side3 => repeat (first | exact (Kd.S_reads' HO381.out).2.2 | (with_reducible refine Kd.C_alloc ?_ _) | (with_reducible refine Kd.C_drewN ?_ _) | (with_reducible refine Kd.C_drew ?_))); (case side4 => exact (Kd.S_reads' HO381.out).2.1); (case side5 => repeat (first | exact (Kd.S_reads' HO385.out).2.2 | (with_reducible refine Kd.C_alloc ?_ _) | (with_reducible refine Kd.C_drewN ?_ _) | (with_reducible refine Kd.C_drew ?_))); (case side6 => exact (Kd.S_reads' HO385.out).2.1); rintro e w40 ⟨rfl, hb⟩; refine ⟨_, rfl, ?_⟩; have n0_ := Aside0.mk (Kd.S_below (by (with_reducible repeat (first | apply Kd.S_alloc | apply Kd.S_drewN | apply Kd.S_drew)); exact HO367.out) hb); have n1_ := Aside0.mk (Kd.S_below (by (with_reducible repeat (first | apply Kd.S_alloc | apply Kd.S_drewN | apply Kd.S_drew)); exact HO370.out) hb); have n2_ := Aside0.mk (Kd.S_below (by (with_reducible repeat (first | apply Kd.S_alloc | apply Kd.S_drewN | apply Kd.S_drew)); exact HO373.out) hb); have n3_ := Aside0.mk (Kd.S_below (by (with_reducible repeat (first | apply Kd.S_alloc | apply Kd.S_drewN | apply Kd.S_drew)); exact HO378.out) hb); have n4_ := Aside0.mk (Kd.S_below (by (with_reducible repeat (first | apply Kd.S_alloc | apply Kd.S_drewN | apply Kd.S_drew)); exact HO381.out) hb); have n5_ := Aside0.mk (Kd.S_below (by (with_reducible repeat (first | apply Kd.S_alloc | apply Kd.S_drewN | apply Kd.S_drew)); exact HO385.out) hb); have n6_ := Aside0.mk (blk_below (g := gb362) (o := .cells #[.slice A0_0 l0_0.length c0_0, .slice A0_1 l0_1.length c0_1] 27 (0, 0)) (by (with_reducible repeat (first | refine blk_drewN ?_ _ | refine blk_drew ?_ | refine blk_alloc ?_ _)); exact BK362.out) hb); have n7_ := Aside0.mk (blk_below (g := gb382) (o := .cells #[.slice Ao33 t376.length co33, .slice Ao36 t379.length co36] 33 (0, 0)) (by (with_reducible repeat (first | refine blk_drewN ?_ _ | refine blk_drew ?_ | refine blk_alloc ?_ _)); exact BK382.out) hb); have n8_ := Aside0.mk (below_step (by repeat (first | (with_reducible first | exact HB.out | apply below_alloc | apply pw_below_drewN | apply below_drew1 | refine below_set ?_ GE362.out | refine below_set ?_ GE382.out) | exact HB.out)) hb); clear HO367; clear HO370; clear HO373; clear HO378; clear HO381; clear HO385; clear BK362; clear BK382; clear HB; have HO367 := n0_; have HO370 := n1_; have HO373 := n2_; have HO378 := n3_; have HO381 := n4_; have HO385 := n5_; have BK362 := n6_; have BK382 := n7_; have HB := n8_; clear n0_ n1_ n2_ n3_ n4_ n5_ n6_ n7_ n8_; (try clear hb); (try clear hb2); (try clear hk); (try clear hi)))
      (try simp only [Act.put, List.setIfInBounds_toArray, List.set_cons_zero, List.set_cons_succ])
      go_cut [47] (fun v47 wc => ∃ (kq : Nat) (x47_18 : Bool), v47 = .bool x47_18 ∧ Aside0 (laws_FnExactIsFixed.j0 kq l1 t383 x47_18 l0_0 l0_1 t376 t379 = some r) ∧ Aside0 (kq ≤ k) ∧ Aside0 (Kd.S (Kd.slice 3 (Kd.int .i64)) 37 wc w.heap.size (fun k_ => some k_ ≠ ((.slice Ao33 t376.length co33) : Value).ownBlock) (.slice Ao39 t383.length co39) t383) ∧ Aside0 (Kd.S (Kd.slice 3 (Kd.int .i64)) 37 wc w.heap.size (fun k_ => some k_ ≠ ((.slice Ao39 t383.length co39) : Value).ownBlock) (.slice Ao33 t376.length co33) t376) ∧ Aside0 (Kd.S k56 56 wc w.heap.size (fun _ => True) (.slice Ao36 t379.length co36) t379) ∧ Aside0 (wc.heap[gb362]? = some (.cells #[(.slice A0_0 l0_0.length c0_0), (.slice A0_1 l0_1.length c0_1)] 27 (0, 0))) ∧ Aside0 (wc.heap[gb382]? = some (.cells #[(.slice Ao33 t376.length co33), (.slice Ao36 t379.length co36)] 33 (0, 0))) ∧ Aside0 (Below w.heap.size w wc))
      case first =>
        have H := HC19.out
        clear HC19
        by_cases c41 : (t386 != t374) = true
        · rw [if_pos c41] at H
          have c41b0 : (t386 != t374) = true := c41
          (try (have c41b1 : decide (t386 = t374) = false := by simpa using c41))
          (try (have c41b2 : (t386 == t374) = false := by simpa using c41))
          (try (have c41b3 : ¬ (t386 = t374) := by simpa using c41))
          clear c41
          (first | rw [c41b0] | (simp only [i64_w, i32_w]; rw [c41b0]) | skip)
          have H' := Aside0.mk H
          clear H
          go_wp2
          go_meet
          case rel => exact ⟨_, (true), (by first | rfl | (simp; done) | (simp [*]; done)), H', ⟨by first | omega | exact Nat.le_refl _⟩, ⟨by (with_reducible repeat (first | apply Kd.S_alloc | apply Kd.S_drewN | apply Kd.S_drew)); exact Kd.S_mono HO385.out (fun _ hk => hk.2)⟩, ⟨by (with_reducible repeat (first | apply Kd.S_alloc | apply Kd.S_drewN | apply Kd.S_drew)); exact Kd.S_mono HO378.out (fun _ hk => hk.2)⟩, ⟨by (with_reducible repeat (first | apply Kd.S_alloc | apply Kd.S_drewN | apply Kd.S_drew)); exact Kd.S_mono HO381.out (fun _ hk => trivial)⟩, ⟨by (with_reducible repeat (first | refine blk_drewN ?_ _ | refine blk_drew ?_ | refine blk_alloc ?_ _)); exact BK362.out⟩, ⟨by (with_reducible repeat (first | refine blk_drewN ?_ _ | refine blk_drew ?_ | refine blk_alloc ?_ _)); exact BK382.out⟩, ⟨by repeat (first | (with_reducible first | exact HB.out | apply below_alloc | apply pw_below_drewN | apply below_drew1 | refine below_set ?_ GE362.out | refine below_set ?_ GE382.out) | exact HB.out)⟩⟩
        · rw [if_neg c41] at H
          have c41b0 : (t386 != t374) = false := by simpa using c41
          (try (have c41b1 : decide (t386 = t374) = true := by simpa using c41))
          (try (have c41b2 : (t386 == t374) = true := by simpa using c41))
          clear c41
          (first | rw [c41b0] | (simp only [i64_w, i32_w]; rw [c41b0]) | skip)
          have H' := Aside0.mk H
          clear H
          go_wp2
          go_meet
          case rel => exact ⟨_, ((t387 != t375)), (by first | rfl | (simp; done) | (simp [*]; done)), H', ⟨by first | omega | exact Nat.le_refl _⟩, ⟨by (with_reducible repeat (first | apply Kd.S_alloc | apply Kd.S_drewN | apply Kd.S_drew)); exact Kd.S_mono HO385.out (fun _ hk => hk.2)⟩, ⟨by (with_reducible repeat (first | apply Kd.S_alloc | apply Kd.S_drewN | apply Kd.S_drew)); exact Kd.S_mono HO378.out (fun _ hk => hk.2)⟩, ⟨by (with_reducible repeat (first | apply Kd.S_alloc | apply Kd.S_drewN | apply Kd.S_drew)); exact Kd.S_mono HO381.out (fun _ hk => trivial)⟩, ⟨by (with_reducible repeat (first | refine blk_drewN ?_ _ | refine blk_drew ?_ | refine blk_alloc ?_ _)); exact BK362.out⟩, ⟨by (with_reducible repeat (first | refine blk_drewN ?_ _ | refine blk_drew ?_ | refine blk_alloc ?_ _)); exact BK382.out⟩, ⟨by repeat (first | (with_reducible first | exact HB.out | apply below_alloc | apply pw_below_drewN | apply below_drew1 | refine below_set ?_ GE362.out | refine below_set ?_ GE382.out) | exact HB.out)⟩⟩
      case rest =>
        clear HC19
        try clear c1
        try clear c2
        try clear p2
        try clear c3
        try clear c4
        try clear c4b0
        try clear c5
        try clear c9
        try clear c9b0
        try clear c12
        try clear c14
        try clear c21
        try clear c22
        try clear c23
        try clear c24
        try clear c34
        try clear c41
        try clear c41b0
        try clear c41b1
        try clear c41b2
        try clear hcz11_0
        try clear hcz11_1
        try clear hcz21_0
        try clear hcz21_1
        try clear hcz23_0
        try clear hcz23_1
        try clear hcz30_0
        try clear hcz30_1
        try clear hcz35_0
        try clear hcz35_1
        try clear hcz38_0
        try clear hcz38_1
        try clear hcz6_0
        try clear hcz6_1
        try clear hfz11_0
        try clear hfz11_1
        try clear hfz21_0
        try clear hfz21_1
        try clear hfz23_0
        try clear hfz23_1
        try clear hfz30_0
        try clear hfz30_1
        try clear hfz35_0
        try clear hfz35_1
        try clear hfz38_0
        try clear hfz38_1
        try clear hfz6_0
        try clear hfz6_1
        obtain ⟨kq, x47_18, rfl, HA, HJ18, HO_9, HO_383000, HO_383001, BK362, BK382, HB⟩ := hcut
        cases kq with
        | zero => exact absurd HA.out (by simp [laws_FnExactIsFixed.j0])
        | succ kj18 =>
          have H := HA.out
          clear HA
          simp only [laws_FnExactIsFixed.j0] at H
          by_cases c42 : x47_18 = true
          · subst c42
            have H1 : (some false) = some r := by rw [if_pos rfl] at H; exact H
            clear H
            have H := H1
            clear H1
            obtain rfl := Option.some.inj H
            go_wp2
            go_ret
            exact ⟨by first | rfl | (simp [errW_none, errW_some] <;> rfl) | (simp [*, errW_none, errW_some] <;> rfl), by repeat (first | (with_reducible first | exact HB.out | apply below_alloc | apply pw_below_drewN | apply below_drew1 | refine below_set ?_ GE362.out | refine below_set ?_ GE382.out) | exact HB.out)⟩
          · replace c42 := Bool.eq_false_iff.mpr c42
            subst c42
            have H1 : ((laws_toFlow.f kj18 l0_0 l0_1).bind fun bt388 => ((laws_eqFlow.f kj18 t376 t379 bt388.1 bt388.2).bind fun t394 => (if t394 = true then ((laws_toIntSS.f kj18 l1).bind fun t395 => ((laws_eqIntSS.f kj18 t383 t395).bind fun t398 => (if t398 = true then (some true) else (some false)))) else (some false)))) = some r := by rw [if_neg (show ¬ (false = true) by decide)] at H; exact H
            clear H
            have H := H1
            clear H1
            replace H := Option.bind_eq_some_iff.mp H
            obtain ⟨⟨t388, t391⟩, A430, H⟩ := H
            replace H : ((laws_eqFlow.f kj18 t376 t379 t388 t391).bind fun t394 => (if t394 = true then ((laws_toIntSS.f kj18 l1).bind fun t395 => ((laws_eqIntSS.f kj18 t383 t395).bind fun t398 => (if t398 = true then (some true) else (some false)))) else (some false))) = some r := H
            have A43 := Aside0.mk A430
            clear A430
            replace H := Option.bind_eq_some_iff.mp H
            obtain ⟨t394, A440, H⟩ := H
            replace H : (if t394 = true then ((laws_toIntSS.f kj18 l1).bind fun t395 => ((laws_eqIntSS.f kj18 t383 t395).bind fun t398 => (if t398 = true then (some true) else (some false)))) else (some false)) = some r := H
            have A44 := Aside0.mk A440
            clear A440
            by_cases c45 : t394 = true
            · subst c45
              have H1 : ((laws_toIntSS.f kj18 l1).bind fun t395 => ((laws_eqIntSS.f kj18 t383 t395).bind fun t398 => (if t398 = true then (some true) else (some false)))) = some r := by rw [if_pos rfl] at H; exact H
              clear H
              have H := H1
              clear H1
              replace H := Option.bind_eq_some_iff.mp H
              obtain ⟨t395, A460, H⟩ := H
              replace H : ((laws_eqIntSS.f kj18 t383 t395).bind fun t398 => (if t398 = true then (some true) else (some false))) = some r := H
              have A46 := Aside0.mk A460
              clear A460
              replace H := Option.bind_eq_some_iff.mp H
              obtain ⟨t398, A470, H⟩ := H
              replace H : (if t398 = true then (some true) else (some false)) = some r := H
              have A47 := Aside0.mk A470
              clear A470
              by_cases c48 : t398 = true
              · subst c48
                have H1 : (some true) = some r := by rw [if_pos rfl] at H; exact H
                clear H
                have H := H1
                clear H1
                obtain rfl := Option.some.inj H
                try go_wp2
                have n0_ := Aside0.mk (Kd.S_drew HO_9.out)
                have n1_ := Aside0.mk (Kd.S_drew HO_383000.out)
                have n2_ := Aside0.mk (Kd.S_drew HO_383001.out)
                have n3_ := Aside0.mk (blk_drew BK362.out)
                have n4_ := Aside0.mk (blk_drew BK382.out)
                have n5_ := Aside0.mk (below_drew1 HB.out)
                clear HO_9
                clear HO_383000
                clear HO_383001
                clear BK362
                clear BK382
                clear HB
                have HO_9 := n0_
                have HO_383000 := n1_
                have HO_383001 := n2_
                have BK362 := n3_
                have BK382 := n4_
                have HB := n5_
                clear n0_ n1_ n2_ n3_ n4_ n5_
                refine start_ (n := 5) (S := fun w' => w'.cell? ⟨gb382, 0, none⟩ = some (.slice Ao33 t376.length co33) ∧ w'.cell? ⟨gb382, 1, none⟩ = some (.slice Ao36 t379.length co36) ∧ w'.cell? ⟨gb362, 0, none⟩ = some (.slice A0_0 l0_0.length c0_0) ∧ w'.cell? ⟨gb362, 1, none⟩ = some (.slice A0_1 l0_1.length c0_1)) (ds := []) #[false, false, false, false, false] (by kernel_rfl) rfl rfl ⟨(blk_cell BK382.out 0).trans rfl, (blk_cell BK382.out 1).trans rfl, (blk_cell BK362.out 0).trans rfl, (blk_cell BK362.out 1).trans rfl⟩ (fun hHeld => ?_)
                generalize wc.drew = w49 at HO_9 HO_383000 HO_383001 BK362 BK382 HB hHeld ⊢
                refine take_ (i := 0) (N := some 48) (v := ?_) (a' := ?_) #[true, false, false, false, false] rfl rfl (by kernel_rfl) (fun _ _ _ h => h) (Or.inl ⟨by rfl, ?_⟩) hHeld ?_ ?_
                rotate_left
                · rintro w' ⟨s0, s1, s2, s3⟩
                  go_simp
                  with_reducible rfl
                rotate_left
                · simp only [Act.put, List.setIfInBounds_toArray, List.set_cons_zero, List.set_cons_succ, i64_w, i32_w]
                  rfl
                refine take_ (i := 1) (N := some 49) (v := ?_) (a' := ?_) #[true, true, false, false, false] rfl rfl (by kernel_rfl) (fun _ _ _ h => h) (Or.inl ⟨by rfl, ?_⟩) hHeld ?_ ?_
                rotate_left
                · rintro w' ⟨s0, s1, s2, s3⟩
                  go_simp
                  with_reducible rfl
                rotate_left
                · simp only [Act.put, List.setIfInBounds_toArray, List.set_cons_zero, List.set_cons_succ, i64_w, i32_w]
                  rfl
                refine one_ (i := 2) (N := some 50) #[true, true, true, false, false] rfl rfl (by kernel_rfl) (by decide) (fun K hK => ?_)
                refine goes_ Try.func14 (by kernel_rfl) rfl #[.agg #[.slice A0_0 l0_0.length c0_0, .slice A0_1 l0_1.length c0_1]] (by rfl) rfl rfl (by (try simp only [List.map_toArray, List.map_cons, List.map_nil]); first | done | rfl | (simp only [List.length_drop, List.length_take]; rfl)) ?_
                with_reducible refine (laws_toFlow.calls kj18 _ _ l0_0 _ _ l0_1 t388 t391 _ ?side1 ?side2 ?side3 ?side4 A43.out).mono ?_
                (case side1 => repeat (first | exact (Kd.C_below HR0_0.out HB.out) | (with_reducible refine Kd.C_alloc ?_ _) | (with_reducible refine Kd.C_drewN ?_ _) | (with_reducible refine Kd.C_drew ?_)))
                (case side2 => exact HC0_0.out)
                (case side3 => repeat (first | exact (Kd.C_below HR0_1.out HB.out) | (with_reducible refine Kd.C_alloc ?_ _) | (with_reducible refine Kd.C_drewN ?_ _) | (with_reducible refine Kd.C_drew ?_)))
                (case side4 => exact HC0_1.out)
                rintro e w50 ⟨v389, v392, rfl, ho0, ho1, hb⟩
                refine ⟨_, rfl, ?_⟩
                have n0_ := Aside0.mk (Kd.S_elder' (by (with_reducible repeat (first | apply Kd.S_alloc | apply Kd.S_drewN | apply Kd.S_drew)); exact HO_9.out) (Kd.S_base ho0) hb)
                have n1_ := Aside0.mk (Kd.S_elder' (by (with_reducible repeat (first | apply Kd.S_alloc | apply Kd.S_drewN | apply Kd.S_drew)); exact HO_383000.out) (Kd.S_base ho0) hb)
                have n2_ := Aside0.mk (Kd.S_elder' (by (with_reducible repeat (first | apply Kd.S_alloc | apply Kd.S_drewN | apply Kd.S_drew)); exact HO_383001.out) (Kd.S_base ho1) hb)
                have n3_ := Aside0.mk (Kd.S_lower (Kd.S_new' (Kd.S_new' ho0 (Kd.S_lt (by (with_reducible repeat (first | apply Kd.S_alloc | apply Kd.S_drewN | apply Kd.S_drew)); exact HO_9.out))) (Kd.S_lt (by (with_reducible repeat (first | apply Kd.S_alloc | apply Kd.S_drewN | apply Kd.S_drew)); exact HO_383000.out))) (below_size (by repeat (first | (with_reducible first | exact HB.out | apply below_alloc | apply pw_below_drewN | apply below_drew1 | refine below_set ?_ GE362.out | refine below_set ?_ GE382.out) | exact HB.out))))
                have n4_ := Aside0.mk (Kd.S_lower (Kd.S_new' ho1 (Kd.S_lt (by (with_reducible repeat (first | apply Kd.S_alloc | apply Kd.S_drewN | apply Kd.S_drew)); exact HO_383001.out))) (below_size (by repeat (first | (with_reducible first | exact HB.out | apply below_alloc | apply pw_below_drewN | apply below_drew1 | refine below_set ?_ GE362.out | refine below_set ?_ GE382.out) | exact HB.out))))
                have n5_ := Aside0.mk (blk_below (g := gb362) (o := .cells #[.slice A0_0 l0_0.length c0_0, .slice A0_1 l0_1.length c0_1] 27 (0, 0)) (by (with_reducible repeat (first | refine blk_drewN ?_ _ | refine blk_drew ?_ | refine blk_alloc ?_ _)); exact BK362.out) hb)
                have n6_ := Aside0.mk (blk_below (g := gb382) (o := .cells #[.slice Ao33 t376.length co33, .slice Ao36 t379.length co36] 33 (0, 0)) (by (with_reducible repeat (first | refine blk_drewN ?_ _ | refine blk_drew ?_ | refine blk_alloc ?_ _)); exact BK382.out) hb)
                have n7_ := Aside0.mk (below_step (by repeat (first | (with_reducible first | exact HB.out | apply below_alloc | apply pw_below_drewN | apply below_drew1 | refine below_set ?_ GE362.out | refine below_set ?_ GE382.out) | exact HB.out)) hb)
                clear HO_9
                clear HO_383000
                clear HO_383001
                clear BK362
                clear BK382
                clear HB
                have HO_9 := n0_
                have HO_383000 := n1_
                have HO_383001 := n2_
                have HO390 := n3_
                have HO393 := n4_
                have BK362 := n5_
                have BK382 := n6_
                have HB := n7_
                clear n0_ n1_ n2_ n3_ n4_ n5_ n6_ n7_
                (try clear hb)
                (try clear hb2)
                (try clear hk)
                (try clear hi)
                (try clear ho0)
                (try clear ho1)
                obtain ⟨Ao51, co51, eo51⟩ := Kd.S_slice HO390.out
                (first | subst eo51 | (injection eo51 with f1_ f2_ f3_; have f4_ := f1_.symm; have f5_ := f3_.symm; clear f1_ f2_ f3_; subst f4_; subst f5_))
                obtain ⟨Ao52, co52, eo52⟩ := Kd.S_slice HO393.out
                (first | subst eo52 | (injection eo52 with f1_ f2_ f3_; have f4_ := f1_.symm; have f5_ := f3_.symm; clear f1_ f2_ f3_; subst f4_; subst f5_))
                refine hK.out _ _ ⟨(blk_cell BK382.out 0).trans rfl, (blk_cell BK382.out 1).trans rfl, (blk_cell BK362.out 0).trans rfl, (blk_cell BK362.out 1).trans rfl⟩ (fun hHeld => ?_)
                clear hK K
                refine norm_ (a' := ?_) ?_ ?_
                rotate_left
                · show Act.put _ (some 50) _ = _
                  simp only [Act.put, List.setIfInBounds_toArray, List.set_cons_zero, List.set_cons_succ, i64_w, i32_w]
                  rfl
                refine one_ (i := 3) (N := some 51) #[true, true, true, true, false] rfl rfl (by kernel_rfl) (by decide) (fun K hK => ?_)
                refine goes_ Try.func16 (by kernel_rfl) rfl #[.agg #[.slice Ao33 t376.length co33, .slice Ao36 t379.length co36], .agg #[.slice Ao51 t388.length co51, .slice Ao52 t391.length co52]] (by rfl) rfl rfl (by (try simp only [List.map_toArray, List.map_cons, List.map_nil]); first | done | rfl | (simp only [List.length_drop, List.length_take]; rfl)) ?_
                with_reducible refine (laws_eqFlow.calls kj18 _ _ t376 _ _ t379 _ _ t388 _ _ t391 true _ ?side1 ?side2 ?side3 ?side4 ?side5 ?side6 ?side7 ?side8 A44.out).mono ?_
                (case side1 => repeat (first | exact (Kd.S_reads' HO_383000.out).2.2 | (with_reducible refine Kd.C_alloc ?_ _) | (with_reducible refine Kd.C_drewN ?_ _) | (with_reducible refine Kd.C_drew ?_)))
                (case side2 => exact (Kd.S_reads' HO_383000.out).2.1)
                (case side3 => repeat (first | exact (Kd.S_reads' HO_383001.out).2.2 | (with_reducible refine Kd.C_alloc ?_ _) | (with_reducible refine Kd.C_drewN ?_ _) | (with_reducible refine Kd.C_drew ?_)))
                (case side4 => exact (Kd.S_reads' HO_383001.out).2.1)
                (case side5 => repeat (first | exact (Kd.S_reads' HO390.out).2.2 | (with_reducible refine Kd.C_alloc ?_ _) | (with_reducible refine Kd.C_drewN ?_ _) | (with_reducible refine Kd.C_drew ?_)))
                (case side6 => exact (Kd.S_reads' HO390.out).2.1)
                (case side7 => repeat (first | exact (Kd.S_reads' HO393.out).2.2 | (with_reducible refine Kd.C_alloc ?_ _) | (with_reducible refine Kd.C_drewN ?_ _) | (with_reducible refine Kd.C_drew ?_)))
                (case side8 => exact (Kd.S_reads' HO393.out).2.1)
                rintro e w53 ⟨rfl, hb⟩
                refine ⟨_, rfl, ?_⟩
                have n0_ := Aside0.mk (Kd.S_below (by (with_reducible repeat (first | apply Kd.S_alloc | apply Kd.S_drewN | apply Kd.S_drew)); exact HO_9.out) hb)
                have n1_ := Aside0.mk (Kd.S_below (by (with_reducible repeat (first | apply Kd.S_alloc | apply Kd.S_drewN | apply Kd.S_drew)); exact HO_383000.out) hb)
                have n2_ := Aside0.mk (Kd.S_below (by (with_reducible repeat (first | apply Kd.S_alloc | apply Kd.S_drewN | apply Kd.S_drew)); exact HO_383001.out) hb)
                have n3_ := Aside0.mk (Kd.S_below (by (with_reducible repeat (first | apply Kd.S_alloc | apply Kd.S_drewN | apply Kd.S_drew)); exact HO390.out) hb)
                have n4_ := Aside0.mk (Kd.S_below (by (with_reducible repeat (first | apply Kd.S_alloc | apply Kd.S_drewN | apply Kd.S_drew)); exact HO393.out) hb)
                have n5_ := Aside0.mk (blk_below (g := gb362) (o := .cells #[.slice A0_0 l0_0.length c0_0, .slice A0_1 l0_1.length c0_1] 27 (0, 0)) (by (with_reducible repeat (first | refine blk_drewN ?_ _ | refine blk_drew ?_ | refine blk_alloc ?_ _)); exact BK362.out) hb)
                have n6_ := Aside0.mk (blk_below (g := gb382) (o := .cells #[.slice Ao33 t376.length co33, .slice Ao36 t379.length co36] 33 (0, 0)) (by (with_reducible repeat (first | refine blk_drewN ?_ _ | refine blk_drew ?_ | refine blk_alloc ?_ _)); exact BK382.out) hb)
                have n7_ := Aside0.mk (below_step (by repeat (first | (with_reducible first | exact HB.out | apply below_alloc | apply pw_below_drewN | apply below_drew1 | refine below_set ?_ GE362.out | refine below_set ?_ GE382.out) | exact HB.out)) hb)
                clear HO_9
                clear HO_383000
                clear HO_383001
                clear HO390
                clear HO393
                clear BK362
                clear BK382
                clear HB
                have HO_9 := n0_
                have HO_383000 := n1_
                have HO_383001 := n2_
                have HO390 := n3_
                have HO393 := n4_
                have BK362 := n5_
                have BK382 := n6_
                have HB := n7_
                clear n0_ n1_ n2_ n3_ n4_ n5_ n6_ n7_
                (try clear hb)
                (try clear hb2)
                (try clear hk)
                (try clear hi)
                refine hK.out _ _ ⟨(blk_cell BK382.out 0).trans rfl, (blk_cell BK382.out 1).trans rfl, (blk_cell BK362.out 0).trans rfl, (blk_cell BK362.out 1).trans rfl⟩ (fun hHeld => ?_)
                clear hK K
                refine norm_ (a' := ?_) ?_ ?_
                rotate_left
                · show Act.put _ (some 51) _ = _
                  simp only [Act.put, List.setIfInBounds_toArray, List.set_cons_zero, List.set_cons_succ, i64_w, i32_w]
                  rfl
                refine pure_ (i := 4) (N := some 52) (v := ?_) (a' := ?_) #[true, true, true, true, true] rfl rfl (by kernel_rfl) (fun _ _ _ h => h) (Or.inl ⟨by rfl, ?_⟩) ?_ ?_
                rotate_left
                · intro w'
                  go_simp
                  with_reducible rfl
                rotate_left
                · simp only [Act.put, List.setIfInBounds_toArray, List.set_cons_zero, List.set_cons_succ, i64_w, i32_w]
                  rfl
                refine done_ (by kernel_rfl) ?_
                try go_wp2_with (first | ((with_reducible refine gate_callee (f := 23) rfl ?_); refine goesL_ (some 55) rfl rfl Try.func23 (by kernel_rfl) rfl #[.slice A1 l1.length c1] rfl (by (try simp only [List.map_toArray, List.map_cons, List.map_nil]); first | done | rfl | (simp only [List.length_drop, List.length_take]; rfl)) ?_; (with_reducible refine (laws_toIntSS.calls kj18 _ _ l1 t395 _ ?side1 ?side2 A46.out).mono ?_); (case side1 => repeat (first | exact (Kd.C_below HR1.out HB.out) | (with_reducible refine Kd.C_alloc ?_ _) | (with_reducible refine Kd.C_drewN ?_ _) | (with_reducible refine Kd.C_drew ?_))); (case side2 => exact HC1.out); rintro e w54 ⟨v396, rfl, ho0, hb⟩; refine ⟨_, rfl, ?_⟩; have n0_ := Aside0.mk (Kd.S_elder' (by (with_reducible repeat (first | apply Kd.S_alloc | apply Kd.S_drewN | apply Kd.S_drew)); exact HO_9.out) (Kd.S_base ho0) hb); have n1_ := Aside0.mk (Kd.S_elder' (by (with_reducible repeat (first | apply Kd.S_alloc | apply Kd.S_drewN | apply Kd.S_drew)); exact HO_383000.out) (Kd.S_base ho0) hb); have n2_ := Aside0.mk (Kd.S_below (by (with_reducible repeat (first | apply Kd.S_alloc | apply Kd.S_drewN | apply Kd.S_drew)); exact HO_383001.out) hb); have n3_ := Aside0.mk (Kd.S_elder' (by (with_reducible repeat (first | apply Kd.S_alloc | apply Kd.S_drewN | apply Kd.S_drew)); exact HO390.out) (Kd.S_base ho0) hb); have n4_ := Aside0.mk (Kd.S_below (by (with_reducible repeat (first | apply Kd.S_alloc | apply Kd.S_drewN | apply Kd.S_drew)); exact HO393.out) hb); have n5_ := Aside0.mk (Kd.S_lower (Kd.S_new' (Kd.S_new' (Kd.S_new' ho0 (Kd.S_lt (by (with_reducible repeat (first | apply Kd.S_alloc | apply Kd.S_drewN | apply Kd.S_drew)); exact HO_9.out))) (Kd.S_lt (by (with_reducible repeat (first | apply Kd.S_alloc | apply Kd.S_drewN | apply Kd.S_drew)); exact HO_383000.out))) (Kd.S_lt (by (with_reducible repeat (first | apply Kd.S_alloc | apply Kd.S_drewN | apply Kd.S_drew)); exact HO390.out))) (below_size (by repeat (first | (with_reducible first | exact HB.out | apply below_alloc | apply pw_below_drewN | apply below_drew1 | refine below_set ?_ GE362.out | refine below_set ?_ GE382.out) | exact HB.out)))); have n6_ := Aside0.mk (blk_below (g := gb362) (o := .cells #[.slice A0_0 l0_0.length c0_0, .slice A0_1 l0_1.length c0_1] 27 (0, 0)) (by (with_reducible repeat (first | refine blk_drewN ?_ _ | refine blk_drew ?_ | refine blk_alloc ?_ _)); exact BK362.out) hb); have n7_ := Aside0.mk (blk_below (g := gb382) (o := .cells #[.slice Ao33 t376.length co33, .slice Ao36 t379.length co36] 33 (0, 0)) (by (with_reducible repeat (first | refine blk_drewN ?_ _ | refine blk_drew ?_ | refine blk_alloc ?_ _)); exact BK382.out) hb); have n8_ := Aside0.mk (below_step (by repeat (first | (with_reducible first | exact HB.out | apply below_alloc | apply pw_below_drewN | apply below_drew1 | refine below_set ?_ GE362.out | refine below_set ?_ GE382.out) | exact HB.out)) hb); clear HO_9; clear HO_383000; clear HO_383001; clear HO390; clear HO393; clear BK362; clear BK382; clear HB; have HO_9 := n0_; have HO_383000 := n1_; have HO_383001 := n2_; have HO390 := n3_; have HO393 := n4_; have HO397 := n5_; have BK362 := n6_; have BK382 := n7_; have HB := n8_; clear n0_ n1_ n2_ n3_ n4_ n5_ n6_ n7_ n8_; (try clear hb); (try clear hb2); (try clear hk); (try clear hi); (try clear ho0); obtain ⟨Ao55, co55, eo55⟩ := Kd.S_slice HO397.out; subst eo55) | ((with_reducible refine gate_callee (f := 25) rfl ?_); refine goesL_ (some 56) rfl rfl Try.func25 (by kernel_rfl) rfl #[.slice Ao39 t383.length co39, .slice Ao55 t395.length co55] rfl (by (try simp only [List.map_toArray, List.map_cons, List.map_nil]); first | done | rfl | (simp only [List.length_drop, List.length_take]; rfl)) ?_; (with_reducible refine (laws_eqIntSS.calls kj18 _ _ t383 _ _ t395 true _ ?side1 ?side2 ?side3 ?side4 A47.out).mono ?_); (case side1 => repeat (first | exact (Kd.S_reads' HO_9.out).2.2 | (with_reducible refine Kd.C_alloc ?_ _) | (with_reducible refine Kd.C_drewN ?_ _) | (with_reducible refine Kd.C_drew ?_))); (case side2 => exact (Kd.S_reads' HO_9.out).2.1); (case side3 => repeat (first | exact (Kd.S_reads' HO397.out).2.2 | (with_reducible refine Kd.C_alloc ?_ _) | (with_reducible refine Kd.C_drewN ?_ _) | (with_reducible refine Kd.C_drew ?_))); (case side4 => exact (Kd.S_reads' HO397.out).2.1); rintro e w' ⟨rfl, ⟨nd, rfl⟩⟩; refine ⟨_, rfl, ?_⟩))
                go_ret
                exact ⟨by first | rfl | (simp [errW_none, errW_some] <;> rfl) | (simp [*, errW_none, errW_some] <;> rfl), by repeat (first | (with_reducible first | exact HB.out | apply below_alloc | apply pw_below_drewN | apply below_drew1 | refine below_set ?_ GE362.out | refine below_set ?_ GE382.out) | exact HB.out)⟩
              · replace c48 := Bool.eq_false_iff.mpr c48
                subst c48
                have H1 : (some false) = some r := by rw [if_neg (show ¬ (false = true) by decide)] at H; exact H
                clear H
                have H := H1
                clear H1
                obtain rfl := Option.some.inj H
                try go_wp2
                have n0_ := Aside0.mk (Kd.S_drew HO_9.out)
                have n1_ := Aside0.mk (Kd.S_drew HO_383000.out)
                have n2_ := Aside0.mk (Kd.S_drew HO_383001.out)
                have n3_ := Aside0.mk (blk_drew BK362.out)
                have n4_ := Aside0.mk (blk_drew BK382.out)
                have n5_ := Aside0.mk (below_drew1 HB.out)
                clear HO_9
                clear HO_383000
                clear HO_383001
                clear BK362
                clear BK382
                clear HB
                have HO_9 := n0_
                have HO_383000 := n1_
                have HO_383001 := n2_
                have BK362 := n3_
                have BK382 := n4_
                have HB := n5_
                clear n0_ n1_ n2_ n3_ n4_ n5_
                refine start_ (n := 5) (S := fun w' => w'.cell? ⟨gb382, 0, none⟩ = some (.slice Ao33 t376.length co33) ∧ w'.cell? ⟨gb382, 1, none⟩ = some (.slice Ao36 t379.length co36) ∧ w'.cell? ⟨gb362, 0, none⟩ = some (.slice A0_0 l0_0.length c0_0) ∧ w'.cell? ⟨gb362, 1, none⟩ = some (.slice A0_1 l0_1.length c0_1)) (ds := []) #[false, false, false, false, false] (by kernel_rfl) rfl rfl ⟨(blk_cell BK382.out 0).trans rfl, (blk_cell BK382.out 1).trans rfl, (blk_cell BK362.out 0).trans rfl, (blk_cell BK362.out 1).trans rfl⟩ (fun hHeld => ?_)
                generalize wc.drew = w56 at HO_9 HO_383000 HO_383001 BK362 BK382 HB hHeld ⊢
                refine take_ (i := 0) (N := some 48) (v := ?_) (a' := ?_) #[true, false, false, false, false] rfl rfl (by kernel_rfl) (fun _ _ _ h => h) (Or.inl ⟨by rfl, ?_⟩) hHeld ?_ ?_
                rotate_left
                · rintro w' ⟨s0, s1, s2, s3⟩
                  go_simp
                  with_reducible rfl
                rotate_left
                · simp only [Act.put, List.setIfInBounds_toArray, List.set_cons_zero, List.set_cons_succ, i64_w, i32_w]
                  rfl
                refine take_ (i := 1) (N := some 49) (v := ?_) (a' := ?_) #[true, true, false, false, false] rfl rfl (by kernel_rfl) (fun _ _ _ h => h) (Or.inl ⟨by rfl, ?_⟩) hHeld ?_ ?_
                rotate_left
                · rintro w' ⟨s0, s1, s2, s3⟩
                  go_simp
                  with_reducible rfl
                rotate_left
                · simp only [Act.put, List.setIfInBounds_toArray, List.set_cons_zero, List.set_cons_succ, i64_w, i32_w]
                  rfl
                refine one_ (i := 2) (N := some 50) #[true, true, true, false, false] rfl rfl (by kernel_rfl) (by decide) (fun K hK => ?_)
                refine goes_ Try.func14 (by kernel_rfl) rfl #[.agg #[.slice A0_0 l0_0.length c0_0, .slice A0_1 l0_1.length c0_1]] (by rfl) rfl rfl (by (try simp only [List.map_toArray, List.map_cons, List.map_nil]); first | done | rfl | (simp only [List.length_drop, List.length_take]; rfl)) ?_
                with_reducible refine (laws_toFlow.calls kj18 _ _ l0_0 _ _ l0_1 t388 t391 _ ?side1 ?side2 ?side3 ?side4 A43.out).mono ?_
                (case side1 => repeat (first | exact (Kd.C_below HR0_0.out HB.out) | (with_reducible refine Kd.C_alloc ?_ _) | (with_reducible refine Kd.C_drewN ?_ _) | (with_reducible refine Kd.C_drew ?_)))
                (case side2 => exact HC0_0.out)
                (case side3 => repeat (first | exact (Kd.C_below HR0_1.out HB.out) | (with_reducible refine Kd.C_alloc ?_ _) | (with_reducible refine Kd.C_drewN ?_ _) | (with_reducible refine Kd.C_drew ?_)))
                (case side4 => exact HC0_1.out)
                rintro e w57 ⟨v389, v392, rfl, ho0, ho1, hb⟩
                refine ⟨_, rfl, ?_⟩
                have n0_ := Aside0.mk (Kd.S_elder' (by (with_reducible repeat (first | apply Kd.S_alloc | apply Kd.S_drewN | apply Kd.S_drew)); exact HO_9.out) (Kd.S_base ho0) hb)
                have n1_ := Aside0.mk (Kd.S_elder' (by (with_reducible repeat (first | apply Kd.S_alloc | apply Kd.S_drewN | apply Kd.S_drew)); exact HO_383000.out) (Kd.S_base ho0) hb)
                have n2_ := Aside0.mk (Kd.S_elder' (by (with_reducible repeat (first | apply Kd.S_alloc | apply Kd.S_drewN | apply Kd.S_drew)); exact HO_383001.out) (Kd.S_base ho1) hb)
                have n3_ := Aside0.mk (Kd.S_lower (Kd.S_new' (Kd.S_new' ho0 (Kd.S_lt (by (with_reducible repeat (first | apply Kd.S_alloc | apply Kd.S_drewN | apply Kd.S_drew)); exact HO_9.out))) (Kd.S_lt (by (with_reducible repeat (first | apply Kd.S_alloc | apply Kd.S_drewN | apply Kd.S_drew)); exact HO_383000.out))) (below_size (by repeat (first | (with_reducible first | exact HB.out | apply below_alloc | apply pw_below_drewN | apply below_drew1 | refine below_set ?_ GE362.out | refine below_set ?_ GE382.out) | exact HB.out))))
                have n4_ := Aside0.mk (Kd.S_lower (Kd.S_new' ho1 (Kd.S_lt (by (with_reducible repeat (first | apply Kd.S_alloc | apply Kd.S_drewN | apply Kd.S_drew)); exact HO_383001.out))) (below_size (by repeat (first | (with_reducible first | exact HB.out | apply below_alloc | apply pw_below_drewN | apply below_drew1 | refine below_set ?_ GE362.out | refine below_set ?_ GE382.out) | exact HB.out))))
                have n5_ := Aside0.mk (blk_below (g := gb362) (o := .cells #[.slice A0_0 l0_0.length c0_0, .slice A0_1 l0_1.length c0_1] 27 (0, 0)) (by (with_reducible repeat (first | refine blk_drewN ?_ _ | refine blk_drew ?_ | refine blk_alloc ?_ _)); exact BK362.out) hb)
                have n6_ := Aside0.mk (blk_below (g := gb382) (o := .cells #[.slice Ao33 t376.length co33, .slice Ao36 t379.length co36] 33 (0, 0)) (by (with_reducible repeat (first | refine blk_drewN ?_ _ | refine blk_drew ?_ | refine blk_alloc ?_ _)); exact BK382.out) hb)
                have n7_ := Aside0.mk (below_step (by repeat (first | (with_reducible first | exact HB.out | apply below_alloc | apply pw_below_drewN | apply below_drew1 | refine below_set ?_ GE362.out | refine below_set ?_ GE382.out) | exact HB.out)) hb)
                clear HO_9
                clear HO_383000
                clear HO_383001
                clear BK362
                clear BK382
                clear HB
                have HO_9 := n0_
                have HO_383000 := n1_
                have HO_383001 := n2_
                have HO390 := n3_
                have HO393 := n4_
                have BK362 := n5_
                have BK382 := n6_
                have HB := n7_
                clear n0_ n1_ n2_ n3_ n4_ n5_ n6_ n7_
                (try clear hb)
                (try clear hb2)
                (try clear hk)
                (try clear hi)
                (try clear ho0)
                (try clear ho1)
                obtain ⟨Ao58, co58, eo58⟩ := Kd.S_slice HO390.out
                (first | subst eo58 | (injection eo58 with f1_ f2_ f3_; have f4_ := f1_.symm; have f5_ := f3_.symm; clear f1_ f2_ f3_; subst f4_; subst f5_))
                obtain ⟨Ao59, co59, eo59⟩ := Kd.S_slice HO393.out
                (first | subst eo59 | (injection eo59 with f1_ f2_ f3_; have f4_ := f1_.symm; have f5_ := f3_.symm; clear f1_ f2_ f3_; subst f4_; subst f5_))
                refine hK.out _ _ ⟨(blk_cell BK382.out 0).trans rfl, (blk_cell BK382.out 1).trans rfl, (blk_cell BK362.out 0).trans rfl, (blk_cell BK362.out 1).trans rfl⟩ (fun hHeld => ?_)
                clear hK K
                refine norm_ (a' := ?_) ?_ ?_
                rotate_left
                · show Act.put _ (some 50) _ = _
                  simp only [Act.put, List.setIfInBounds_toArray, List.set_cons_zero, List.set_cons_succ, i64_w, i32_w]
                  rfl
                refine one_ (i := 3) (N := some 51) #[true, true, true, true, false] rfl rfl (by kernel_rfl) (by decide) (fun K hK => ?_)
                refine goes_ Try.func16 (by kernel_rfl) rfl #[.agg #[.slice Ao33 t376.length co33, .slice Ao36 t379.length co36], .agg #[.slice Ao58 t388.length co58, .slice Ao59 t391.length co59]] (by rfl) rfl rfl (by (try simp only [List.map_toArray, List.map_cons, List.map_nil]); first | done | rfl | (simp only [List.length_drop, List.length_take]; rfl)) ?_
                with_reducible refine (laws_eqFlow.calls kj18 _ _ t376 _ _ t379 _ _ t388 _ _ t391 true _ ?side1 ?side2 ?side3 ?side4 ?side5 ?side6 ?side7 ?side8 A44.out).mono ?_
                (case side1 => repeat (first | exact (Kd.S_reads' HO_383000.out).2.2 | (with_reducible refine Kd.C_alloc ?_ _) | (with_reducible refine Kd.C_drewN ?_ _) | (with_reducible refine Kd.C_drew ?_)))
                (case side2 => exact (Kd.S_reads' HO_383000.out).2.1)
                (case side3 => repeat (first | exact (Kd.S_reads' HO_383001.out).2.2 | (with_reducible refine Kd.C_alloc ?_ _) | (with_reducible refine Kd.C_drewN ?_ _) | (with_reducible refine Kd.C_drew ?_)))
                (case side4 => exact (Kd.S_reads' HO_383001.out).2.1)
                (case side5 => repeat (first | exact (Kd.S_reads' HO390.out).2.2 | (with_reducible refine Kd.C_alloc ?_ _) | (with_reducible refine Kd.C_drewN ?_ _) | (with_reducible refine Kd.C_drew ?_)))
                (case side6 => exact (Kd.S_reads' HO390.out).2.1)
                (case side7 => repeat (first | exact (Kd.S_reads' HO393.out).2.2 | (with_reducible refine Kd.C_alloc ?_ _) | (with_reducible refine Kd.C_drewN ?_ _) | (with_reducible refine Kd.C_drew ?_)))
                (case side8 => exact (Kd.S_reads' HO393.out).2.1)
                rintro e w60 ⟨rfl, hb⟩
                refine ⟨_, rfl, ?_⟩
                have n0_ := Aside0.mk (Kd.S_below (by (with_reducible repeat (first | apply Kd.S_alloc | apply Kd.S_drewN | apply Kd.S_drew)); exact HO_9.out) hb)
                have n1_ := Aside0.mk (Kd.S_below (by (with_reducible repeat (first | apply Kd.S_alloc | apply Kd.S_drewN | apply Kd.S_drew)); exact HO_383000.out) hb)
                have n2_ := Aside0.mk (Kd.S_below (by (with_reducible repeat (first | apply Kd.S_alloc | apply Kd.S_drewN | apply Kd.S_drew)); exact HO_383001.out) hb)
                have n3_ := Aside0.mk (Kd.S_below (by (with_reducible repeat (first | apply Kd.S_alloc | apply Kd.S_drewN | apply Kd.S_drew)); exact HO390.out) hb)
                have n4_ := Aside0.mk (Kd.S_below (by (with_reducible repeat (first | apply Kd.S_alloc | apply Kd.S_drewN | apply Kd.S_drew)); exact HO393.out) hb)
                have n5_ := Aside0.mk (blk_below (g := gb362) (o := .cells #[.slice A0_0 l0_0.length c0_0, .slice A0_1 l0_1.length c0_1] 27 (0, 0)) (by (with_reducible repeat (first | refine blk_drewN ?_ _ | refine blk_drew ?_ | refine blk_alloc ?_ _)); exact BK362.out) hb)
                have n6_ := Aside0.mk (blk_below (g := gb382) (o := .cells #[.slice Ao33 t376.length co33, .slice Ao36 t379.length co36] 33 (0, 0)) (by (with_reducible repeat (first | refine blk_drewN ?_ _ | refine blk_drew ?_ | refine blk_alloc ?_ _)); exact BK382.out) hb)
                have n7_ := Aside0.mk (below_step (by repeat (first | (with_reducible first | exact HB.out | apply below_alloc | apply pw_below_drewN | apply below_drew1 | refine below_set ?_ GE362.out | refine below_set ?_ GE382.out) | exact HB.out)) hb)
                clear HO_9
                clear HO_383000
                clear HO_383001
                clear HO390
                clear HO393
                clear BK362
                clear BK382
                clear HB
                have HO_9 := n0_
                have HO_383000 := n1_
                have HO_383001 := n2_
                have HO390 := n3_
                have HO393 := n4_
                have BK362 := n5_
                have BK382 := n6_
                have HB := n7_
                clear n0_ n1_ n2_ n3_ n4_ n5_ n6_ n7_
                (try clear hb)
                (try clear hb2)
                (try clear hk)
                (try clear hi)
                refine hK.out _ _ ⟨(blk_cell BK382.out 0).trans rfl, (blk_cell BK382.out 1).trans rfl, (blk_cell BK362.out 0).trans rfl, (blk_cell BK362.out 1).trans rfl⟩ (fun hHeld => ?_)
                clear hK K
                refine norm_ (a' := ?_) ?_ ?_
                rotate_left
                · show Act.put _ (some 51) _ = _
                  simp only [Act.put, List.setIfInBounds_toArray, List.set_cons_zero, List.set_cons_succ, i64_w, i32_w]
                  rfl
                refine pure_ (i := 4) (N := some 52) (v := ?_) (a' := ?_) #[true, true, true, true, true] rfl rfl (by kernel_rfl) (fun _ _ _ h => h) (Or.inl ⟨by rfl, ?_⟩) ?_ ?_
                rotate_left
                · intro w'
                  go_simp
                  with_reducible rfl
                rotate_left
                · simp only [Act.put, List.setIfInBounds_toArray, List.set_cons_zero, List.set_cons_succ, i64_w, i32_w]
                  rfl
                refine done_ (by kernel_rfl) ?_
                try go_wp2_with (first | ((with_reducible refine gate_callee (f := 23) rfl ?_); refine goesL_ (some 55) rfl rfl Try.func23 (by kernel_rfl) rfl #[.slice A1 l1.length c1] rfl (by (try simp only [List.map_toArray, List.map_cons, List.map_nil]); first | done | rfl | (simp only [List.length_drop, List.length_take]; rfl)) ?_; (with_reducible refine (laws_toIntSS.calls kj18 _ _ l1 t395 _ ?side1 ?side2 A46.out).mono ?_); (case side1 => repeat (first | exact (Kd.C_below HR1.out HB.out) | (with_reducible refine Kd.C_alloc ?_ _) | (with_reducible refine Kd.C_drewN ?_ _) | (with_reducible refine Kd.C_drew ?_))); (case side2 => exact HC1.out); rintro e w61 ⟨v396, rfl, ho0, hb⟩; refine ⟨_, rfl, ?_⟩; have n0_ := Aside0.mk (Kd.S_elder' (by (with_reducible repeat (first | apply Kd.S_alloc | apply Kd.S_drewN | apply Kd.S_drew)); exact HO_9.out) (Kd.S_base ho0) hb); have n1_ := Aside0.mk (Kd.S_elder' (by (with_reducible repeat (first | apply Kd.S_alloc | apply Kd.S_drewN | apply Kd.S_drew)); exact HO_383000.out) (Kd.S_base ho0) hb); have n2_ := Aside0.mk (Kd.S_below (by (with_reducible repeat (first | apply Kd.S_alloc | apply Kd.S_drewN | apply Kd.S_drew)); exact HO_383001.out) hb); have n3_ := Aside0.mk (Kd.S_elder' (by (with_reducible repeat (first | apply Kd.S_alloc | apply Kd.S_drewN | apply Kd.S_drew)); exact HO390.out) (Kd.S_base ho0) hb); have n4_ := Aside0.mk (Kd.S_below (by (with_reducible repeat (first | apply Kd.S_alloc | apply Kd.S_drewN | apply Kd.S_drew)); exact HO393.out) hb); have n5_ := Aside0.mk (Kd.S_lower (Kd.S_new' (Kd.S_new' (Kd.S_new' ho0 (Kd.S_lt (by (with_reducible repeat (first | apply Kd.S_alloc | apply Kd.S_drewN | apply Kd.S_drew)); exact HO_9.out))) (Kd.S_lt (by (with_reducible repeat (first | apply Kd.S_alloc | apply Kd.S_drewN | apply Kd.S_drew)); exact HO_383000.out))) (Kd.S_lt (by (with_reducible repeat (first | apply Kd.S_alloc | apply Kd.S_drewN | apply Kd.S_drew)); exact HO390.out))) (below_size (by repeat (first | (with_reducible first | exact HB.out | apply below_alloc | apply pw_below_drewN | apply below_drew1 | refine below_set ?_ GE362.out | refine below_set ?_ GE382.out) | exact HB.out)))); have n6_ := Aside0.mk (blk_below (g := gb362) (o := .cells #[.slice A0_0 l0_0.length c0_0, .slice A0_1 l0_1.length c0_1] 27 (0, 0)) (by (with_reducible repeat (first | refine blk_drewN ?_ _ | refine blk_drew ?_ | refine blk_alloc ?_ _)); exact BK362.out) hb); have n7_ := Aside0.mk (blk_below (g := gb382) (o := .cells #[.slice Ao33 t376.length co33, .slice Ao36 t379.length co36] 33 (0, 0)) (by (with_reducible repeat (first | refine blk_drewN ?_ _ | refine blk_drew ?_ | refine blk_alloc ?_ _)); exact BK382.out) hb); have n8_ := Aside0.mk (below_step (by repeat (first | (with_reducible first | exact HB.out | apply below_alloc | apply pw_below_drewN | apply below_drew1 | refine below_set ?_ GE362.out | refine below_set ?_ GE382.out) | exact HB.out)) hb); clear HO_9; clear HO_383000; clear HO_383001; clear HO390; clear HO393; clear BK362; clear BK382; clear HB; have HO_9 := n0_; have HO_383000 := n1_; have HO_383001 := n2_; have HO390 := n3_; have HO393 := n4_; have HO397 := n5_; have BK362 := n6_; have BK382 := n7_; have HB := n8_; clear n0_ n1_ n2_ n3_ n4_ n5_ n6_ n7_ n8_; (try clear hb); (try clear hb2); (try clear hk); (try clear hi); (try clear ho0); obtain ⟨Ao62, co62, eo62⟩ := Kd.S_slice HO397.out; subst eo62) | ((with_reducible refine gate_callee (f := 25) rfl ?_); refine goesL_ (some 56) rfl rfl Try.func25 (by kernel_rfl) rfl #[.slice Ao39 t383.length co39, .slice Ao62 t395.length co62] rfl (by (try simp only [List.map_toArray, List.map_cons, List.map_nil]); first | done | rfl | (simp only [List.length_drop, List.length_take]; rfl)) ?_; (with_reducible refine (laws_eqIntSS.calls kj18 _ _ t383 _ _ t395 false _ ?side1 ?side2 ?side3 ?side4 A47.out).mono ?_); (case side1 => repeat (first | exact (Kd.S_reads' HO_9.out).2.2 | (with_reducible refine Kd.C_alloc ?_ _) | (with_reducible refine Kd.C_drewN ?_ _) | (with_reducible refine Kd.C_drew ?_))); (case side2 => exact (Kd.S_reads' HO_9.out).2.1); (case side3 => repeat (first | exact (Kd.S_reads' HO397.out).2.2 | (with_reducible refine Kd.C_alloc ?_ _) | (with_reducible refine Kd.C_drewN ?_ _) | (with_reducible refine Kd.C_drew ?_))); (case side4 => exact (Kd.S_reads' HO397.out).2.1); rintro e w' ⟨rfl, ⟨nd, rfl⟩⟩; refine ⟨_, rfl, ?_⟩))
                go_ret
                exact ⟨by first | rfl | (simp [errW_none, errW_some] <;> rfl) | (simp [*, errW_none, errW_some] <;> rfl), by repeat (first | (with_reducible first | exact HB.out | apply below_alloc | apply pw_below_drewN | apply below_drew1 | refine below_set ?_ GE362.out | refine below_set ?_ GE382.out) | exact HB.out)⟩
            · replace c45 := Bool.eq_false_iff.mpr c45
              subst c45
              have H1 : (some false) = some r := by rw [if_neg (show ¬ (false = true) by decide)] at H; exact H
              clear H
              have H := H1
              clear H1
              obtain rfl := Option.some.inj H
              try go_wp2
              have n0_ := Aside0.mk (Kd.S_drew HO_9.out)
              have n1_ := Aside0.mk (Kd.S_drew HO_383000.out)
              have n2_ := Aside0.mk (Kd.S_drew HO_383001.out)
              have n3_ := Aside0.mk (blk_drew BK362.out)
              have n4_ := Aside0.mk (blk_drew BK382.out)
              have n5_ := Aside0.mk (below_drew1 HB.out)
              clear HO_9
              clear HO_383000
              clear HO_383001
              clear BK362
              clear BK382
              clear HB
              have HO_9 := n0_
              have HO_383000 := n1_
              have HO_383001 := n2_
              have BK362 := n3_
              have BK382 := n4_
              have HB := n5_
              clear n0_ n1_ n2_ n3_ n4_ n5_
              refine start_ (n := 5) (S := fun w' => w'.cell? ⟨gb382, 0, none⟩ = some (.slice Ao33 t376.length co33) ∧ w'.cell? ⟨gb382, 1, none⟩ = some (.slice Ao36 t379.length co36) ∧ w'.cell? ⟨gb362, 0, none⟩ = some (.slice A0_0 l0_0.length c0_0) ∧ w'.cell? ⟨gb362, 1, none⟩ = some (.slice A0_1 l0_1.length c0_1)) (ds := []) #[false, false, false, false, false] (by kernel_rfl) rfl rfl ⟨(blk_cell BK382.out 0).trans rfl, (blk_cell BK382.out 1).trans rfl, (blk_cell BK362.out 0).trans rfl, (blk_cell BK362.out 1).trans rfl⟩ (fun hHeld => ?_)
              generalize wc.drew = w63 at HO_9 HO_383000 HO_383001 BK362 BK382 HB hHeld ⊢
              refine take_ (i := 0) (N := some 48) (v := ?_) (a' := ?_) #[true, false, false, false, false] rfl rfl (by kernel_rfl) (fun _ _ _ h => h) (Or.inl ⟨by rfl, ?_⟩) hHeld ?_ ?_
              rotate_left
              · rintro w' ⟨s0, s1, s2, s3⟩
                go_simp
                with_reducible rfl
              rotate_left
              · simp only [Act.put, List.setIfInBounds_toArray, List.set_cons_zero, List.set_cons_succ, i64_w, i32_w]
                rfl
              refine take_ (i := 1) (N := some 49) (v := ?_) (a' := ?_) #[true, true, false, false, false] rfl rfl (by kernel_rfl) (fun _ _ _ h => h) (Or.inl ⟨by rfl, ?_⟩) hHeld ?_ ?_
              rotate_left
              · rintro w' ⟨s0, s1, s2, s3⟩
                go_simp
                with_reducible rfl
              rotate_left
              · simp only [Act.put, List.setIfInBounds_toArray, List.set_cons_zero, List.set_cons_succ, i64_w, i32_w]
                rfl
              refine one_ (i := 2) (N := some 50) #[true, true, true, false, false] rfl rfl (by kernel_rfl) (by decide) (fun K hK => ?_)
              refine goes_ Try.func14 (by kernel_rfl) rfl #[.agg #[.slice A0_0 l0_0.length c0_0, .slice A0_1 l0_1.length c0_1]] (by rfl) rfl rfl (by (try simp only [List.map_toArray, List.map_cons, List.map_nil]); first | done | rfl | (simp only [List.length_drop, List.length_take]; rfl)) ?_
              with_reducible refine (laws_toFlow.calls kj18 _ _ l0_0 _ _ l0_1 t388 t391 _ ?side1 ?side2 ?side3 ?side4 A43.out).mono ?_
              (case side1 => repeat (first | exact (Kd.C_below HR0_0.out HB.out) | (with_reducible refine Kd.C_alloc ?_ _) | (with_reducible refine Kd.C_drewN ?_ _) | (with_reducible refine Kd.C_drew ?_)))
              (case side2 => exact HC0_0.out)
              (case side3 => repeat (first | exact (Kd.C_below HR0_1.out HB.out) | (with_reducible refine Kd.C_alloc ?_ _) | (with_reducible refine Kd.C_drewN ?_ _) | (with_reducible refine Kd.C_drew ?_)))
              (case side4 => exact HC0_1.out)
              rintro e w64 ⟨v389, v392, rfl, ho0, ho1, hb⟩
              refine ⟨_, rfl, ?_⟩
              have n0_ := Aside0.mk (Kd.S_elder' (by (with_reducible repeat (first | apply Kd.S_alloc | apply Kd.S_drewN | apply Kd.S_drew)); exact HO_9.out) (Kd.S_base ho0) hb)
              have n1_ := Aside0.mk (Kd.S_elder' (by (with_reducible repeat (first | apply Kd.S_alloc | apply Kd.S_drewN | apply Kd.S_drew)); exact HO_383000.out) (Kd.S_base ho0) hb)
              have n2_ := Aside0.mk (Kd.S_elder' (by (with_reducible repeat (first | apply Kd.S_alloc | apply Kd.S_drewN | apply Kd.S_drew)); exact HO_383001.out) (Kd.S_base ho1) hb)
              have n3_ := Aside0.mk (Kd.S_lower (Kd.S_new' (Kd.S_new' ho0 (Kd.S_lt (by (with_reducible repeat (first | apply Kd.S_alloc | apply Kd.S_drewN | apply Kd.S_drew)); exact HO_9.out))) (Kd.S_lt (by (with_reducible repeat (first | apply Kd.S_alloc | apply Kd.S_drewN | apply Kd.S_drew)); exact HO_383000.out))) (below_size (by repeat (first | (with_reducible first | exact HB.out | apply below_alloc | apply pw_below_drewN | apply below_drew1 | refine below_set ?_ GE362.out | refine below_set ?_ GE382.out) | exact HB.out))))
              have n4_ := Aside0.mk (Kd.S_lower (Kd.S_new' ho1 (Kd.S_lt (by (with_reducible repeat (first | apply Kd.S_alloc | apply Kd.S_drewN | apply Kd.S_drew)); exact HO_383001.out))) (below_size (by repeat (first | (with_reducible first | exact HB.out | apply below_alloc | apply pw_below_drewN | apply below_drew1 | refine below_set ?_ GE362.out | refine below_set ?_ GE382.out) | exact HB.out))))
              have n5_ := Aside0.mk (blk_below (g := gb362) (o := .cells #[.slice A0_0 l0_0.length c0_0, .slice A0_1 l0_1.length c0_1] 27 (0, 0)) (by (with_reducible repeat (first | refine blk_drewN ?_ _ | refine blk_drew ?_ | refine blk_alloc ?_ _)); exact BK362.out) hb)
              have n6_ := Aside0.mk (blk_below (g := gb382) (o := .cells #[.slice Ao33 t376.length co33, .slice Ao36 t379.length co36] 33 (0, 0)) (by (with_reducible repeat (first | refine blk_drewN ?_ _ | refine blk_drew ?_ | refine blk_alloc ?_ _)); exact BK382.out) hb)
              have n7_ := Aside0.mk (below_step (by repeat (first | (with_reducible first | exact HB.out | apply below_alloc | apply pw_below_drewN | apply below_drew1 | refine below_set ?_ GE362.out | refine below_set ?_ GE382.out) | exact HB.out)) hb)
              clear HO_9
              clear HO_383000
              clear HO_383001
              clear BK362
              clear BK382
              clear HB
              have HO_9 := n0_
              have HO_383000 := n1_
              have HO_383001 := n2_
              have HO390 := n3_
              have HO393 := n4_
              have BK362 := n5_
              have BK382 := n6_
              have HB := n7_
              clear n0_ n1_ n2_ n3_ n4_ n5_ n6_ n7_
              (try clear hb)
              (try clear hb2)
              (try clear hk)
              (try clear hi)
              (try clear ho0)
              (try clear ho1)
              obtain ⟨Ao65, co65, eo65⟩ := Kd.S_slice HO390.out
              (first | subst eo65 | (injection eo65 with f1_ f2_ f3_; have f4_ := f1_.symm; have f5_ := f3_.symm; clear f1_ f2_ f3_; subst f4_; subst f5_))
              obtain ⟨Ao66, co66, eo66⟩ := Kd.S_slice HO393.out
              (first | subst eo66 | (injection eo66 with f1_ f2_ f3_; have f4_ := f1_.symm; have f5_ := f3_.symm; clear f1_ f2_ f3_; subst f4_; subst f5_))
              refine hK.out _ _ ⟨(blk_cell BK382.out 0).trans rfl, (blk_cell BK382.out 1).trans rfl, (blk_cell BK362.out 0).trans rfl, (blk_cell BK362.out 1).trans rfl⟩ (fun hHeld => ?_)
              clear hK K
              refine norm_ (a' := ?_) ?_ ?_
              rotate_left
              · show Act.put _ (some 50) _ = _
                simp only [Act.put, List.setIfInBounds_toArray, List.set_cons_zero, List.set_cons_succ, i64_w, i32_w]
                rfl
              refine one_ (i := 3) (N := some 51) #[true, true, true, true, false] rfl rfl (by kernel_rfl) (by decide) (fun K hK => ?_)
              refine goes_ Try.func16 (by kernel_rfl) rfl #[.agg #[.slice Ao33 t376.length co33, .slice Ao36 t379.length co36], .agg #[.slice Ao65 t388.length co65, .slice Ao66 t391.length co66]] (by rfl) rfl rfl (by (try simp only [List.map_toArray, List.map_cons, List.map_nil]); first | done | rfl | (simp only [List.length_drop, List.length_take]; rfl)) ?_
              with_reducible refine (laws_eqFlow.calls kj18 _ _ t376 _ _ t379 _ _ t388 _ _ t391 false _ ?side1 ?side2 ?side3 ?side4 ?side5 ?side6 ?side7 ?side8 A44.out).mono ?_
              (case side1 => repeat (first | exact (Kd.S_reads' HO_383000.out).2.2 | (with_reducible refine Kd.C_alloc ?_ _) | (with_reducible refine Kd.C_drewN ?_ _) | (with_reducible refine Kd.C_drew ?_)))
              (case side2 => exact (Kd.S_reads' HO_383000.out).2.1)
              (case side3 => repeat (first | exact (Kd.S_reads' HO_383001.out).2.2 | (with_reducible refine Kd.C_alloc ?_ _) | (with_reducible refine Kd.C_drewN ?_ _) | (with_reducible refine Kd.C_drew ?_)))
              (case side4 => exact (Kd.S_reads' HO_383001.out).2.1)
              (case side5 => repeat (first | exact (Kd.S_reads' HO390.out).2.2 | (with_reducible refine Kd.C_alloc ?_ _) | (with_reducible refine Kd.C_drewN ?_ _) | (with_reducible refine Kd.C_drew ?_)))
              (case side6 => exact (Kd.S_reads' HO390.out).2.1)
              (case side7 => repeat (first | exact (Kd.S_reads' HO393.out).2.2 | (with_reducible refine Kd.C_alloc ?_ _) | (with_reducible refine Kd.C_drewN ?_ _) | (with_reducible refine Kd.C_drew ?_)))
              (case side8 => exact (Kd.S_reads' HO393.out).2.1)
              rintro e w67 ⟨rfl, hb⟩
              refine ⟨_, rfl, ?_⟩
              have n0_ := Aside0.mk (Kd.S_below (by (with_reducible repeat (first | apply Kd.S_alloc | apply Kd.S_drewN | apply Kd.S_drew)); exact HO_9.out) hb)
              have n1_ := Aside0.mk (Kd.S_below (by (with_reducible repeat (first | apply Kd.S_alloc | apply Kd.S_drewN | apply Kd.S_drew)); exact HO_383000.out) hb)
              have n2_ := Aside0.mk (Kd.S_below (by (with_reducible repeat (first | apply Kd.S_alloc | apply Kd.S_drewN | apply Kd.S_drew)); exact HO_383001.out) hb)
              have n3_ := Aside0.mk (Kd.S_below (by (with_reducible repeat (first | apply Kd.S_alloc | apply Kd.S_drewN | apply Kd.S_drew)); exact HO390.out) hb)
              have n4_ := Aside0.mk (Kd.S_below (by (with_reducible repeat (first | apply Kd.S_alloc | apply Kd.S_drewN | apply Kd.S_drew)); exact HO393.out) hb)
              have n5_ := Aside0.mk (blk_below (g := gb362) (o := .cells #[.slice A0_0 l0_0.length c0_0, .slice A0_1 l0_1.length c0_1] 27 (0, 0)) (by (with_reducible repeat (first | refine blk_drewN ?_ _ | refine blk_drew ?_ | refine blk_alloc ?_ _)); exact BK362.out) hb)
              have n6_ := Aside0.mk (blk_below (g := gb382) (o := .cells #[.slice Ao33 t376.length co33, .slice Ao36 t379.length co36] 33 (0, 0)) (by (with_reducible repeat (first | refine blk_drewN ?_ _ | refine blk_drew ?_ | refine blk_alloc ?_ _)); exact BK382.out) hb)
              have n7_ := Aside0.mk (below_step (by repeat (first | (with_reducible first | exact HB.out | apply below_alloc | apply pw_below_drewN | apply below_drew1 | refine below_set ?_ GE362.out | refine below_set ?_ GE382.out) | exact HB.out)) hb)
              clear HO_9
              clear HO_383000
              clear HO_383001
              clear HO390
              clear HO393
              clear BK362
              clear BK382
              clear HB
              have HO_9 := n0_
              have HO_383000 := n1_
              have HO_383001 := n2_
              have HO390 := n3_
              have HO393 := n4_
              have BK362 := n5_
              have BK382 := n6_
              have HB := n7_
              clear n0_ n1_ n2_ n3_ n4_ n5_ n6_ n7_
              (try clear hb)
              (try clear hb2)
              (try clear hk)
              (try clear hi)
              refine hK.out _ _ ⟨(blk_cell BK382.out 0).trans rfl, (blk_cell BK382.out 1).trans rfl, (blk_cell BK362.out 0).trans rfl, (blk_cell BK362.out 1).trans rfl⟩ (fun hHeld => ?_)
              clear hK K
              refine norm_ (a' := ?_) ?_ ?_
              rotate_left
              · show Act.put _ (some 51) _ = _
                simp only [Act.put, List.setIfInBounds_toArray, List.set_cons_zero, List.set_cons_succ, i64_w, i32_w]
                rfl
              refine pure_ (i := 4) (N := some 52) (v := ?_) (a' := ?_) #[true, true, true, true, true] rfl rfl (by kernel_rfl) (fun _ _ _ h => h) (Or.inl ⟨by rfl, ?_⟩) ?_ ?_
              rotate_left
              · intro w'
                go_simp
                with_reducible rfl
              rotate_left
              · simp only [Act.put, List.setIfInBounds_toArray, List.set_cons_zero, List.set_cons_succ, i64_w, i32_w]
                rfl
              refine done_ (by kernel_rfl) ?_
              try go_wp2
              go_ret
              exact ⟨by first | rfl | (simp [errW_none, errW_some] <;> rfl) | (simp [*, errW_none, errW_some] <;> rfl), by repeat (first | (with_reducible first | exact HB.out | apply below_alloc | apply pw_below_drewN | apply below_drew1 | refine below_set ?_ GE362.out | refine below_set ?_ GE382.out) | exact HB.out)⟩

end Go.Proofs.Ytkfpbblaomgihaa.P

/- Numbers and rows of numbers: what the laws' own helpers come to. -/
namespace Go.Proofs.Ytkfpbblaomgihaa.Q
open Go.RowKit Go.Proofs.Ytkfpbblaomgihaa.P Go.Proofs.Ytkfpbblaomgihaa.H Go.Proofs.YtkfpbblaomgihaaW.PrintWords
set_option linter.unusedVariables false

theorem toIntS_ev (l : List Int) (hl : l.length ≤ 1048576) : Ev (fun k => laws_toIntS.f k l) l := by
  unfold laws_toIntS.f
  refine Ev.congr (fun k => by rw [if_pos (by omega), if_pos (by omega)]) ?_
  have key := down (n := l.length) (p := fun i => ∀ acc : List Int, acc.length = l.length → acc.take i = l.take i → Ev (fun k => laws_toIntS.l0 k l acc (i : Int)) l) ?h0 ?hs 0 (Nat.zero_le _)
  · exact key _ (by simp) (by simp)
  case h0 =>
    intro acc ha ht
    refine Ev.step (f := fun _ => some acc) (fun k => by simp only [laws_toIntS.l0]; rw [if_neg (by omega)]) ?_
    have e : acc = l := full ha ht
    rw [e]
    exact Ev.now _
  case hs =>
    intro i hi ih acc ha ht
    refine Ev.step (f := fun k => laws_toIntS.l0 k l (acc.set i (l.getD i 0)) ((i + 1 : Nat) : Int)) (fun k => ?_) ?_
    · simp only [laws_toIntS.l0]
      rw [if_pos (by omega), if_pos (by omega), if_pos (by omega), w64 (by omega) (by omega)]
      rfl
    · exact ih _ (by simpa using ha) (fill_step ha ht (getD_some 0 hi))

theorem eqIntS_ev (l : List Int) (hl : l.length ≤ 1048576) : Ev (fun k => laws_eqIntS.f k l l) true := by
  unfold laws_eqIntS.f
  refine Ev.congr (fun k => by rw [if_pos rfl]) ?_
  refine down0 (n := l.length) (p := fun i => Ev (fun k => laws_eqIntS.l0 k l l (i : Int)) true) ?h0 ?hs
  case h0 => exact Ev.step (f := fun _ => some true) (fun k => by simp only [laws_eqIntS.l0]; rw [if_neg (by omega)]) (Ev.now _)
  case hs =>
    intro i hi ih
    refine Ev.step (fun k => ?_) ih
    simp only [laws_eqIntS.l0]
    rw [if_pos (by omega), if_pos (by omega), if_pos (by omega), if_pos trivial, w64 (by omega) (by omega)]
    rfl

/-- Rows that are not too long. -/
def Small (g : List (List Int)) : Prop := g.length ≤ 1048576 ∧ ∀ l ∈ g, l.length ≤ 1048576

theorem Small.at {g : List (List Int)} (h : Small g) {i : Nat} (hi : i < g.length) : (g.getD i []).length ≤ 1048576 := by
  rw [List.getD_eq_getElem?_getD, List.getElem?_eq_getElem hi]
  exact h.2 _ (List.getElem_mem hi)

theorem toIntSS_ev (g : List (List Int)) (hg : Small g) : Ev (fun k => laws_toIntSS.f k g) g := by
  have hl := hg.1
  unfold laws_toIntSS.f
  refine Ev.congr (fun k => by rw [if_pos (by omega), if_pos (by omega)]) ?_
  have key := down (n := g.length) (p := fun i => ∀ acc : List (List Int), acc.length = g.length → acc.take i = g.take i → Ev (fun k => laws_toIntSS.l0 k g acc (i : Int)) g) ?h0 ?hs 0 (Nat.zero_le _)
  · exact key _ (by simp) (by simp)
  case h0 =>
    intro acc ha ht
    refine Ev.step (f := fun _ => some acc) (fun k => by simp only [laws_toIntSS.l0]; rw [if_neg (by omega)]) ?_
    have e : acc = g := full ha ht
    rw [e]
    exact Ev.now _
  case hs =>
    intro i hi ih acc ha ht
    refine Ev.step (fun k => by simp only [laws_toIntSS.l0]; rw [if_pos (by omega), if_pos (by omega)]) ?_
    refine Ev.bind (toIntS_ev (rd_L1 g (i : Int)) (hg.at hi)) ?_
    refine Ev.congr (fun k => by rw [if_pos (by omega), w64 (by omega) (by omega)]) ?_
    exact ih _ (by simpa using ha) (fill_step ha ht (getD_some [] hi))

theorem eqIntSS_ev (g : List (List Int)) (hg : Small g) : Ev (fun k => laws_eqIntSS.f k g g) true := by
  have hl := hg.1
  unfold laws_eqIntSS.f
  refine Ev.congr (fun k => by rw [if_pos rfl]) ?_
  refine down0 (n := g.length) (p := fun i => Ev (fun k => laws_eqIntSS.l0 k g g (i : Int)) true) ?h0 ?hs
  case h0 => exact Ev.step (f := fun _ => some true) (fun k => by simp only [laws_eqIntSS.l0]; rw [if_neg (by omega)]) (Ev.now _)
  case hs =>
    intro i hi ih
    refine Ev.step (fun k => by simp only [laws_eqIntSS.l0]; rw [if_pos (by omega), if_pos (by omega), if_pos (by omega)]) ?_
    refine Ev.bind (eqIntS_ev (rd_L1 g (i : Int)) (hg.at hi)) ?_
    refine Ev.congr (fun k => by rw [if_pos rfl, w64 (by omega) (by omega)]) ?_
    exact ih

/-- The budget: it is spent, or what it was spent on is small. -/
theorem szIntSS_ev (g : List (List Int)) (b : Int) (hb0 : 0 ≤ b) (hb : b ≤ 1048576) (hl : Len (Len I64) g) : ∃ v, Ev (fun k => laws_szIntSS.f k g b) v ∧ (v < 0 ∨ 0 ≤ v ∧ v ≤ b ∧ Small g) := by
  have hlen := hl.1
  unfold laws_szIntSS.f
  rw [w64 (x := b - (g.length : Int)) (by omega) (by omega)]
  by_cases c : b - (g.length : Int) < 0
  · refine ⟨-1, ?_, .inl (by omega)⟩
    exact Ev.congr (fun k => by rw [if_pos c]) (Ev.now _)
  · have key := down (n := g.length) (p := fun i => ∀ t : Int, 0 ≤ t → t ≤ b → ∃ v, Ev (fun k => laws_szIntSS.l0 k g t (i : Int)) v ∧ (v < 0 ∨ 0 ≤ v ∧ v ≤ b ∧ ∀ j, i ≤ j → j < g.length → (g.getD j []).length ≤ 1048576)) ?h0 ?hs 0 (Nat.zero_le _) (b - (g.length : Int)) (by omega) (by omega)
    · obtain ⟨v, hv, h⟩ := key
      refine ⟨v, Ev.congr (fun k => by rw [if_neg c]; rfl) hv, ?_⟩
      rcases h with h | ⟨h1, h2, h3⟩
      · exact .inl h
      · refine .inr ⟨h1, h2, by omega, fun l hm => ?_⟩
        obtain ⟨j, hj, e⟩ := List.getElem_of_mem hm
        have := h3 j (Nat.zero_le _) hj
        rw [List.getD_eq_getElem?_getD, List.getElem?_eq_getElem hj, e] at this
        exact this
    case h0 =>
      intro t h0 h1
      refine ⟨t, Ev.step (f := fun _ => some t) (fun k => by simp only [laws_szIntSS.l0]; rw [if_neg (by omega)]) (Ev.now _), .inr ⟨h0, h1, fun j h h' => by omega⟩⟩
    case hs =>
      intro i hi ih t h0 h1
      have hr : (g.getD i []).length ≤ 9223372036854775807 := by
        rw [List.getD_eq_getElem?_getD, List.getElem?_eq_getElem hi]
        exact (hl.2 _ (List.getElem_mem hi)).1
      have er : rd_L1 g (i : Int) = g.getD i [] := rfl
      by_cases c2 : t - ((g.getD i []).length : Int) < 0
      · refine ⟨-1, Ev.step (f := fun _ => some (-1)) (fun k => ?_) (Ev.now _), .inl (by omega)⟩
        simp only [laws_szIntSS.l0, laws_szIntS.f, er]
        rw [if_pos (by omega), if_pos (by omega), w64 (by omega) (by omega), if_pos c2]
        rfl
      · obtain ⟨v, hv, h⟩ := ih (t - ((g.getD i []).length : Int)) (by omega) (by omega)
        refine ⟨v, Ev.step (fun k => ?_) hv, ?_⟩
        · simp only [laws_szIntSS.l0, laws_szIntS.f, er]
          rw [if_pos (by omega), if_pos (by omega), w64 (by omega) (by omega), if_neg c2, Option.bind_some, if_neg c2, w64 (by omega) (by omega)]
          rfl
        · rcases h with h | ⟨h2, h3, h4⟩
          · exact .inl h
          · refine .inr ⟨h2, h3, fun j hj hj' => ?_⟩
            by_cases e : j = i
            · rw [e]; omega
            · exact h4 j (by omega) hj'
end Go.Proofs.Ytkfpbblaomgihaa.Q

/- Good graphs: the program and the reference tell the same. -/
namespace Go.Proofs.Ytkfpbblaomgihaa.Q
open Go.RowKit Go.Proofs.Ytkfpbblaomgihaa.P Go.Proofs.Ytkfpbblaomgihaa.H Go.Proofs.YtkfpbblaomgihaaW.PrintWords
set_option linter.unusedVariables false

theorem toGraph_ev (g : List (List Int)) (hg : Small g) : Ev (fun k => laws_toGraph.f k g) g := by
  unfold laws_toGraph.f
  exact (toIntSS_ev g hg).bind (Ev.now _)

theorem eqGraph_ev (g : List (List Int)) (hg : Small g) : Ev (fun k => laws_eqGraph.f k g g) true := by
  unfold laws_eqGraph.f
  refine (eqIntSS_ev g hg).bind ?_
  exact ev_is fun k => rfl

theorem szGraph_ev (g : List (List Int)) (b : Int) (hb0 : 0 ≤ b) (hb : b ≤ 1048576) (hl : Len (Len I64) g) : ∃ v, Ev (fun k => laws_szGraph.f k g b) v ∧ (v < 0 ∨ 0 ≤ v ∧ v ≤ b ∧ Small g) := by
  obtain ⟨v, hv, h⟩ := szIntSS_ev g b hb0 hb hl
  unfold laws_szGraph.f
  by_cases c : v < 0
  · exact ⟨-1, hv.bind (Ev.congr (fun k => by rw [if_pos c]) (Ev.now _)), .inl (by omega)⟩
  · exact ⟨v, hv.bind (Ev.congr (fun k => by rw [if_neg c]) (Ev.now _)), h⟩

theorem l1In_tell (a b c : Int) : spec_l1In.f a b c = some (decide (b ≤ a) && decide (a ≤ c)) := by
  unfold spec_l1In.f
  by_cases h : a ≥ b
  · rw [if_pos h, decide_eq_true h, Bool.true_and]
  · rw [if_neg h, decide_eq_false h, Bool.false_and]

theorem upAt_yes {l : List Int} {lo hi : Int} {j : Nat} (h0 : lo ≤ l.getD j 0) (h1 : l.getD j 0 ≤ hi) (h2 : j = 0 ∨ l.getD (j - 1) 0 < l.getD j 0) : upAt l lo hi j = true := by
  unfold upAt
  rw [decide_eq_true h0, decide_eq_true h1]
  rcases h2 with h2 | h2
  · rw [decide_eq_true h2]; rfl
  · rw [decide_eq_true h2, Bool.or_true]; rfl

theorem upAt_no {l : List Int} {lo hi : Int} {j : Nat} (h : ¬ (lo ≤ l.getD j 0 ∧ l.getD j 0 ≤ hi ∧ (j = 0 ∨ l.getD (j - 1) 0 < l.getD j 0))) : upAt l lo hi j = false := by
  cases e : upAt l lo hi j with
  | false => rfl
  | true =>
    unfold upAt at e
    simp only [Bool.and_eq_true, Bool.or_eq_true, decide_eq_true_eq] at e
    exact absurd ⟨e.1.1, e.1.2, e.2⟩ h

/-- All rows from one on, told. -/
theorem specGoodGraph_ev (g : List (List Int)) (hg : Small g) : Ev (fun k => spec_GoodGraph.f k g) (goodG g) := by
  have hlen := hg.1
  unfold spec_GoodGraph.f
  have key := down0 (n := g.length) (p := fun i => Ev (fun k => spec_GoodGraph.l0 k (g.length : Int) g (g.length : Int) (i : Int)) (((g.drop i).all fun l => upB l 0 ((g.length : Int) - 1) 0) && (decide (1 ≤ g.length) && decide (g.length ≤ 12)))) ?h0 ?hs
  · refine ev_eq key ?_
    unfold goodG
    rw [List.drop_zero, Bool.and_comm]
  case h0 =>
    refine Ev.step (f := fun _ => some (decide (1 ≤ g.length) && decide (g.length ≤ 12))) (fun k => ?_) ?_
    · simp only [spec_GoodGraph.l0]
      rw [if_neg (by omega), l1In_tell, Option.bind_some]
      congr 1
      rw [Bool.eq_iff_iff]
      simp
      omega
    · simpa using Ev.now _
  case hs =>
    intro i hi ih
    have e : g.drop i = g.getD i [] :: g.drop (i + 1) := by
      rw [List.drop_eq_getElem_cons hi, List.getD_eq_getElem?_getD, List.getElem?_eq_getElem hi]
      rfl
    rw [e, List.all_cons, Bool.and_assoc]
    have hr : rd_L1 g (i : Int) = g.getD i [] := rfl
    refine Ev.step (fun k => by simp only [spec_GoodGraph.l0]; rw [if_pos (by omega), if_pos (by omega), if_pos (by omega), hr]) ?_
    have hll := hg.at hi
    generalize g.getD i [] = l at hll ⊢
    generalize (((g.drop (i + 1)).all fun l => upB l 0 ((g.length : Int) - 1) 0) && (decide (1 ≤ g.length) && decide (g.length ≤ 12))) = R at ih ⊢
    refine down0 (n := l.length) (p := fun j => Ev (fun k => spec_GoodGraph.l1 k (g.length : Int) l g (g.length : Int) (i : Int) l (l.length : Int) (j : Int)) (upB l 0 ((g.length : Int) - 1) j && R)) ?h0' ?hs'
    case h0' =>
      rw [upB_end, Bool.true_and]
      refine Ev.step (fun k => ?_) ih
      simp only [spec_GoodGraph.l1]
      rw [if_neg (by omega), w64 (by omega) (by omega)]
      rfl
    case hs' =>
      intro j hj ih
      rw [upB_step l 0 _ hj, Bool.and_assoc]
      have hx : rd l (j : Int) = l.getD j 0 := rfl
      have stop : ∀ b, upAt l 0 ((g.length : Int) - 1) j = false → b = false → Ev (fun _ => some b) (upAt l 0 ((g.length : Int) - 1) j && (upB l 0 ((g.length : Int) - 1) (j + 1) && R)) := by
        intro b h1 h2
        rw [h1, h2]
        exact Ev.now _
      by_cases c0 : l.getD j 0 < 0
      · refine Ev.step (f := fun _ => some false) (fun k => ?_) (stop _ (upAt_no (by omega)) rfl)
        simp only [spec_GoodGraph.l1]
        rw [if_pos (by omega), if_pos (by omega), if_pos (by omega), hx, if_pos c0]
      · by_cases c1 : l.getD j 0 ≥ (g.length : Int)
        · refine Ev.step (f := fun _ => some false) (fun k => ?_) (stop _ (upAt_no (by omega)) rfl)
          simp only [spec_GoodGraph.l1]
          rw [if_pos (by omega), if_pos (by omega), if_pos (by omega), hx, if_neg c0, if_pos c1]
        · by_cases cj : j = 0
          · have e : upAt l 0 ((g.length : Int) - 1) j = true := upAt_yes (by omega) (by omega) (.inl cj)
            rw [e, Bool.true_and]
            refine Ev.step (fun k => ?_) ih
            simp only [spec_GoodGraph.l1]
            rw [if_pos (by omega), if_pos (by omega), if_pos (by omega), hx, if_neg c0, if_neg c1, if_neg (by omega), w64 (by omega) (by omega)]
            rfl
          · have ew : wrap64 ((j : Int) - 1) = ((j - 1 : Nat) : Int) := by rw [w64 (by omega) (by omega)]; omega
            have hx1 : rd l (wrap64 ((j : Int) - 1)) = l.getD (j - 1) 0 := by rw [ew]; rfl
            by_cases c2 : l.getD (j - 1) 0 ≥ l.getD j 0
            · refine Ev.step (f := fun _ => some false) (fun k => ?_) (stop _ (upAt_no (by omega)) rfl)
              simp only [spec_GoodGraph.l1]
              rw [if_pos (by omega), if_pos (by omega), if_pos (by omega), hx, if_neg c0, if_neg c1, if_pos (by omega), if_pos (by rw [ew]; omega), if_pos (by rw [ew]; omega), hx1, if_pos c2]
            · have e : upAt l 0 ((g.length : Int) - 1) j = true := upAt_yes (by omega) (by omega) (.inr (by omega))
              rw [e, Bool.true_and]
              refine Ev.step (fun k => ?_) ih
              simp only [spec_GoodGraph.l1]
              rw [if_pos (by omega), if_pos (by omega), if_pos (by omega), hx, if_neg c0, if_neg c1, if_pos (by omega), if_pos (by rw [ew]; omega), if_pos (by rw [ew]; omega), hx1, if_neg c2, w64 (by omega) (by omega)]
              rfl

theorem opensRow : Opens Try.prog 37 (Kd.slice 3 (Kd.int .i64)) (Len I64) := Opens.sliceL Try.underlying37 (by kernel_rfl) (Opens.int Try.underlying3)
theorem opensRows : Opens Try.prog 22 (Kd.slice 37 (Kd.slice 3 (Kd.int .i64))) (Len (Len I64)) := Opens.sliceL Try.underlying22 (by kernel_rfl) opensRow
theorem opensGraph : Opens Try.prog 24 (Kd.slice 37 (Kd.slice 3 (Kd.int .i64))) (Len (Len I64)) := Opens.struct1 Try.underlying24 rfl (by kernel_rfl) (by kernel_rfl) opensRows
end Go.Proofs.Ytkfpbblaomgihaa.Q
