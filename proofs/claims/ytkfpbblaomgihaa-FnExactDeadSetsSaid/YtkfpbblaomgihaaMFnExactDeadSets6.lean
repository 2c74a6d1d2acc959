import Derived.Test.YtkfpbblaomgihaaMFnExactDeadSets1
import Derived.Test.YtkfpbblaomgihaaMFnExactDeadSets2
import Derived.Test.YtkfpbblaomgihaaMFnExactDeadSets3
import Derived.Test.YtkfpbblaomgihaaMFnExactDeadSets4
import Derived.Test.YtkfpbblaomgihaaMFnExactDeadSets5
set_option linter.unusedVariables false
set_option linter.unusedSimpArgs false
namespace Go.Proofs.Ytkfpbblaomgihaa.Q
open Go.RowKit Go.Proofs.Ytkfpbblaomgihaa.P Go.Proofs.Ytkfpbblaomgihaa.H Go.Proofs.YtkfpbblaomgihaaW.PrintWords
theorem out_set {g L : List (List Int)} {i : Nat} (hk : ∀ k ∈ g.getD i [], 0 ≤ k ∧ k < (L.length : Int)) (hL : ∀ r ∈ L, In7 r) {o : List Int} (ho : Srt o) (ho7 : In7 o) (hm : ∀ y, y ∈ o ↔ OutM g L i y) : outF g (L.map setOf) i = setOf o := by
  have h := fixed_one g L ⟨[], []⟩ i hk hL (fun y hy => by simp at hy) (fun y hy => by simp at hy) o o ho ho7 ho ho7 (fun y => by rw [hm]; simp)
  exact h.2 rfl
section
variable {g : List (List Int)} {b : List S56}
theorem out_ev (hG : goodF g b = true) {L : List (List Int)} (h : Liv g b L) {t : Nat} (ht : t < b.length) :
    ∃ o, Ev (fun k => spec_l12Out.f k g b L (t : Int)) o ∧ Srt o ∧ In7 o ∧ outF g (L.map setOf) t = setOf o := by
  have hl := goodF_len hG
  have hf := good_facts hG
  have hk : ∀ k ∈ g.getD t [], 0 ≤ k ∧ k < (L.length : Int) := by rw [h.len]; exact goodF_next hG ht
  obtain ⟨o, h1, h2, h3, h4⟩ := spec_out_ev g L t hf.1 (h.small hG) (by omega) hk h.in7 b
  exact ⟨o, h1, h2, h3, out_set hk h.in7 h2 h3 h4⟩
theorem dead_inner {L out : List (List Int)} {i : Nat} {o s1 : List Int} {n : Int} {r : List (List Int) × Bool} (hout : out.length < 1048576) (ho : Ev (fun k => spec_l12Out.f k g b L (i : Int)) o) (h7 : In7 o) (hol : o.length ≤ 1048576) (hs : ∀ y ∈ s1, 0 ≤ y ∧ y ≤ 7) (hl : s1.length ≤ 8) (h64 : (i : Int) < 1048576) :
    ∀ m, m ≤ s1.length → ∀ acc : List Int, acc.length ≤ m → Ev (fun k => spec_DeadSets.l0 k L (out ++ [acc ++ deadR (setOf o) (s1.drop m)]) b n ((i : Int) + 1) g b) r → Ev (fun k => spec_DeadSets.l1 k L out (i : Int) acc b n (i : Int) s1 (s1.length : Int) (m : Int) g b) r := by
  refine down (n := s1.length) (p := fun m => ∀ acc : List Int, acc.length ≤ m → Ev (fun k => spec_DeadSets.l0 k L (out ++ [acc ++ deadR (setOf o) (s1.drop m)]) b n ((i : Int) + 1) g b) r → Ev (fun k => spec_DeadSets.l1 k L out (i : Int) acc b n (i : Int) s1 (s1.length : Int) (m : Int) g b) r) ?h0 ?hs
  case h0 =>
    intro acc _ hr
    rw [List.drop_length] at hr
    unfold deadR at hr
    rw [List.filter_nil, List.append_nil] at hr
    refine Ev.step (fun k => ?_) hr
    simp only [spec_DeadSets.l1]
    rw [if_neg (by omega), if_pos (by omega), w64 (by omega) (by omega)]
  case hs =>
    intro m hm ih acc ha hr
    have hx := hs (s1.getD m 0) (by rw [List.getD_eq_getElem?_getD, List.getElem?_eq_getElem hm]; exact List.getElem_mem hm)
    have hdr : s1.drop m = s1.getD m 0 :: s1.drop (m + 1) := by
      rw [List.drop_eq_getElem_cons hm, List.getD_eq_getElem?_getD, List.getElem?_eq_getElem hm]
      rfl
    obtain ⟨x, hxe⟩ : ∃ x : Nat, s1.getD m 0 = (x : Int) := ⟨(s1.getD m 0).toNat, by omega⟩
    have hrd : rd s1 (m : Int) = (x : Int) := hxe
    rw [hxe] at hx hdr
    have hbit : (setOf o).getD x false = decide ((x : Int) ∈ o) := setOf_bit h7 (by omega)
    rw [hdr] at hr
    unfold deadR at hr
    rw [List.filter_cons, Int.toNat_natCast, hbit] at hr
    refine Ev.step (fun k => ?_) (ho.bind (f := fun k t => (spec_l1Has.f k t (x : Int)).bind fun t620 => if t620 = true then spec_DeadSets.l1 k L out (i : Int) acc b n (i : Int) s1 (s1.length : Int) ((m : Int) + 1) g b else spec_DeadSets.l1 k L out (i : Int) (acc ++ [(x : Int)]) b n (i : Int) s1 (s1.length : Int) ((m : Int) + 1) g b) ((has_ev o (x : Int) hol).bind ?_))
    · simp only [spec_DeadSets.l1]
      rw [if_pos (by omega), if_pos (by omega), if_pos (by omega), hrd]
      have hal : acc.length < 17592186044416 := by omega
      simp only [hal, if_true, w64 (show -9223372036854775808 ≤ (m : Int) + 1 by omega) (by omega)]
    · by_cases hmem : (x : Int) ∈ o
      · rw [decide_eq_true hmem] at hr ⊢
        refine Ev.congr (fun k => by rw [if_pos rfl]; rfl) (ih acc (by omega) ?_)
        simpa [deadR] using hr
      · rw [decide_eq_false hmem] at hr ⊢
        refine Ev.congr (fun k => by rw [if_neg (by simp)]; rfl) (ih (acc ++ [(x : Int)]) (by simp; omega) ?_)
        simpa [deadR] using hr
theorem small_of {L : List (List Int)} (h1 : L.length ≤ 1048576) (h2 : ∀ r ∈ L, r.length ≤ 12) : Small L := ⟨h1, fun r hr => by have := h2 r hr; omega⟩
theorem dead_core (g : List (List Int)) (b : List S56) (hg : Small g) (hb : SmallI b) :
    ∃ (s1 : List (List Int)) (s2 : Bool), Ev (fun k => spec_DeadSets.f k g b) (s1, s2) ∧ impl_DeadSets.f g b = some (s1, s2) ∧ Small s1 := by
  cases hG : goodF g b with
  | false =>
    refine ⟨[], false, ?_, ?_, small_nil⟩
    · unfold spec_DeadSets.f
      refine (specGoodFlow_ev g b hg hb).bind ?_
      rw [hG]
      exact ev_is fun k => by rw [if_neg (by simp)]
    · unfold impl_DeadSets.f deadSetsF
      rw [hG, if_neg (by simp)]
  | true =>
    have hgl := goodF_len hG
    obtain ⟨L, h1, h2, h3, h4⟩ := live_all hG
    have hML : ∀ t, t < b.length → (outsF g (L.map setOf) b.length).getD t [] = outF g (L.map setOf) t := by
      intro t ht
      unfold outsF
      rw [List.getD_eq_getElem?_getD, List.getElem?_map, List.getElem?_range ht]
      rfl
    refine ⟨deadF b (outsF g (L.map setOf) b.length), true, ?_, ?_, ?_⟩
    · unfold spec_DeadSets.f
      refine (specGoodFlow_ev g b hg hb).bind ?_
      rw [hG]
      refine Ev.congr (fun k => by rw [if_pos rfl]) (h2.bind ?_)
      have hlen : (deadF b (outsF g (L.map setOf) b.length)).length = b.length := by unfold deadF; simp
      obtain ⟨OUT, hOUT⟩ : ∃ OUT, deadF b (outsF g (L.map setOf) b.length) = OUT := ⟨_, rfl⟩
      have hat : ∀ t, t < b.length → OUT[t]? = some (deadR (outF g (L.map setOf) t) (b.getD t z56).f1) := by
        intro t ht
        rw [← hOUT]
        unfold deadF
        rw [List.getElem?_map, List.getElem?_range ht]
        simp only [Option.map_some]
        rw [hML t ht]
      rw [hOUT] at hlen ⊢
      have key := down0 (n := b.length) (p := fun i => Ev (fun k => spec_DeadSets.l0 k L (OUT.take i) b (b.length : Int) (i : Int) g b) (OUT, true)) ?h0 ?hs
      · exact key
      case h0 =>
        refine Ev.step (f := fun _ => some (OUT, true)) (fun k => ?_) (Ev.now _)
        simp only [spec_DeadSets.l0]
        rw [if_neg (by omega), List.take_of_length_le (by omega)]
      case hs =>
        intro i hi ih
        obtain ⟨o, q1, q2, q3, q4⟩ := out_ev hG h3 hi
        have hto : OUT.take (i + 1) = OUT.take i ++ [deadR (setOf o) (b.getD i z56).f1] := by rw [List.take_add_one, hat i hi, q4]; rfl
        have hbk := goodF_blk hG hi
        have hol := srt_len7 q2 q3
        refine Ev.step (fun k => ?_) (dead_inner (out := OUT.take i) (n := (b.length : Int)) (r := (OUT, true)) (by rw [List.length_take]; omega) q1 q3 (by omega) (upB_mem hbk.2) (upB_len hbk.2) (by omega) 0 (Nat.zero_le _) [] (by simp) ?_)
        · simp only [spec_DeadSets.l0]
          rw [if_pos (by omega), if_pos (by omega), if_pos (by omega)]
          rfl
        · rw [List.drop_zero, List.nil_append, ← hto]
          exact ih
    · unfold impl_DeadSets.f deadSetsF
      rw [hG, if_pos rfl, h1, Option.map_some]
    · refine small_of (by unfold deadF; simp; omega) (fun r hr => ?_)
      unfold deadF at hr
      obtain ⟨t, ht, rfl⟩ := List.mem_map.1 hr
      have h5 := deadR_len ((outsF g (L.map setOf) b.length).getD t []) (b.getD t z56).f1
      have h6 := upB_len (goodF_blk hG (List.mem_range.1 ht)).2
      omega
end
theorem deadSets_law (g : List (List Int)) (b : List S97) (hn : g.length ≤ 9223372036854775807) (hm : b.length ≤ 9223372036854775807) (hl : Len (Len I64) g ∧ Len I64B b) : ∃ k, laws_FnExactDeadSets.ok k g b :=
  deadSets_of g b hl (fun hg hb => dead_core g (b.map cvBlock) hg hb)
end Go.Proofs.Ytkfpbblaomgihaa.Q
