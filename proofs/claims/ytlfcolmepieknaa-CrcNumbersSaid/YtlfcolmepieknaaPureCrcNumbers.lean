/- Any number by its bytes, and any bytes as a number: crc.Little and crc.Number answer as the document says, and undo each other. No conditions. -/
import Derived.Test.YtlfcolmepieknaaPAx4
import Derived.Test.YtlfcolmepieknaaMath
import Derived.Test.YtlfcolmepieknaaSame
import Derived.Test.YtlfcolmepieknaaNumMath
namespace Go.Proofs.Ytlfcolmepieknaa.Pure
open Go.RowKit Go.Proofs.Ytlfcolmepieknaa.PA Go.Proofs.YtlfcolmepieknaaW.PrintWords Go.Proofs.YtlfcolmepieknaaW.PrintLast
open Go.Proofs.Ytlfcolmepieknaa.Mat Go.Proofs.Ytlfcolmepieknaa.Same Go.Proofs.YtlfcolmepieknaaAid

theorem tail_eq (b : List Int) : rubricatorlaw2_tail.f b = some (decide (b.length = 8 ∧ rd b 7 = 0)) := by
  unfold rubricatorlaw2_tail.f
  by_cases h : b.length = 8
  · rw [if_pos (by omega), if_pos (by omega)]
    simp [h]
    rfl
  · rw [if_neg (by omega)]
    simp [h]
theorem CrcNumbers : rubricatorlaw2_CrcNumbers.Pure := by
  intro v n b hv hn _ hb hw
  refine Ev.rounds (r := true) ?_
  have hv' := wf_i64 hv
  have hbb : ∀ c ∈ b, Byte c := fun c hc => wf_u8 (hw c hc)
  unfold rubricatorlaw2_CrcNumbers.f
  by_cases h : (b.length : Int) > 4000
  · exact ev_if h (Ev.now _)
  refine ev_else h ?_
  have hl : b.length ≤ 4000 := by omega
  refine Ev.bind (little_ev v n) (Ev.bind (refLittle_ev v n) ?_)
  obtain ⟨m, hm, hm8⟩ : ∃ m : Nat, (mx 0 (mn n 8)).toNat = m ∧ m ≤ 8 ∧ (n ≥ 7 → 7 ≤ m) := by
    refine ⟨_, rfl, ?_⟩
    unfold mx mn
    (repeat' split) <;> omega
  rw [hm]
  refine Ev.bind (same_ev _ _ (by rw [dig_length]; omega)) (ev_if (by simp) ?_)
  refine Ev.bind (number_ev b (by omega) hbb) (Ev.bind (refNumber_ev b (by omega) hbb) ?_)
  have e0 : (val (b.take 7) != val (b.take 7)) = false := by simp
  rw [e0]
  have j1 : Ev (fun k => rubricatorlaw2_CrcNumbers.j1 k b false) true := by
    refine ev_succ ?_
    simp only [rubricatorlaw2_CrcNumbers.j1, Bool.false_eq_true, if_false]
    refine Ev.bind (number_ev b (by omega) hbb) (Ev.bind (little_ev _ _) ?_)
    have hb7 : ∀ c ∈ b.take 7, Byte c := fun c hc => hbb c (List.mem_of_mem_take hc)
    have h0 := val_nonneg _ hb7
    have emx : mx 0 (val (b.take 7)) = val (b.take 7) := by unfold mx; split <;> omega
    have emn : (mx 0 (mn (b.length : Int) 8)).toNat = min b.length 8 := by unfold mx mn; (repeat' split) <;> omega
    rw [emx, emn]
    refine Ev.bind (same_ev _ _ (by rw [dig_length]; omega)) ?_
    by_cases h7 : (b.length : Int) ≤ 7
    · refine ev_if h7 ?_
      have e1 : b.take 7 = b := List.take_of_length_le (by omega)
      have e2 := dig_val b hbb 0
      rw [Nat.add_zero, dig, List.append_nil] at e2
      have e3 : min b.length 8 = b.length := by omega
      rw [e1, e3, e2]
      exact ev_if (by simp) (Ev.bind known_ev (Ev.now _))
    · refine ev_else h7 ?_
      rw [tail_eq]
      refine ev_some (ev_if ?_ (Ev.bind known_ev (Ev.now _)))
      have l7 : (b.take 7).length = 7 := by rw [List.length_take]; omega
      have e2 := dig_val (b.take 7) hb7 1
      rw [l7] at e2
      have e3 : min b.length 8 = 7 + 1 := by omega
      have e4 : dig 1 0 = [0] := by decide
      rw [e3, e2, e4, beq_iff_eq, decide_eq_decide]
      constructor
      · intro hq
        have hlen : b.length = 8 := by rw [← hq, List.length_append, l7]; rfl
        refine ⟨hlen, ?_⟩
        have : rd b 7 = rd (b.take 7 ++ [0]) 7 := by rw [hq]
        rw [this]
        simp [rd, List.getD_eq_getElem?_getD, l7]
      · rintro ⟨h8, hr⟩
        have h7' : 7 < b.length := by omega
        have : b[7] = 0 := by
          have e5 := rd_get b 7 h7'
          exact e5.symm.trans hr
        conv => rhs; rw [← List.take_append_drop 7 b, List.drop_eq_getElem_cons h7', List.drop_of_length_le (by omega), this]
  refine ev_succ ?_
  simp only [rubricatorlaw2_CrcNumbers.j0, Bool.false_eq_true, if_false]
  by_cases h1 : v ≥ 0
  · refine ev_if h1 ?_
    by_cases h2 : v < 72057594037927936
    · refine ev_if h2 ?_
      by_cases h3 : n ≥ 7
      · refine ev_if h3 ?_
        refine Ev.bind (number_ev _ (by rw [dig_length]; omega) (dig_byte _ _)) ?_
        have emx : mx 0 v = v := by unfold mx; split <;> omega
        obtain ⟨q, rfl⟩ : ∃ q, m = 7 + q := ⟨m - 7, by have := hm8.2 h3; omega⟩
        have ep : (256 : Int) ^ 7 = 72057594037927936 := by decide
        have e5 := val_dig 7 v h1 (by rw [ep]; exact h2) q
        rw [emx, e5]
        have e6 : (v != v) = false := by simp
        rw [e6]
        exact j1
      · exact ev_else h3 j1
    · exact ev_else h2 j1
  · exact ev_else h1 j1
end Go.Proofs.Ytlfcolmepieknaa.Pure
