/- Two rows of as many signs, one that opens and one that closes, are paired to the last one, strong ones first. No conditions. -/
import Derived.Test.YtojmhdooglihaaaPAx9
import Derived.Test.YtojmhdooglihaaaKnown
namespace Go.Proofs.Ytojmhdooglihaaa.Pure
open Go.RowKit Go.Proofs.Ytojmhdooglihaaa.PA Go.Proofs.YtojmhdooglihaaaW.PrintWords Go.Proofs.YtojmhdooglihaaaW.PrintLast
open Go.Proofs.YtojmhdooglihaaaAid
theorem even_all : (List.range 151).all (fun n => rubricatorlaw20_DelimEven.f 200 (n : Int) == some true) = true := by decide +kernel
theorem DelimEven : rubricatorlaw20_DelimEven.Pure := by
  intro a0 h0
  by_cases h : 0 ≤ a0 ∧ a0 ≤ 150
  · have h1 := List.all_eq_true.1 even_all a0.toNat (List.mem_range.2 (by omega))
    rw [Int.toNat_of_nonneg h.1, beq_iff_eq] at h1
    exact ⟨200, h1⟩
  · refine Ev.rounds (r := true) ?_
    have hj : Ev (fun k => rubricatorlaw20_DelimEven.j0 k a0 true) true := by
      refine ev_succ ?_
      simp only [rubricatorlaw20_DelimEven.j0]
      exact known_end
    unfold rubricatorlaw20_DelimEven.f
    by_cases h1 : a0 < 0
    · exact ev_if h1 hj
    · refine ev_else h1 ?_
      rw [decide_eq_true (show a0 > 150 by omega)]
      exact hj
end Go.Proofs.Ytojmhdooglihaaa.Pure
