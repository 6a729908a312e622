/- Seen the other way round a star that opens closes, and one that closes opens. No conditions. -/
import Derived.Test.YtojmhdooglihaaaPAx9
import Derived.Test.YtojmhdooglihaaaPAx11
import Derived.Test.YtojmhdooglihaaaLook
import Derived.Test.YtojmhdooglihaaaKnown
namespace Go.Proofs.Ytojmhdooglihaaa.Pure
open Go.RowKit Go.Proofs.Ytojmhdooglihaaa.PA Go.Proofs.YtojmhdooglihaaaW.PrintWords Go.Proofs.YtojmhdooglihaaaW.PrintLast
open Go.Proofs.YtojmhdooglihaaaAid
open Go.Proofs.Ytojmhdooglihaaa.Mat
theorem flips (n : Int) (bb bp ab ap : Bool) : (lookV 42 n bb bp ab ap).2.2.1 = (lookV 42 n ab ap bb bp).2.2.2 ∧ (lookV 42 n bb bp ab ap).2.2.2 = (lookV 42 n ab ap bb bp).2.2.1 ∧ (lookV 42 n bb bp ab ap).2.1 = n ∧ (lookV 42 n bb bp ab ap).1 = 42 := by
  cases bb <;> cases bp <;> cases ab <;> cases ap <;> exact ⟨rfl, rfl, rfl, rfl⟩
theorem DelimFlips : rubricatorlaw20_DelimFlips.Pure := by
  intro a0 a1 a2 h0 h1 h2
  have h1' := wf_i32 h1
  have h2' := wf_i32 h2
  refine Ev.rounds (r := true) ?_
  unfold rubricatorlaw20_DelimFlips.f
  obtain ⟨e1, e2, e3, e4⟩ := flips a0 (decide (blankP a1)) (decide (punctP a1)) (decide (blankP a2)) (decide (punctP a2))
  refine Ev.bind (Look_ev 42 a0 a1 a2 (by omega) (by omega) rfl) (Ev.bind (Look_ev 42 a0 a2 a1 (by omega) (by omega) rfl) ?_)
  exact ev_if (by rw [e1]; simp) (ev_if (by rw [e2]; simp) (ev_if e3 (ev_if e4 known_end)))
end Go.Proofs.Ytojmhdooglihaaa.Pure
