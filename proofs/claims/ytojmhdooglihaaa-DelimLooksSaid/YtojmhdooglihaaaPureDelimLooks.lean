/- What a row of any sign may do between any runes is what the document says. No conditions. -/
import Derived.Test.YtojmhdooglihaaaLook
import Derived.Test.YtojmhdooglihaaaKnown
namespace Go.Proofs.Ytojmhdooglihaaa.Pure
open Go.RowKit Go.Proofs.Ytojmhdooglihaaa.PA Go.Proofs.YtojmhdooglihaaaW.PrintWords Go.Proofs.YtojmhdooglihaaaW.PrintLast
open Go.Proofs.YtojmhdooglihaaaAid
open Go.Proofs.Ytojmhdooglihaaa.Mat
theorem DelimLooks : rubricatorlaw20_DelimLooks.Pure := by
  intro a0 a1 a2 a3 h0 h1 h2 h3
  have h2' := wf_i32 h2
  have h3' := wf_i32 h3
  refine Ev.rounds (r := true) ?_
  unfold rubricatorlaw20_DelimLooks.f
  refine Ev.bind (Look_ev a0 a1 a2 a3 (by omega) (by omega) rfl) (Ev.bind (refLook_ev a0 a1 a2 a3 rfl) (ev_if (by simp) known_end))
end Go.Proofs.Ytojmhdooglihaaa.Pure
