/- Any text's lines are as the document says. No conditions. -/
import Derived.Test.YtekkkohncfmmfaaPAx2
import Derived.Test.YtekkkohncfmmfaaLines
namespace Go.Proofs.Ytekkkohncfmmfaa.Pure
open Go.RowKit Go.Proofs Go.Proofs.Ytekkkohncfmmfaa.PA Go.Proofs.YtekkkohncfmmfaaW.PrintWords Go.Proofs.YtekkkohncfmmfaaW.PrintLast
open Go.Proofs.YtekkkohncfmmfaaAid Go.Proofs.YtekkkohncfmmfaaDec Go.Proofs.Ytekkkohncfmmfaa.Lin
theorem UtfLines : rubricatorlaw7_UtfLines.Pure := by
  intro s _
  refine Ev.rounds ?_
  unfold rubricatorlaw7_UtfLines.f
  by_cases h : (s.size : Int) > 3000
  · exact ev_if h (ev_val rfl)
  refine ev_else h ?_
  rw [lines_f s (by omega)]
  simp only [Option.bind_some]
  have hl : (linesOf s).length ≤ 9223372036854775806 := by
    have := spec_length (from_ s 0) [] false
    have e : (from_ s 0).length = s.size := by unfold from_; simp
    unfold linesOf
    omega
  refine Ev.bind (ref_lines s (by omega)) (Ev.bind (texts_same _ hl) (ev_if rfl ?_))
  rw [known_f]
  exact ev_val rfl
end Go.Proofs.Ytekkkohncfmmfaa.Pure
