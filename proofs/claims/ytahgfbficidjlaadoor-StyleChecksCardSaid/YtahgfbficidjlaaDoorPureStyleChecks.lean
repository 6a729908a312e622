/- Of any styles the document's Check is the program's. No conditions. -/
import Derived.Test.YtahgfbficidjlaaDoorKnown
namespace Go.Proofs.YtahgfbficidjlaaDoor.Pure
open Go.RowKit Go.Proofs.YtahgfbficidjlaaDoor.PA Go.Proofs.YtahgfbficidjlaaDoorW.PrintWords Go.Proofs.YtahgfbficidjlaaDoorW.PrintLast Go.Proofs.YtahgfbficidjlaaDoorAid Go.Proofs.YtahgfbficidjlaaDoorChain Go.Proofs.YtahgfbficidjlaaDoor.Sty Go.Proofs.YtahgfbficidjlaaDoor.Say Go.Proofs.YtahgfbficidjlaaDoor.Known
set_option linter.unusedVariables false
set_option linter.unusedSimpArgs false

instance inhabited35 : Inhabited S35 := ⟨z35⟩
theorem StyleChecks : rubricatorlaw14_StyleChecks.Pure := by
  intro l ⟨_, _, hw⟩
  refine Ev.rounds (?_ : Ev (fun k => rubricatorlaw14_StyleChecks.f k l) true)
  unfold rubricatorlaw14_StyleChecks.f
  by_cases h : (l.length : Int) > 100
  · exact ev_if h (ev_val rfl)
  have hs : Small l := ⟨by omega, fun s hs => ⟨(hw s hs).1, (hw s hs).2.1⟩⟩
  refine ev_else h (Ev.bind (ev_const (own_f hs.1)) (Ev.bind (ev_const (check_f hs)) (Ev.bind (check_ev l hs.1) ?_)))
  exact ev_if rfl (ev_if rfl (Ev.bind (styles_ev l hs.1) (ev_if rfl (kn _ fun _ => rfl))))
end Go.Proofs.YtahgfbficidjlaaDoor.Pure
