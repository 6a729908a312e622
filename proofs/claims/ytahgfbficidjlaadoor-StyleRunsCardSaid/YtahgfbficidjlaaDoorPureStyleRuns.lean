/- What any styles come to, for any names and sayings. No conditions. -/
import Derived.Test.YtahgfbficidjlaaDoorKnown
namespace Go.Proofs.YtahgfbficidjlaaDoor.Pure
open Go.RowKit Go.Proofs.YtahgfbficidjlaaDoor.PA Go.Proofs.YtahgfbficidjlaaDoorW.PrintWords Go.Proofs.YtahgfbficidjlaaDoorW.PrintLast Go.Proofs.YtahgfbficidjlaaDoorAid Go.Proofs.YtahgfbficidjlaaDoorChain Go.Proofs.YtahgfbficidjlaaDoor.Sty Go.Proofs.YtahgfbficidjlaaDoor.Say Go.Proofs.YtahgfbficidjlaaDoor.Known
set_option linter.unusedVariables false
set_option linter.unusedSimpArgs false

instance inhabited35 : Inhabited S35 := ⟨z35⟩
theorem StyleRuns : rubricatorlaw14_StyleRuns.Pure := by
  intro l p o e b ⟨_, _, hw⟩ _ _ _ _
  refine Ev.rounds (?_ : Ev (fun k => rubricatorlaw14_StyleRuns.f k l p o e b) true)
  unfold rubricatorlaw14_StyleRuns.f
  by_cases h : (l.length : Int) > 100
  · exact ev_if h (ev_val rfl)
  have hs : Small l := ⟨by omega, fun s hs => ⟨(hw s hs).1, (hw s hs).2.1⟩⟩
  refine ev_else h (Ev.bind (ev_const (own_f hs.1)) (Ev.bind (ev_const (run_f hs p o e b)) (Ev.bind (run_ev hs.1 p o e b) ?_)))
  refine ev_if rfl (Ev.bind (ev_const (level_f hs p)) (Ev.bind (level_ev hs.1 p) (ev_if rfl ?_)))
  exact Ev.bind (ev_const (level_f hs o)) (Ev.bind (level_ev hs.1 o) (ev_if rfl (kn _ fun _ => rfl)))
end Go.Proofs.YtahgfbficidjlaaDoor.Pure
