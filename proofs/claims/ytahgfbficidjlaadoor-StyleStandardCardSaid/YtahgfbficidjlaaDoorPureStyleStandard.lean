/- The styles that are always written can be; what is answered is new memory. No conditions. -/
import Derived.Test.YtahgfbficidjlaaDoorKnown
namespace Go.Proofs.YtahgfbficidjlaaDoor.Pure
open Go.RowKit Go.Proofs.YtahgfbficidjlaaDoor.PA Go.Proofs.YtahgfbficidjlaaDoorW.PrintWords Go.Proofs.YtahgfbficidjlaaDoorW.PrintLast Go.Proofs.YtahgfbficidjlaaDoorAid Go.Proofs.YtahgfbficidjlaaDoorChain Go.Proofs.YtahgfbficidjlaaDoor.Sty Go.Proofs.YtahgfbficidjlaaDoor.Say Go.Proofs.YtahgfbficidjlaaDoor.Known
set_option linter.unusedVariables false
set_option linter.unusedSimpArgs false

theorem StyleStandard : rubricatorlaw14_StyleStandard.Pure := by
  intro id _
  refine Ev.rounds (?_ : Ev (fun k => rubricatorlaw14_StyleStandard.f k id) true)
  unfold rubricatorlaw14_StyleStandard.f
  have hs : Ev (fun k => style_Standard.f k) STD := Ev.of style_Standard.mono std_f
  have hr : Ev (fun k => rubricatorref14_Standard.f k) STD := Ev.of rubricatorref14_Standard.mono ref_f
  refine Ev.bind hs (Ev.bind hr (Ev.bind (styles_ev STD std_small.1) (ev_if rfl ?_)))
  refine Ev.bind (ev_const (check_f std_small)) (Ev.bind (ev_const (level_f std_small id)) ?_)
  rw [std_res]
  refine ev_if (by decide) (ev_if rfl (ev_if rfl (Ev.bind hr (Ev.bind (level_ev std_small.1 id) (ev_if rfl ?_)))))
  exact Ev.bind hs (Ev.bind hr (Ev.bind (styles_ev STD std_small.1) (ev_if rfl (kn _ fun _ => rfl))))
end Go.Proofs.YtahgfbficidjlaaDoor.Pure
