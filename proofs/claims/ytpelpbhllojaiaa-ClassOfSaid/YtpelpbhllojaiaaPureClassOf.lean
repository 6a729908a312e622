/- Of any rune and byte of which kind it is: as the document says; no rune is a blank and punctuation. No conditions. -/
import Derived.Test.YtpelpbhllojaiaaPAx2
import Derived.Test.YtpelpbhllojaiaaMath
namespace Go.Proofs.Ytpelpbhllojaiaa.Pure
open Go.RowKit Go.Proofs.Ytpelpbhllojaiaa.PA Go.Proofs.YtpelpbhllojaiaaW.PrintWords Go.Proofs.YtpelpbhllojaiaaW.PrintLast
open Go.Proofs.Ytpelpbhllojaiaa.Mat Go.Proofs.YtpelpbhllojaiaaAid

theorem ClassOf : rubricatorlaw8_ClassOf.Pure := by
  intro r c hr hc
  have hr' := wf_i32 hr
  have hc' := wf_u8 hc
  refine Ev.rounds (r := true) ?_
  unfold rubricatorlaw8_ClassOf.f
  rw [refBlank_eq, refSign_eq]
  refine Ev.bind (Blank_ev r) (ev_some (ev_if (by simp) ?_))
  refine Ev.bind (Punct_ev r (by omega)) (Ev.bind (refPunct_ev r) (ev_if (by simp) ?_))
  refine Ev.bind (Sign_ev c hc') (ev_some (ev_if (by simp) ?_))
  have last : Ev (fun k => (rubricatorlaw8_known.f k).bind fun t => some t) true := Ev.bind known_ev (Ev.now _)
  refine Ev.bind (Blank_ev r) ?_
  by_cases hb : blankP r
  · refine ev_if (decide_eq_true hb) (Ev.bind (Punct_ev r (by omega)) (ev_else ?_ last))
    rw [decide_eq_true_eq]
    unfold blankP at hb
    unfold punctP signP
    omega
  · exact ev_else (by rw [decide_eq_true_eq]; exact hb) last
end Go.Proofs.Ytpelpbhllojaiaa.Pure
