/- Whether any text is a part's name, its relationships' part, what stands behind its last point. No conditions. -/
import Derived.Test.YtdooaaefldjinaaDoorRel
namespace Go.Proofs.YtdooaaefldjinaaDoor.Pure
open Go.RowKit Go.Proofs.YtdooaaefldjinaaDoor.PA Go.Proofs.YtdooaaefldjinaaDoorW.PrintWords Go.Proofs.YtdooaaefldjinaaDoorW.PrintLast Go.Proofs.YtdooaaefldjinaaDoorAid Go.Proofs.YtdooaaefldjinaaDoor.Pcs
set_option linter.unusedVariables false
theorem PartsNames : rubricatorlaw12_PartsNames.Pure := by
  intro a0 _
  refine Ev.rounds ?_
  unfold rubricatorlaw12_PartsNames.f
  by_cases hb : (a0.size : Int) > 1000
  · exact ev_if hb (ev_val rfl)
  have hs : a0.size ≤ 1000000 := by omega
  refine ev_else hb (Ev.bind (is_ev a0 hs) (Ev.bind (ref_is_ev a0 hs) (ev_if (by simp) ?_)))
  refine Ev.bind (rels_ev a0 hs) (Ev.bind (ref_rels_ev a0 hs) (ev_if rfl ?_))
  refine Ev.bind (pext_ev a0 hs) (Ev.bind (rext_ev a0 hs) (ev_if rfl ?_))
  exact Ev.bind known_ev (ev_val rfl)
end Go.Proofs.YtdooaaefldjinaaDoor.Pure
