/- Whether any line begins with an item's marker: as the document says. No conditions. -/
import Derived.Test.YtofklonjmdefgaaDoorPAx3
import Derived.Test.YtofklonjmdefgaaDoorMark
namespace Go.Proofs.YtofklonjmdefgaaDoor.Pure
open Go.RowKit Go.Proofs.YtofklonjmdefgaaDoor.PA Go.Proofs.YtofklonjmdefgaaDoorW.PrintWords Go.Proofs.YtofklonjmdefgaaDoorW.PrintLast
open Go.Proofs.YtofklonjmdefgaaDoorAid Go.Proofs.YtofklonjmdefgaaDoor.Spec
theorem LeafMarkers : rubricatorlaw18_LeafMarkers.Pure := by
  intro s hs
  refine Ev.rounds (r := true) ?_
  unfold rubricatorlaw18_LeafMarkers.f
  by_cases c : (s.size : Int) > 1000
  · exact ev_if c (Ev.now _)
  · refine ev_else c ?_
    obtain ⟨r, h1, h2⟩ := both_ev s (by omega) 9 0 0 (by omega) (by omega) (by omega) (by decide)
    exact Ev.bind h1 (Ev.bind h2 (ev_if rfl (ev_if rfl (ev_if rfl known_end))))
end Go.Proofs.YtofklonjmdefgaaDoor.Pure
