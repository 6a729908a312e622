/- What a row of a sign may do between two runes, out of whether these are blanks and punctuation. Runes below 2^31. -/
import Derived.Test.YtojmhdooglihaaaPAx9
import Derived.Test.YtojmhdooglihaaaPAx10
import Derived.Test.YtojmhdooglihaaaMath
namespace Go.Proofs.Ytojmhdooglihaaa.Pure
open Go.RowKit Go.Proofs.Ytojmhdooglihaaa.PA Go.Proofs.YtojmhdooglihaaaW.PrintWords Go.Proofs.YtojmhdooglihaaaW.PrintLast
open Go.Proofs.YtojmhdooglihaaaAid
open Go.Proofs.Ytojmhdooglihaaa.Mat
theorem Look_ev (a0 a1 a2 a3 : Int) (h2 : a2 ≤ 2147483647) (h3 : a3 ≤ 2147483647) {v : Int × Int × Bool × Bool} (h : lookV a0 a1 (decide (blankP a2)) (decide (punctP a2)) (decide (blankP a3)) (decide (punctP a3)) = v) : Ev (fun k => delim_Look.f k a0 a1 a2 a3) v := by
  unfold delim_Look.f
  exact Ev.bind (Blank_ev a2) (Ev.bind (Punct_ev a2 h2) (Ev.bind (Blank_ev a3) (Ev.bind (Punct_ev a3 h3) (ev_const (congrArg some h)))))
theorem refLook_ev (a0 a1 a2 a3 : Int) {v : Int × Int × Bool × Bool} (h : lookV a0 a1 (decide (blankP a2)) (decide (punctP a2)) (decide (blankP a3)) (decide (punctP a3)) = v) : Ev (fun k => rubricatorref20_Look.f k a0 a1 a2 a3) v := by
  unfold rubricatorref20_Look.f
  exact Ev.bind (ev_const (refBlank_eq a2)) (Ev.bind (refPunct_ev a2) (Ev.bind (ev_const (refBlank_eq a3)) (Ev.bind (refPunct_ev a3) (ev_const (congrArg some h)))))
end Go.Proofs.Ytojmhdooglihaaa.Pure
