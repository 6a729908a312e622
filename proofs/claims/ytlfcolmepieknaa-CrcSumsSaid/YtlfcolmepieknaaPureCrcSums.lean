/- Of any two rows crc.Sum is the sum of both, in whatever portions, and leaves the rows as they are. No conditions. -/
import Derived.Test.YtlfcolmepieknaaPAx2
import Derived.Test.YtlfcolmepieknaaMath
import Derived.Test.YtlfcolmepieknaaSame
namespace Go.Proofs.Ytlfcolmepieknaa.Pure
open Go.RowKit Go.Proofs.Ytlfcolmepieknaa.PA Go.Proofs.YtlfcolmepieknaaW.PrintWords Go.Proofs.YtlfcolmepieknaaW.PrintLast
open Go.Proofs.Ytlfcolmepieknaa.Mat Go.Proofs.Ytlfcolmepieknaa.Same Go.Proofs.YtlfcolmepieknaaAid

theorem CrcSums : rubricatorlaw2_CrcSums.Pure := by
  intro a b _ ha _ _ hb _
  refine Ev.rounds (r := true) ?_
  unfold rubricatorlaw2_CrcSums.f
  rw [w64_add (by omega) (by omega)]
  have j0 : ∀ v, Ev (fun k => rubricatorlaw2_CrcSums.j0 k v) v := fun v => Ev.step (f := fun _ => some v) (fun _ => rfl) (Ev.now _)
  by_cases h : (a.length : Int) + (b.length : Int) > 4000
  · exact ev_if h (Ev.now _)
  refine ev_else h ?_
  have la : a.length ≤ 4000 := by omega
  have lb : b.length ≤ 4000 := by omega
  rw [roomy_eq a (by omega), roomy_eq b (by omega)]
  refine ev_some (ev_some (ev_if (by omega) (ev_if (by simp; omega) (ev_if (by omega) (ev_if (by simp; omega) ?_)))))
  have e1 : (a ++ [171]).take ((a.length : Int)).toNat = a := by rw [Int.toNat_natCast, List.take_left]
  have e2 : (b ++ [171]).take ((b.length : Int)).toNat = b := by rw [Int.toNat_natCast, List.take_left]
  rw [e1, e2]
  refine Ev.bind (Sum_ev [a, b] (by simp) (by intro l hl; simp at hl; rcases hl with rfl | rfl <;> omega)) ?_
  refine ev_some (ev_if (by simp; omega) (ev_some (ev_if (by simp; omega) ?_)))
  refine Ev.bind (refSum_ev [a, b] (by simp) (by intro l hl; simp at hl; rcases hl with rfl | rfl <;> omega)) (ev_if rfl ?_)
  have q : ([] ++ a ++ b : List Int) = a ++ b := rfl
  rw [q]
  refine Ev.bind (Sum_ev [a ++ b] (by simp) (by intro l hl; simp at hl; subst hl; simp; omega)) (ev_if ?_ ?_)
  · rw [crcs_flat, crcs_flat]
    simp
  refine Ev.bind (Sum_ev [a] (by simp) (by intro l hl; simp at hl; subst hl; omega)) (Ev.bind (More_ev (crcs 0 [a]) b (by omega)) (ev_if rfl ?_))
  refine Ev.bind (stands_ev (a ++ [171]) a (by simp; omega) (by omega)) (ev_if (by simp) ?_)
  refine Ev.bind (stands_ev (b ++ [171]) b (by simp; omega) (by omega)) (ev_if (by simp) ?_)
  exact Ev.bind known_ev (j0 true)
end Go.Proofs.Ytlfcolmepieknaa.Pure
