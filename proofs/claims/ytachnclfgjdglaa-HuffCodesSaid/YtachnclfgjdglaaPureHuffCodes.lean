/- Codes by any lengths, or refused. No conditions. -/
import Derived.Test.YtachnclfgjdglaaNext
namespace Go.Proofs.Ytachnclfgjdglaa.Pure
open Go.RowKit Go.Proofs.Ytachnclfgjdglaa.PA Go.Proofs.YtachnclfgjdglaaW.PrintWords Go.Proofs.YtachnclfgjdglaaW.PrintLast Go.Proofs.YtachnclfgjdglaaW.PrintMore Go.Proofs.YtachnclfgjdglaaAid Go.Proofs.Ytachnclfgjdglaa.Coin Go.Proofs.Ytachnclfgjdglaa.Known Go.Proofs.Ytachnclfgjdglaa.Next
set_option linter.unusedVariables false

theorem codesF_len (l : List Int) (h : l.length ≤ 400) : (codesF l).1.length ≤ 1000000 := by
  unfold codesF
  split
  · split
    · simp
    · show ((codesP l l.length).2).length ≤ _
      rw [codesP_len]
      omega
  · simp
theorem HuffCodes : rubricatorlaw3_HuffCodes.Pure := by
  intro l _ _ _
  refine Ev.rounds (?_ : Ev (fun k => rubricatorlaw3_HuffCodes.f k l) true)
  unfold rubricatorlaw3_HuffCodes.f
  by_cases h : (l.length : Int) > 400
  · exact ev_if h (ev_val rfl)
  have hown : rubricatorlaw3_own.f l = some l := by
    unfold rubricatorlaw3_own.f
    show (if ([] : List Int).length + l.length < 17592186044416 then some ([] ++ l) else none) = some l
    rw [if_pos (by simp; omega)]
    rfl
  refine ev_else h (Ev.bind (ev_const hown) (Ev.bind (ev_const (show huff_Codes.f l = some (codesF l) from rfl)) (Ev.bind (codes_ev l) ?_)))
  refine Ev.bind (ints_ev (codesF l).1 (codesF_len l (by omega))) (ev_if rfl (ev_if rfl (Ev.bind (ints_ev l (by omega)) (ev_if rfl (kn _ fun _ => rfl)))))
end Go.Proofs.Ytachnclfgjdglaa.Pure
