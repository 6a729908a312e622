/- Four codes and three lengths that are known. No conditions. -/
import Derived.Test.YtachnclfgjdglaaPAx1
import Derived.Test.YtachnclfgjdglaaAid
namespace Go.Proofs.Ytachnclfgjdglaa.Known
open Go.RowKit Go.Proofs.Ytachnclfgjdglaa.PA Go.Proofs.YtachnclfgjdglaaW.PrintWords Go.Proofs.YtachnclfgjdglaaW.PrintLast Go.Proofs.YtachnclfgjdglaaW.PrintMore Go.Proofs.YtachnclfgjdglaaAid Go.Proofs.Ytachnclfgjdglaa.Coin
set_option linter.unusedVariables false
set_option linter.unusedSimpArgs false

theorem ints_go (l : List Int) (hl : l.length ≤ 1000000) : ∀ (e i : Nat), l.length ≤ i + e → i ≤ l.length → Ev (fun k => rubricatorlaw3_ints.l0 k l l (i : Int)) true := by
  intro e
  induction e with
  | zero =>
    intro i h1 h2
    refine ev_succ ?_
    simp only [rubricatorlaw3_ints.l0]
    exact ev_else (by omega) (ev_val rfl)
  | succ e ih =>
    intro i h1 h2
    by_cases hi : i = l.length
    · subst hi
      exact ih _ (by omega) h2
    refine ev_succ ?_
    simp only [rubricatorlaw3_ints.l0]
    refine ev_if (by omega) (ev_if (by omega) (ev_if (by omega) (ev_if (by first | rfl | trivial) ?_)))
    rw [show wrap64 ((i : Int) + 1) = ((i + 1 : Nat) : Int) by unfold wrap64; omega]
    exact ih (i + 1) (by omega) (by omega)
theorem ints_ev (l : List Int) (hl : l.length ≤ 1000000) : Ev (fun k => rubricatorlaw3_ints.f k l l) true := by
  unfold rubricatorlaw3_ints.f
  exact ev_if rfl (ints_go l hl l.length 0 (by omega) (Nat.zero_le _))
theorem known_codes : codesF [2, 1, 3, 3] = ([2, 0, 6, 7], 0) := by decide +kernel
theorem known_lens : lensF [5, 1, 1] 15 = some ([1, 2, 2], 0) := by decide +kernel
theorem known_ev : Ev (fun k => rubricatorlaw3_known.f k) true := by
  unfold rubricatorlaw3_known.f
  refine Ev.bind (ev_const (show huff_Codes.f [2, 1, 3, 3] = some ([2, 0, 6, 7], 0) by unfold huff_Codes.f; rw [known_codes])) (Ev.bind (ev_const (show huff_Lengths.f [5, 1, 1] 15 = some ([1, 2, 2], 0) from known_lens)) ?_)
  refine ev_if rfl (Ev.bind (ints_ev [2, 0, 6, 7] (by decide)) (ev_if rfl (ev_if rfl (Ev.bind (ints_ev [1, 2, 2] (by decide)) (ev_val rfl)))))
theorem kn (g : Nat → Option Bool) (h : ∀ k, g k = (rubricatorlaw3_known.f k).bind fun t => some t) : Ev g true := Ev.congr h (Ev.bind known_ev (ev_val rfl))
end Go.Proofs.Ytachnclfgjdglaa.Known
