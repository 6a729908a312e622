/- How much lengths fill: the document's answer. Plain law; the conditions stand in each theorem. -/
import Derived.Test.YtachnclfgjdglaaTab
import Derived.Test.YtachnclfgjdglaaPAx2
namespace Go.Proofs.Ytachnclfgjdglaa.Next
open Go.RowKit Go.Proofs.Ytachnclfgjdglaa.PA Go.Proofs.YtachnclfgjdglaaW.PrintWords Go.Proofs.YtachnclfgjdglaaW.PrintLast Go.Proofs.YtachnclfgjdglaaW.PrintMore Go.Proofs.YtachnclfgjdglaaAid Go.Proofs.Ytachnclfgjdglaa.Coin Go.Proofs.Ytachnclfgjdglaa.Known
set_option linter.unusedVariables false
set_option linter.unusedSimpArgs false

theorem fill_go (l : List Int) (hl : isL l = true) : ∀ (e i : Nat), l.length ≤ i + e → i ≤ l.length → Ev (fun k => rubricatorref3_Fill.l0 k l (fillP l i).1 (i : Int)) (fillP l l.length).1 := by
  intro e
  induction e with
  | zero =>
    intro i h1 h2
    obtain rfl : i = l.length := by omega
    refine ev_succ ?_
    simp only [rubricatorref3_Fill.l0]
    exact ev_else (by omega) (ev_val rfl)
  | succ e ih =>
    intro i h1 h2
    by_cases hi : i = l.length
    · subst hi
      exact ih _ (by omega) h2
    have hn := isL_len hl
    have hf := fillP_small hl i h2
    have ha : 0 ≤ rd l (i : Int) ∧ rd l (i : Int) ≤ 15 := isL_at hl i (by omega)
    have hnx := ih (i + 1) (by omega) (by omega)
    have hfp : fillP l (i + 1) = if rd l (i : Int) > 0 then ((fillP l i).1 + 2 ^ (15 - rd l (i : Int)).toNat, (fillP l i).2 + 1) else fillP l i := rfl
    rw [hfp] at hnx
    refine ev_succ ?_
    simp only [rubricatorref3_Fill.l0]
    refine ev_if (by omega) (ev_if (by omega) ?_)
    rw [show wrap64 ((i : Int) + 1) = ((i + 1 : Nat) : Int) by unfold wrap64; omega]
    by_cases hx : rd l (i : Int) > 0
    · rw [if_pos hx] at hnx
      obtain ⟨e1, e2⟩ := shl_pow (rd l (i : Int)) hx ha.2
      have hp := pow_le (rd l (i : Int)) hx ha.2
      rw [e1, e2]
      refine ev_if hx (ev_if (by omega) ?_)
      rw [w64 (by omega) (by omega)]
      exact hnx
    · rw [if_neg hx] at hnx
      exact ev_else hx hnx
theorem fill_ev (l : List Int) (hl : isL l = true) : Ev (fun k => rubricatorref3_Fill.f k l) (fillP l l.length).1 := fill_go l hl l.length 0 (by omega) (Nat.zero_le _)
end Go.Proofs.Ytachnclfgjdglaa.Next
