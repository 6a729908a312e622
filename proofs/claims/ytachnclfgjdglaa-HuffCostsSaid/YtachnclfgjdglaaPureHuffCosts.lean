/- How many bits lengths take, as many as there are both of. No conditions. -/
import Derived.Test.YtachnclfgjdglaaPAx10
import Derived.Test.YtachnclfgjdglaaKnown
namespace Go.Proofs.Ytachnclfgjdglaa.Pure
open Go.RowKit Go.Proofs.Ytachnclfgjdglaa.PA Go.Proofs.YtachnclfgjdglaaW.PrintWords Go.Proofs.YtachnclfgjdglaaW.PrintLast Go.Proofs.YtachnclfgjdglaaW.PrintMore Go.Proofs.YtachnclfgjdglaaAid Go.Proofs.Ytachnclfgjdglaa.Coin Go.Proofs.Ytachnclfgjdglaa.Known
set_option linter.unusedVariables false
set_option linter.unusedSimpArgs false

theorem cost_go (a b : List Int) (ha : a.length ≤ 1000000) : ∀ (e i : Nat), min a.length b.length ≤ i + e → i ≤ min a.length b.length → Ev (fun k => rubricatorref3_Cost.l0 k a b (costP a b i) (i : Int)) (costP a b (min a.length b.length)) := by
  intro e
  induction e with
  | zero =>
    intro i h1 h2
    obtain rfl : i = min a.length b.length := by omega
    refine ev_succ ?_
    simp only [rubricatorref3_Cost.l0]
    by_cases h : ((min a.length b.length : Nat) : Int) < (a.length : Int)
    · exact ev_if h (ev_else (by omega) (ev_val rfl))
    · exact ev_else h (ev_val rfl)
  | succ e ih =>
    intro i h1 h2
    by_cases hi : i = min a.length b.length
    · rw [hi]
      exact ih _ (by omega) (Nat.le_refl _)
    refine ev_succ ?_
    simp only [rubricatorref3_Cost.l0]
    refine ev_if (by omega) (ev_if (by omega) (ev_if (by omega) ?_))
    rw [show wrap64 ((i : Int) + 1) = ((i + 1 : Nat) : Int) by unfold wrap64; omega]
    exact ih (i + 1) (by omega) (by omega)
theorem cost_ev (a b : List Int) (ha : a.length ≤ 1000000) : Ev (fun k => rubricatorref3_Cost.f k a b) (costP a b (min a.length b.length)) :=
  cost_go a b ha (min a.length b.length) 0 (by omega) (Nat.zero_le _)
theorem costs_l1 (a b : List Int) (ha : a.length ≤ 400) (hb : b.length ≤ 400) : ∀ (e i : Nat), b.length ≤ i + e → i ≤ b.length → Ev (fun k => rubricatorlaw3_HuffCosts.l1 k a b (i : Int)) true := by
  intro e
  induction e with
  | zero =>
    intro i h1 h2
    refine ev_succ ?_
    simp only [rubricatorlaw3_HuffCosts.l1]
    refine ev_else (by omega) (Ev.bind (ev_const (show huff_Cost.f a b = some (costP a b (min a.length b.length)) by unfold huff_Cost.f; rw [if_pos (by omega)])) (Ev.bind (cost_ev a b (by omega)) ?_))
    exact ev_if rfl (kn _ fun _ => rfl)
  | succ e ih =>
    intro i h1 h2
    by_cases hi : i = b.length
    · subst hi
      exact ih _ (by omega) h2
    refine ev_succ ?_
    simp only [rubricatorlaw3_HuffCosts.l1]
    refine ev_if (by omega) (ev_if (by omega) ?_)
    by_cases c1 : rd b (i : Int) < -1048576
    · exact ev_if c1 (kn _ fun _ => rfl)
    refine ev_else c1 ?_
    by_cases c2 : rd b (i : Int) > 1048576
    · exact ev_if c2 (kn _ fun _ => rfl)
    refine ev_else c2 ?_
    rw [show wrap64 ((i : Int) + 1) = ((i + 1 : Nat) : Int) by unfold wrap64; omega]
    exact ih (i + 1) (by omega) (by omega)
theorem costs_l0 (a b : List Int) (ha : a.length ≤ 400) (hb : b.length ≤ 400) : ∀ (e i : Nat), a.length ≤ i + e → i ≤ a.length → Ev (fun k => rubricatorlaw3_HuffCosts.l0 k a b (i : Int)) true := by
  intro e
  induction e with
  | zero =>
    intro i h1 h2
    refine ev_succ ?_
    simp only [rubricatorlaw3_HuffCosts.l0]
    exact ev_else (by omega) (costs_l1 a b ha hb b.length 0 (by omega) (Nat.zero_le _))
  | succ e ih =>
    intro i h1 h2
    by_cases hi : i = a.length
    · subst hi
      exact ih _ (by omega) h2
    refine ev_succ ?_
    simp only [rubricatorlaw3_HuffCosts.l0]
    refine ev_if (by omega) (ev_if (by omega) ?_)
    by_cases c1 : rd a (i : Int) < -1073741824
    · exact ev_if c1 (kn _ fun _ => rfl)
    refine ev_else c1 ?_
    by_cases c2 : rd a (i : Int) > 1073741824
    · exact ev_if c2 (kn _ fun _ => rfl)
    refine ev_else c2 ?_
    rw [show wrap64 ((i : Int) + 1) = ((i + 1 : Nat) : Int) by unfold wrap64; omega]
    exact ih (i + 1) (by omega) (by omega)
theorem HuffCosts : rubricatorlaw3_HuffCosts.Pure := by
  intro a b _ _ _ _ _ _
  refine Ev.rounds (?_ : Ev (fun k => rubricatorlaw3_HuffCosts.f k a b) true)
  unfold rubricatorlaw3_HuffCosts.f
  have h1 : Ev (fun k => rubricatorlaw3_HuffCosts.j0 k a b true) true := by
    refine ev_succ ?_
    simp only [rubricatorlaw3_HuffCosts.j0]
    exact ev_if (by first | rfl | trivial) (ev_val rfl)
  by_cases c1 : (a.length : Int) > 400
  · exact ev_if c1 h1
  refine ev_else c1 ?_
  by_cases c2 : (b.length : Int) > 400
  · rw [decide_eq_true c2]
    exact h1
  rw [decide_eq_false c2]
  refine ev_succ ?_
  simp only [rubricatorlaw3_HuffCosts.j0]
  exact ev_else (by simp) (costs_l0 a b (by omega) (by omega) a.length 0 (by omega) (Nat.zero_le _))
end Go.Proofs.Ytachnclfgjdglaa.Pure
