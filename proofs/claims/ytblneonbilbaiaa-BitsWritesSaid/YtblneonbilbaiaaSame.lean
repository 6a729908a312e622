/- What the laws' helpers same, roomy and stands come to: equality of two rows, a row with one mark behind it. Lengths below 2^40. -/
import Derived.Test.YtblneonbilbaiaaPAx1
import Derived.Test.YtblneonbilbaiaaAid
namespace Go.Proofs.Ytblneonbilbaiaa.Same
open Go.RowKit Go.Proofs.Ytblneonbilbaiaa.PA Go.Proofs.YtblneonbilbaiaaW.PrintWords Go.Proofs.YtblneonbilbaiaaW.PrintLast Go.Proofs.YtblneonbilbaiaaAid

theorem w64s {i : Int} (h0 : 0 ≤ i) (h : i < 9223372036854775807) : wrap64 (i + 1) = i + 1 := by unfold wrap64; omega
theorem rd_get (a : List Int) (i : Nat) (h : i < a.length) : rd a (i : Int) = a[i] := by
  simp [rd, List.getD_eq_getElem?_getD, List.getElem?_eq_getElem h]
theorem same_l0 (a b : List Int) (hl : a.length = b.length) (hb : a.length ≤ 1099511627776) : ∀ (d i : Nat), i + d = a.length →
    Ev (fun k => rubricatorlaw1_same.l0 k a b (i : Int)) (decide (a.drop i = b.drop i)) := by
  intro d
  induction d with
  | zero =>
    intro i hi
    refine Ev.step (f := fun _ => some true) (fun k => ?_) ?_
    · simp only [rubricatorlaw1_same.l0]
      rw [if_neg (by omega)]
    · rw [List.drop_of_length_le (by omega), List.drop_of_length_le (by omega)]
      exact Ev.now _
  | succ d ih =>
    intro i hi
    have ha : i < a.length := by omega
    have hb' : i < b.length := by omega
    rw [List.drop_eq_getElem_cons ha, List.drop_eq_getElem_cons hb']
    by_cases e : a[i] = b[i]
    · have h := ih (i + 1) (by omega)
      have e2 : decide (a[i] :: a.drop (i + 1) = b[i] :: b.drop (i + 1)) = decide (a.drop (i + 1) = b.drop (i + 1)) := by simp only [List.cons.injEq, e, true_and]
      rw [e2]
      refine Ev.step (f := fun k => rubricatorlaw1_same.l0 k a b ((i + 1 : Nat) : Int)) (fun k => ?_) h
      simp only [rubricatorlaw1_same.l0]
      rw [if_pos (by omega), if_pos (by omega), if_pos (by omega), rd_get a i ha, rd_get b i hb', if_pos e, w64s (by omega) (by omega)]
      rfl
    · have e2 : decide (a[i] :: a.drop (i + 1) = b[i] :: b.drop (i + 1)) = false := by simp only [List.cons.injEq, e, false_and, decide_false]
      rw [e2]
      refine Ev.step (f := fun _ => some false) (fun k => ?_) (Ev.now _)
      simp only [rubricatorlaw1_same.l0]
      rw [if_pos (by omega), if_pos (by omega), if_pos (by omega), rd_get a i ha, rd_get b i hb', if_neg e]
theorem same_ev (a b : List Int) (hb : a.length ≤ 1099511627776) : Ev (fun k => rubricatorlaw1_same.f k a b) (decide (a = b)) := by
  unfold rubricatorlaw1_same.f
  by_cases h : a.length = b.length
  · refine ev_if (by omega) ?_
    have := same_l0 a b h hb a.length 0 (by omega)
    simpa using this
  · refine ev_else (by omega) ?_
    have e : decide (a = b) = false := by simp; intro e; exact h (by rw [e])
    rw [e]
    exact Ev.now _
theorem some_bind {α β : Type} (a : α) (f : α → Option β) : (some a).bind f = f a := rfl
theorem roomy_eq (l : List Int) (hl : l.length ≤ 1099511627776) : rubricatorlaw1_roomy.f l = some (l ++ [171]) := by
  have n1 : (([] : List Int) ++ l).length = l.length := rfl
  have n2 : ((([] : List Int) ++ l) ++ [171]).length = l.length + 1 := by rw [List.length_append, n1, List.length_singleton]
  have n3 : (((([] : List Int) ++ l) ++ [171]) ++ [171]).length = l.length + 2 := by rw [List.length_append, n2, List.length_singleton]
  have h1 : ([] : List Int).length + l.length < 140737488355328 := by rw [List.length_nil]; omega
  have h2 : (([] : List Int) ++ l).length < 140737488355328 := by rw [n1]; omega
  have h3 : ((([] : List Int) ++ l) ++ [171]).length < 140737488355328 := by rw [n2]; omega
  have h4 : 0 ≤ (l.length : Int) + 1 := by omega
  have h5 : (l.length : Int) + 1 ≤ ((((([] : List Int) ++ l) ++ [171]) ++ [171]).length : Int) := by rw [n3]; omega
  have e : ((l.length : Int) + 1).toNat = ((([] : List Int) ++ l) ++ [171]).length := by rw [n2]; omega
  unfold rubricatorlaw1_roomy.f
  rw [some_bind, if_pos h1, some_bind, if_pos h2, some_bind, if_pos h3, some_bind, w64s (by omega) (by omega), if_pos h4, if_pos h5, e, List.take_left]
  rfl
theorem stands_ev (w b : List Int) (hw : w.length ≤ 1099511627776) (hb : b.length ≤ 1099511627776) : Ev (fun k => rubricatorlaw1_stands.f k w b) (decide (w = b ++ [171])) := by
  unfold rubricatorlaw1_stands.f
  rw [w64s (by omega) (by omega)]
  by_cases h : w.length = b.length + 1
  · refine ev_if (by omega) (ev_if (by omega) (ev_if (by omega) ?_))
    have hs := same_ev (w.take ((b.length : Int)).toNat) b (by rw [List.length_take]; omega)
    refine Ev.bind hs ?_
    rw [Int.toNat_natCast]
    by_cases e : w.take b.length = b
    · refine ev_if (by simp only [e, decide_true]) (ev_if (by omega) ?_)
      have hlt : b.length < w.length := by omega
      rw [rd_get w b.length hlt]
      refine ev_val ?_
      have hw2 : w = b ++ [w[b.length]] := by
        conv => lhs; rw [← List.take_append_drop b.length w, e]
        rw [List.drop_eq_getElem_cons hlt, List.drop_of_length_le (by omega)]
      rw [Bool.eq_iff_iff]
      simp only [decide_eq_true_eq, beq_iff_eq]
      constructor
      · intro h2
        rw [hw2, h2]
      · intro h2
        simp [h2]
    · refine ev_else (by simp only [e, decide_false, Bool.false_eq_true, not_false_eq_true]) (ev_val ?_)
      symm
      simp only [decide_eq_false_iff_not]
      intro h2
      exact e (by rw [h2, List.take_left])
  · refine ev_else (by omega) (ev_val ?_)
    symm
    simp only [decide_eq_false_iff_not]
    intro h2
    exact h (by rw [h2]; simp)
end Go.Proofs.Ytblneonbilbaiaa.Same
