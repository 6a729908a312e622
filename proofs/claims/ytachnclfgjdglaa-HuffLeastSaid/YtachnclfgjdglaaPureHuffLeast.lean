/- Lengths for any counts: none longer than may be, just full, and no others cost less - or refused. No conditions. -/
import Derived.Test.YtachnclfgjdglaaPAx1
import Derived.Test.YtachnclfgjdglaaPAx2
import Derived.Test.YtachnclfgjdglaaPAx5
import Derived.Test.YtachnclfgjdglaaPAx6
import Derived.Test.YtachnclfgjdglaaLeastP
import Derived.Test.YtachnclfgjdglaaFillP
namespace Go.Proofs.Ytachnclfgjdglaa.Pure
open Go.RowKit Go.Proofs.Ytachnclfgjdglaa.PA Go.Proofs.YtachnclfgjdglaaW.PrintWords Go.Proofs.YtachnclfgjdglaaW.PrintLast Go.Proofs.YtachnclfgjdglaaW.PrintMore Go.Proofs.YtachnclfgjdglaaAid Go.Proofs.Ytachnclfgjdglaa.Coin Go.Proofs.Ytachnclfgjdglaa.Known Go.Proofs.Ytachnclfgjdglaa.Next Go.Proofs.Ytachnclfgjdglaa.Pack
set_option linter.unusedVariables false
set_option linter.unusedSimpArgs false

theorem least_go (o : List Int) (most : Int) (S : List It) (L : List Int) (hS : sgl o o.length = some S) (hm : S.length ≤ 2 ^ most.toNat) (M : Made o most S L) (hn : o.length ≤ 320) (h1 : 1 ≤ most) (h2 : most ≤ 15) : ∀ (e i : Nat) (T : List It), o.length = i + e → sgl o i = some T →
    Ev (fun k => rubricatorlaw3_HuffLeast.l0 k o most L (T.length : Int) (i : Int)) true := by
  have hr := (sgl_sg o.length S hS).range
  have hL := M.len
  intro e
  induction e with
  | zero =>
    intro i T hi hs
    obtain rfl : i = o.length := by omega
    rw [hS] at hs
    obtain rfl := Option.some.inj hs
    have hf := (made_fill M o.length S (Nat.le_refl _) hS).1
    rw [M.sum] at hf
    have hfe := fill_ev L (made_isL M hn h1 h2 hr)
    rw [hL, hf] at hfe
    have hc := (made_cost M hn h2 o.length S (Nat.le_refl _) hS).1
    rw [M.cost] at hc
    have hce : huff_Cost.f o L = some (leastP S most) := by
      unfold huff_Cost.f
      rw [if_pos (by omega), hL, Nat.min_self, hc]
      rfl
    have tail : Ev (fun k => (huff_Cost.f o L).bind fun t307 => ((rubricatorref3_Least.f k o most).bind fun t308 => (if t307 = t308 then ((rubricatorlaw3_known.f k).bind fun t309 => (some t309)) else (some false)))) true :=
      Ev.bind (ev_const hce) (Ev.bind (least_ev o most hn h1 h2 S hS hm) (ev_if rfl (kn _ fun _ => rfl)))
    refine ev_succ ?_
    simp only [rubricatorlaw3_HuffLeast.l0]
    refine ev_else (by omega) (Ev.bind hfe ?_)
    by_cases c1 : S.length = 1
    · refine ev_if (by omega) (Ev.bind hfe (ev_else (by omega) (ev_if ?_ tail)))
      rw [if_neg (by omega), if_pos c1]
    · refine ev_else (by omega) ?_
      by_cases c0 : S.length = 0
      · exact ev_if (by omega) tail
      · refine ev_else (by omega) (ev_if ?_ tail)
        rw [if_neg c0, if_neg c1]
  | succ e ih =>
    intro i T hi hs
    have hil : i < o.length := by omega
    have hw : wrap64 ((i : Int) + 1) = ((i + 1 : Nat) : Int) := by unfold wrap64; omega
    have hTl : T.length ≤ i := (sgl_inv i T hs).2
    have hstep := sgl_step hs
    have hri := hr i hil
    rw [if_neg (by omega)] at hstep
    have ha : 0 ≤ rd L (i : Int) ∧ rd L (i : Int) ≤ most ∧ (rd L (i : Int) = 0 ↔ rd o (i : Int) = 0) := made_at M h1 hr i hil
    have hj : Ev (fun k => rubricatorlaw3_HuffLeast.j2 k o most L (T.length : Int) (i : Int) false) true := by
      refine ev_succ ?_
      simp only [rubricatorlaw3_HuffLeast.j2]
      rw [hw]
      refine ev_else (by simp) (ev_if (by omega) (ev_if (by omega) ?_))
      have hri' : 0 ≤ rd o (i : Int) := hri.1
      by_cases hp : rd L (i : Int) > 0
      · have hp' : o.getD i 0 > 0 := by
          show rd o (i : Int) > 0
          omega
        rw [if_pos hp'] at hstep
        have := ih (i + 1) _ (by omega) hstep
        rw [List.length_append, List.length_singleton] at this
        rw [show wrap64 ((T.length : Int) + 1) = ((T.length + 1 : Nat) : Int) by unfold wrap64; omega]
        exact ev_if hp this
      · have hp' : ¬ o.getD i 0 > 0 := by
          show ¬ rd o (i : Int) > 0
          omega
        rw [if_neg hp'] at hstep
        exact ev_else hp (ih (i + 1) _ (by omega) hstep)
    refine ev_succ ?_
    simp only [rubricatorlaw3_HuffLeast.l0]
    refine ev_if (by omega) (ev_if (by omega) (ev_if (by omega) (ev_else ?_ (ev_else (by omega) ?_))))
    · have : (rd L (i : Int) == 0) = (rd o (i : Int) == 0) := by
        rw [Bool.eq_iff_iff, beq_iff_eq, beq_iff_eq]
        exact ha.2.2
      rw [this]
      simp
    · rw [decide_eq_false (by omega)]
      exact hj
theorem HuffLeast : rubricatorlaw3_HuffLeast.Pure := by
  intro o most _ _ _ _
  refine Ev.rounds (?_ : Ev (fun k => rubricatorlaw3_HuffLeast.f k o most) true)
  unfold rubricatorlaw3_HuffLeast.f
  by_cases h0 : (o.length : Int) > 400
  · exact ev_if h0 (ev_val rfl)
  refine ev_else h0 (Ev.bind (ev_const (own_ev o (by omega))) ?_)
  by_cases hM : May o most
  · obtain ⟨S, L, hs, hm, hl, M⟩ := lensF_may o most hM
    refine Ev.bind (ev_const (show huff_Lengths.f o most = some (L, 0) from hl)) (Ev.bind (may_ev o most true ⟨fun _ => hM, fun _ => rfl⟩) (ev_if rfl (ev_if rfl (ev_if (by show (L.length : Int) = _; rw [M.len]) (Ev.bind (ints_ev o (by omega)) ?_)))))
    refine ev_succ ?_
    simp only [rubricatorlaw3_HuffLeast.j0]
    exact ev_else (by simp) (least_go o most S L hs hm M hM.1 hM.2.1 hM.2.2.1 o.length 0 [] (by omega) rfl)
  · refine Ev.bind (ev_const (show huff_Lengths.f o most = some ([], 1) from lensF_not o most hM)) (Ev.bind (may_ev o most false ⟨fun h => (by cases h), fun h => absurd h hM⟩) (ev_else (by simp) (ev_if rfl (ev_if rfl (kn _ fun _ => rfl)))))
end Go.Proofs.Ytachnclfgjdglaa.Pure
