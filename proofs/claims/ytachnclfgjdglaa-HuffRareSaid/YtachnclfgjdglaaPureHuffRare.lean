/- What comes more often has no longer code than what comes more rarely. No conditions. -/
import Derived.Test.YtachnclfgjdglaaPAx5
import Derived.Test.YtachnclfgjdglaaMayP
namespace Go.Proofs.Ytachnclfgjdglaa.Pure
open Go.RowKit Go.Proofs.Ytachnclfgjdglaa.PA Go.Proofs.YtachnclfgjdglaaW.PrintWords Go.Proofs.YtachnclfgjdglaaW.PrintLast Go.Proofs.YtachnclfgjdglaaW.PrintMore Go.Proofs.YtachnclfgjdglaaAid Go.Proofs.Ytachnclfgjdglaa.Coin Go.Proofs.Ytachnclfgjdglaa.Known Go.Proofs.Ytachnclfgjdglaa.Next Go.Proofs.Ytachnclfgjdglaa.Pack
set_option linter.unusedVariables false
set_option linter.unusedSimpArgs false

theorem rare_l1 (o L : List Int) (hn : o.length ≤ 320) (hL : L.length = o.length) (i : Nat) (hi : i < o.length) (hr : ∀ y : Nat, y < o.length → o.getD y 0 < o.getD i 0 → 0 < o.getD y 0 → L.getD i 0 ≤ L.getD y 0)
    (hR : Ev (fun n => rubricatorlaw3_HuffRare.l0 n o L ((i + 1 : Nat) : Int)) true) : ∀ (e k : Nat), o.length = k + e → Ev (fun n => rubricatorlaw3_HuffRare.l1 n o L (i : Int) (k : Int)) true := by
  intro e
  induction e with
  | zero =>
    intro k hk
    refine ev_succ ?_
    simp only [rubricatorlaw3_HuffRare.l1]
    refine ev_else (by omega) ?_
    rw [show wrap64 ((i : Int) + 1) = ((i + 1 : Nat) : Int) by unfold wrap64; omega]
    exact hR
  | succ e ih =>
    intro k hk
    have hnx := ih (k + 1) (by omega)
    refine ev_succ ?_
    simp only [rubricatorlaw3_HuffRare.l1]
    rw [show wrap64 ((k : Int) + 1) = ((k + 1 : Nat) : Int) by unfold wrap64; omega]
    refine ev_if (by omega) (ev_if (by omega) (ev_if (by omega) (ev_if (by omega) (ev_if (by omega) ?_))))
    by_cases h1 : rd o (i : Int) > rd o (k : Int)
    · refine ev_if h1 ?_
      by_cases h2 : rd o (k : Int) > 0
      · have h3 : rd L (i : Int) ≤ rd L (k : Int) := hr k (by omega) h1 h2
        exact ev_if h2 (ev_if (by omega) (ev_else (by omega) hnx))
      · exact ev_else h2 hnx
    · exact ev_else h1 hnx
theorem rare_l0 (o L : List Int) (hn : o.length ≤ 320) (hL : L.length = o.length) (hr : ∀ x y : Nat, x < o.length → y < o.length → o.getD y 0 < o.getD x 0 → 0 < o.getD y 0 → L.getD x 0 ≤ L.getD y 0) : ∀ (e i : Nat), o.length = i + e → Ev (fun n => rubricatorlaw3_HuffRare.l0 n o L (i : Int)) true := by
  intro e
  induction e with
  | zero =>
    intro i hi
    refine ev_succ ?_
    simp only [rubricatorlaw3_HuffRare.l0]
    exact ev_else (by omega) (kn _ fun _ => rfl)
  | succ e ih =>
    intro i hi
    refine ev_succ ?_
    simp only [rubricatorlaw3_HuffRare.l0]
    exact ev_if (by omega) (rare_l1 o L hn hL i (by omega) (fun y hy => hr i y (by omega) hy) (ih (i + 1) (by omega)) o.length 0 (by omega))
theorem HuffRare : rubricatorlaw3_HuffRare.Pure := by
  intro o most _ _ _ _
  refine Ev.rounds (?_ : Ev (fun k => rubricatorlaw3_HuffRare.f k o most) true)
  unfold rubricatorlaw3_HuffRare.f
  have skip : Ev (fun k => rubricatorlaw3_HuffRare.j0 k o most true) true := by
    refine ev_succ ?_
    simp only [rubricatorlaw3_HuffRare.j0]
    exact ev_if (by first | rfl | trivial) (ev_val rfl)
  by_cases h0 : (o.length : Int) > 320
  · exact ev_if h0 skip
  refine ev_else h0 ?_
  by_cases hm : May o most
  · refine Ev.bind (may_ev o most true ⟨fun _ => hm, fun _ => rfl⟩) ?_
    refine ev_succ ?_
    simp only [rubricatorlaw3_HuffRare.j0]
    refine ev_else (by simp) (Ev.bind (ev_const (own_ev o (by omega))) ?_)
    obtain ⟨S, L, hs, hm2, hl, M⟩ := lensF_may o most hm
    refine Ev.bind (ev_const (show huff_Lengths.f o most = some (L, 0) from hl)) ?_
    refine ev_if rfl ?_
    have hne : ((L.length : Int) != (o.length : Int)) = false := by rw [M.len]; simp
    show Ev (fun k => rubricatorlaw3_HuffRare.j1 k o L ((L.length : Int) != (o.length : Int))) true
    rw [hne]
    refine ev_succ ?_
    simp only [rubricatorlaw3_HuffRare.j1]
    exact ev_else (by simp) (rare_l0 o L (by omega) M.len M.rare o.length 0 (by omega))
  · refine Ev.bind (may_ev o most false ⟨fun h => (by cases h), fun h => absurd h hm⟩) ?_
    exact skip
end Go.Proofs.Ytachnclfgjdglaa.Pure
