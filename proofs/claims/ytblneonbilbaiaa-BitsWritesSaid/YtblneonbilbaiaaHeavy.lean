/- Of acts that are not too heavy the rows are short. No conditions. -/
import Derived.Test.YtblneonbilbaiaaPAx1
import Derived.Test.YtblneonbilbaiaaAid
namespace Go.Proofs.Ytblneonbilbaiaa.PA
open Go.RowKit Go.Proofs.YtblneonbilbaiaaW.PrintWords Go.Proofs.YtblneonbilbaiaaAid
set_option linter.unusedVariables false
theorem heavy_l0 (acts : List S38) (hl : acts.length ≤ 9000000000000000000) : ∀ (d i : Nat) (n : Int), 200 ≤ i + d → i ≤ acts.length → i ≤ 200 → 0 ≤ n → n ≤ 2000 →
    ∃ r, Ev (fun k => rubricatorlaw1_heavy.l0 k acts n (i : Int)) r ∧ (r = false → ∀ j : Nat, i ≤ j → j < acts.length → j < 200 → (rd_T38 acts (j : Int)).f3.length ≤ 2000 ∧ (rd_T38 acts (j : Int)).f4.length ≤ 2000) := by
  have j1f : ∀ n i, Ev (fun k => rubricatorlaw1_heavy.j1 k acts n i false) false := by
    intro n i
    refine ev_succ ?_
    simp only [rubricatorlaw1_heavy.j1]
    exact ev_else (by simp) (ev_val rfl)
  intro d
  induction d with
  | zero =>
    intro i n h1 h2 h3 h4 h5
    refine ⟨false, ev_succ ?_, fun _ j hj hj2 hj3 => by omega⟩
    simp only [rubricatorlaw1_heavy.l0]
    by_cases h : (i : Int) < (acts.length : Int)
    · refine ev_if h ?_
      rw [decide_eq_false (by omega)]
      exact j1f _ _
    · exact ev_else h (j1f _ _)
  | succ d ih =>
    intro i n h1 h2 h3 h4 h5
    by_cases h : (i : Int) < (acts.length : Int)
    · by_cases h200 : i = 200
      · refine ⟨false, ev_succ ?_, fun _ j hj hj2 hj3 => by omega⟩
        simp only [rubricatorlaw1_heavy.l0]
        refine ev_if h ?_
        rw [decide_eq_false (by omega)]
        exact j1f _ _
      · have start : ∀ r, Ev (fun k => if (((rd_T38 acts (i : Int)).f3).length : Int) > 2000 then (rubricatorlaw1_heavy.j2 k acts n (i : Int) true) else (rubricatorlaw1_heavy.j2 k acts n (i : Int) (decide ((((rd_T38 acts (i : Int)).f4).length : Int) > 2000)))) r → Ev (fun k => rubricatorlaw1_heavy.l0 k acts n (i : Int)) r := by
          intro r hr
          refine ev_succ ?_
          simp only [rubricatorlaw1_heavy.l0]
          refine ev_if h (ev_succ ?_)
          rw [decide_eq_true (by omega)]
          simp only [rubricatorlaw1_heavy.j1]
          exact ev_if trivial (ev_if (by omega) (ev_if h hr))
        have j2t : Ev (fun k => rubricatorlaw1_heavy.j2 k acts n (i : Int) true) true := by
          refine ev_succ ?_
          simp only [rubricatorlaw1_heavy.j2]
          exact ev_if trivial (ev_val rfl)
        by_cases h3k : (((rd_T38 acts (i : Int)).f3).length : Int) > 2000
        · exact ⟨true, start _ (ev_if h3k j2t), fun e => absurd e (by simp)⟩
        by_cases h4k : (((rd_T38 acts (i : Int)).f4).length : Int) > 2000
        · refine ⟨true, start _ (ev_else h3k ?_), fun e => absurd e (by simp)⟩
          rw [decide_eq_true h4k]
          exact j2t
        have w1 : wrap64 (n + 4) = n + 4 := by unfold wrap64; omega
        have w2 : wrap64 (n + 4 + (((rd_T38 acts (i : Int)).f3).length : Int)) = n + 4 + (((rd_T38 acts (i : Int)).f3).length : Int) := by unfold wrap64; omega
        have w3 : wrap64 (n + 4 + (((rd_T38 acts (i : Int)).f3).length : Int) + (((rd_T38 acts (i : Int)).f4).length : Int)) = n + 4 + (((rd_T38 acts (i : Int)).f3).length : Int) + (((rd_T38 acts (i : Int)).f4).length : Int) := by unfold wrap64; omega
        have w4 : wrap64 ((i : Int) + 1) = ((i + 1 : Nat) : Int) := by unfold wrap64; omega
        obtain ⟨s, hs⟩ : ∃ s : Int, s = n + 4 + (((rd_T38 acts (i : Int)).f3).length : Int) + (((rd_T38 acts (i : Int)).f4).length : Int) := ⟨_, rfl⟩
        have j2f : ∀ r, Ev (fun k => if s > 2000 then some true else rubricatorlaw1_heavy.l0 k acts s ((i + 1 : Nat) : Int)) r → Ev (fun k => rubricatorlaw1_heavy.j2 k acts n (i : Int) false) r := by
          intro r hr
          refine ev_succ ?_
          simp only [rubricatorlaw1_heavy.j2]
          refine ev_else (by simp) (ev_if (by omega) (ev_if h ?_))
          rw [w1, w2, w3, w4, ← hs]
          exact hr
        by_cases hs2 : s > 2000
        · refine ⟨true, start _ (ev_else h3k ?_), fun e => absurd e (by simp)⟩
          rw [decide_eq_false h4k]
          exact j2f _ (ev_if hs2 (ev_val rfl))
        · obtain ⟨r, hr, hR⟩ := ih (i + 1) s (by omega) (by omega) (by omega) (by omega) (by omega)
          refine ⟨r, start _ (ev_else h3k ?_), fun e j hj hj2 hj3 => ?_⟩
          · rw [decide_eq_false h4k]
            exact j2f _ (ev_else hs2 hr)
          · by_cases hji : j = i
            · subst hji
              omega
            · exact hR e j (by omega) hj2 hj3
    · refine ⟨false, ev_succ ?_, fun _ j hj hj2 hj3 => by omega⟩
      simp only [rubricatorlaw1_heavy.l0]
      exact ev_else h (j1f _ _)
theorem heavy_ev (acts : List S38) (hl : acts.length ≤ 9000000000000000000) : ∃ k r, rubricatorlaw1_heavy.f k acts = some r ∧ (r = false → ∀ j : Nat, j < acts.length → j < 200 → (rd_T38 acts (j : Int)).f3.length ≤ 2000 ∧ (rd_T38 acts (j : Int)).f4.length ≤ 2000) := by
  obtain ⟨r, h, hR⟩ := heavy_l0 acts hl 200 0 0 (by omega) (by omega) (by omega) (by omega) (by omega)
  obtain ⟨k, hk⟩ := h.rounds
  exact ⟨k, r, hk, fun e j h1 h2 => hR e j (Nat.zero_le _) h1 h2⟩
end Go.Proofs.Ytblneonbilbaiaa.PA
