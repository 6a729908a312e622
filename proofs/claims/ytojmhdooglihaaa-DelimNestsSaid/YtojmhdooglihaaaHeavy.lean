/- Whether there are more signs than are looked at: what it tells where it says no. No conditions. -/
import Derived.Test.YtojmhdooglihaaaPAx0
import Derived.Test.YtojmhdooglihaaaPAx3
import Derived.Test.YtojmhdooglihaaaTheory
namespace Go.Proofs.Ytojmhdooglihaaa.Theory
open Go.RowKit Go.Proofs.Ytojmhdooglihaaa.PA Go.Proofs.YtojmhdooglihaaaW.PrintWords Go.Proofs.YtojmhdooglihaaaW.PrintLast Go.Proofs.YtojmhdooglihaaaW.PrintMore
open Go.Proofs.YtojmhdooglihaaaAid
theorem w64i (i : Nat) (h : i < 9223372036854775807) : wrap64 ((i : Int) + 1) = ((i + 1 : Nat) : Int) := by unfold wrap64; omega
theorem heavy_l0 (l : List S27) (hl : l.length ≤ 5864062014805) : ∀ (d i : Nat) (c : Int), i + d = l.length → 0 ≤ c → c ≤ 201 * (i : Int) →
    ∃ b, Ev (fun k => rubricatorlaw20_heavy.l0 k l c (i : Int)) b ∧ (b = false → c + d ≤ 300 ∧ ∀ j : Nat, i ≤ j → j < l.length → (rd_T27 l (j : Int)).f1 ≤ 200) := by
  intro d
  induction d with
  | zero =>
    intro i c hi h0 h1
    refine ⟨decide (c > 300), ?_, fun h => ?_⟩
    · refine ev_succ ?_
      simp only [rubricatorlaw20_heavy.l0]
      exact ev_else (by omega) (Ev.now _)
    · have : ¬ c > 300 := by simpa using h
      exact ⟨by omega, fun j h2 h3 => by omega⟩
  | succ d ih =>
    intro i c hi h0 h1
    by_cases hc : (rd_T27 l (i : Int)).f1 > 200
    · refine ⟨true, ?_, fun h => by cases h⟩
      refine ev_succ ?_
      simp only [rubricatorlaw20_heavy.l0]
      exact ev_if (by omega) (ev_if (by omega) (ev_if hc (Ev.now _)))
    · have hm := mx_bd (rd_T27 l (i : Int)).f1 (by omega)
      have e1 : wrap64 (wrap64 (c + 1) + mx 0 (rd_T27 l (i : Int)).f1) = c + 1 + mx 0 (rd_T27 l (i : Int)).f1 := by unfold wrap64; omega
      obtain ⟨b, hb, ht⟩ := ih (i + 1) (c + 1 + mx 0 (rd_T27 l (i : Int)).f1) (by omega) (by omega) (by omega)
      refine ⟨b, ?_, fun h => ?_⟩
      · refine ev_succ ?_
        simp only [rubricatorlaw20_heavy.l0]
        refine ev_if (by omega) (ev_if (by omega) (ev_else hc ?_))
        rw [e1, w64i i (by omega)]
        exact hb
      · obtain ⟨h2, h3⟩ := ht h
        refine ⟨by omega, fun j h4 h5 => ?_⟩
        by_cases e : j = i
        · subst e; omega
        · exact h3 j (by omega) h5
theorem heavy_ev (l : List S27) (hl : l.length ≤ 5864062014805) :
    ∃ b, Ev (fun k => rubricatorlaw20_heavy.f k l) b ∧ (b = false → l.length ≤ 300 ∧ ∀ j : Nat, j < l.length → (rd_T27 l (j : Int)).f1 ≤ 200) := by
  obtain ⟨b, h1, h2⟩ := heavy_l0 l hl l.length 0 0 (by omega) (by omega) (by omega)
  exact ⟨b, h1, fun h => ⟨by have := (h2 h).1; omega, fun j hj => (h2 h).2 j (Nat.zero_le _) hj⟩⟩
theorem rd27_nat (l : List S27) (i : Nat) : rd_T27 l (i : Int) = l.getD i z27 := by simp [rd_T27]
theorem rd27_get (l : List S27) (i : Nat) (h : i < l.length) : rd_T27 l (i : Int) = l[i] := by rw [rd27_nat, List.getD_eq_getElem?_getD, List.getElem?_eq_getElem h]; rfl
theorem rd33_get (l : List S33) (i : Nat) (h : i < l.length) : rd_T33 l (i : Int) = l[i] := by simp [rd_T33, List.getD_eq_getElem?_getD, List.getElem?_eq_getElem h]
end Go.Proofs.Ytojmhdooglihaaa.Theory
