/- A sign of ASCII is no letter, no digit, no blank; all others between are. No conditions. -/
import Derived.Test.YtpelpbhllojaiaaPAx3
import Derived.Test.YtpelpbhllojaiaaMath
namespace Go.Proofs.Ytpelpbhllojaiaa.Pure
open Go.RowKit Go.Proofs.Ytpelpbhllojaiaa.PA Go.Proofs.YtpelpbhllojaiaaW.PrintWords Go.Proofs.YtpelpbhllojaiaaW.PrintLast
open Go.Proofs.Ytpelpbhllojaiaa.Mat Go.Proofs.YtpelpbhllojaiaaAid

def letterP (c : Int) : Prop := (97 ≤ c ∧ c ≤ 122) ∨ (65 ≤ c ∧ c ≤ 90) ∨ (48 ≤ c ∧ c ≤ 57)
instance (c : Int) : Decidable (letterP c) := by unfold letterP; infer_instance
theorem signs_j0 (c : Int) (hc : 0 ≤ c ∧ c ≤ 255) (v : Bool) (hv : v = decide (letterP c)) : Ev (fun k => rubricatorlaw8_ClassSigns.j0 k c v) true := by
  have last : Ev (fun k => (rubricatorlaw8_known.f k).bind fun t => some t) true := Ev.bind known_ev (Ev.now _)
  have ew : wrap32 c = c := by unfold wrap32; omega
  have tail : Ev (fun k => if c ≥ 128 then ((rubricatorlaw8_known.f k).bind fun t => some t) else ((class_Punct.f k (wrap32 (c))).bind fun t1 => ((class_Sign.f k c).bind fun t2 => (if (t1 == t2) = true then ((rubricatorlaw8_known.f k).bind fun t => some t) else (some false))))) true := by
    by_cases h : c ≥ 128
    · exact ev_if h last
    · rw [ew]
      refine ev_else h (Ev.bind (Punct_ev c (by omega)) (Ev.bind (Sign_ev c hc) (ev_if ?_ last)))
      rw [beq_iff_eq, decide_eq_decide]
      unfold punctP signP
      omega
  refine ev_succ ?_
  simp only [rubricatorlaw8_ClassSigns.j0]
  refine Ev.bind (Sign_ev c hc) ?_
  by_cases h1 : c > 32
  · refine ev_if h1 ?_
    by_cases h2 : c < 127
    · refine ev_if h2 (ev_if ?_ tail)
      rw [beq_iff_eq, hv, ← decide_not, decide_eq_decide]
      unfold signP letterP
      omega
    · refine ev_else h2 (ev_if ?_ tail)
      rw [beq_iff_eq, decide_eq_false_iff_not]
      unfold signP
      omega
  · refine ev_else h1 (ev_if ?_ tail)
    rw [beq_iff_eq, decide_eq_false_iff_not]
    unfold signP
    omega
theorem ClassSigns : rubricatorlaw8_ClassSigns.Pure := by
  intro c hc
  have hc' := wf_u8 hc
  refine Ev.rounds (r := true) ?_
  have yes : letterP c → Ev (fun k => rubricatorlaw8_ClassSigns.j0 k c true) true := fun h => signs_j0 c hc' true (decide_eq_true h).symm
  have no : ¬ letterP c → Ev (fun k => rubricatorlaw8_ClassSigns.j0 k c false) true := fun h => signs_j0 c hc' false (decide_eq_false h).symm
  have digit : c ≥ 48 → (letterP c ↔ c ≤ 57) → Ev (fun k => rubricatorlaw8_ClassSigns.j0 k c (decide (c ≤ 57))) true := fun _ h2 => signs_j0 c hc' _ (by rw [decide_eq_decide]; exact h2.symm)
  unfold rubricatorlaw8_ClassSigns.f
  by_cases a1 : c ≥ 97
  · refine ev_if a1 ?_
    by_cases a2 : c ≤ 122
    · exact ev_if a2 (yes (by unfold letterP; omega))
    · refine ev_else a2 (ev_if (by omega) (ev_else (by omega) (ev_if (by omega) (digit (by omega) ?_))))
      unfold letterP
      omega
  · refine ev_else a1 ?_
    by_cases b1 : c ≥ 65
    · refine ev_if b1 ?_
      by_cases b2 : c ≤ 90
      · exact ev_if b2 (yes (by unfold letterP; omega))
      · refine ev_else b2 (ev_if (by omega) (digit (by omega) ?_))
        unfold letterP
        omega
    · refine ev_else b1 ?_
      by_cases d1 : c ≥ 48
      · refine ev_if d1 (digit d1 ?_)
        unfold letterP
        omega
      · exact ev_else d1 (no (by unfold letterP; omega))
end Go.Proofs.Ytpelpbhllojaiaa.Pure
