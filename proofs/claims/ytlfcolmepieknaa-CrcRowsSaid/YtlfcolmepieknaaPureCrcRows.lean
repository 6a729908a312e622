/- The sum of many rows is that of all of them as one. No conditions. -/
import Derived.Test.YtlfcolmepieknaaPAx3
import Derived.Test.YtlfcolmepieknaaMath
import Derived.Test.YtlfcolmepieknaaAid
namespace Go.Proofs.Ytlfcolmepieknaa.Pure
open Go.RowKit Go.Proofs.Ytlfcolmepieknaa.PA Go.Proofs.YtlfcolmepieknaaW.PrintWords Go.Proofs.YtlfcolmepieknaaW.PrintLast
open Go.Proofs.Ytlfcolmepieknaa.Mat Go.Proofs.YtlfcolmepieknaaAid

theorem rows_l0 (l : List (List Int)) (hl : l.length ≤ maxLen) (hr : ∀ r ∈ l, r.length ≤ 140737488351232) : ∀ (d i : Nat) (all : List Int), i + d = l.length → all = (l.take i).flatten → all.length ≤ 4000 →
    (0 < i → l.length ≤ 4000) → Ev (fun k => rubricatorlaw2_CrcRows.l0 k l all (i : Int)) true := by
  intro d
  induction d with
  | zero =>
    intro i all hi ha h4 hn
    have e1 : l.take i = l := List.take_of_length_le (by omega)
    rw [e1] at ha
    have hn' : l.length ≤ 4000 := by
      rcases Nat.eq_zero_or_pos i with h | h
      · omega
      · exact hn h
    refine ev_succ ?_
    simp only [rubricatorlaw2_CrcRows.l0]
    refine ev_else (by omega) ?_
    refine Ev.bind (Sum_ev l (by omega) (fun r h => by have := hr r h; omega)) ?_
    refine Ev.bind (Sum_ev [all] (by simp) (by intro q hq; simp at hq; subst hq; omega)) (ev_if ?_ ?_)
    · rw [crcs_flat, crcs_flat, ha]
      simp
    refine Ev.bind (Sum_ev [] (by simp) (by simp)) (ev_if ?_ (Ev.bind known_ev (Ev.now _)))
    decide
  | succ d ih =>
    intro i all hi ha h4 hn
    have hlt : i < l.length := by omega
    have hlm : l.length ≤ 9223372036854775807 := hl
    have hrow : (rd_L1 l (i : Int)).length ≤ 140737488351232 := by
      refine hr _ ?_
      have : rd_L1 l (i : Int) ∈ l.drop i := by rw [rd_at l i hlt]; exact List.mem_cons_self
      exact List.mem_of_mem_drop this
    refine ev_succ ?_
    simp only [rubricatorlaw2_CrcRows.l0]
    refine ev_if (by omega) (ev_if (by omega) ?_)
    rw [w64_add (by omega) (by omega)]
    by_cases h1 : (all.length : Int) + ((rd_L1 l (i : Int)).length : Int) > 4000
    · exact ev_if h1 (Ev.now _)
    refine ev_else h1 ?_
    by_cases h2 : (l.length : Int) > 4000
    · exact ev_if h2 (Ev.now _)
    refine ev_else h2 (ev_if (by omega) ?_)
    have ew : wrap64 ((i : Int) + 1) = ((i + 1 : Nat) : Int) := by rw [w64 (by omega) (by omega)]; rfl
    rw [ew]
    refine ih (i + 1) _ (by omega) ?_ ?_ (by omega)
    · have e2 : l.take (i + 1) = l.take i ++ [rd_L1 l (i : Int)] := by
        rw [List.take_succ_eq_append_getElem hlt]
        simp [rd_L1, List.getD_eq_getElem?_getD, List.getElem?_eq_getElem hlt]
      rw [e2, List.flatten_append, ha]
      simp
    · rw [List.length_append]
      omega
theorem CrcRows : rubricatorlaw2_CrcRows.Pure := by
  intro l hw
  refine Ev.rounds (r := true) ?_
  unfold rubricatorlaw2_CrcRows.f
  exact rows_l0 l hw.1 (fun r h => by have := (hw.2.2 r h).2.1; omega) l.length 0 [] (by omega) rfl (by simp) (by omega)
end Go.Proofs.Ytlfcolmepieknaa.Pure
