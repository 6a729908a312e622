/- A name, as a target, leads to itself, from wherever it is seen. No conditions. -/
import Derived.Test.YtdooaaefldjinaaDoorPAx5
import Derived.Test.YtdooaaefldjinaaDoorRes
namespace Go.Proofs.YtdooaaefldjinaaDoor.Pure
open Go.RowKit Go.Proofs.YtdooaaefldjinaaDoor.PA Go.Proofs.YtdooaaefldjinaaDoorW.PrintWords Go.Proofs.YtdooaaefldjinaaDoorW.PrintLast Go.Proofs.YtdooaaefldjinaaDoorAid Go.Proofs.YtdooaaefldjinaaDoor.Pcs
set_option linter.unusedVariables false
theorem kn_ (g : Nat → Option Bool) (h : ∀ k, g k = (rubricatorlaw12_known.f k).bind fun t => some t) : Ev g true := Ev.congr h (Ev.bind known_ev (ev_val rfl))
theorem join_cons_ (x y : List UInt8) (r : List (List UInt8)) : Lib.join (x :: y :: r) [47] = x ++ 47 :: Lib.join (y :: r) [47] := by simp [Lib.join, List.intercalate]
theorem pcsF_ne (t cur : List UInt8) : pcsF cur t ≠ [] := fun h => by
  have := (pcsF_length t cur).2
  rw [h] at this
  simp at this
/-- Pieces, joined, are what was cut. -/
theorem join_pcsF : ∀ (t cur : List UInt8), Lib.join (pcsF cur t) [47] = cur ++ t
  | [], cur => by rw [pcsF, Lib.join_one, List.append_nil]
  | b :: t, cur => by
    rw [pcsF]
    split
    · rename_i h
      subst h
      have ih := join_pcsF t []
      obtain ⟨y, r, hyr⟩ : ∃ y r, pcsF [] t = y :: r := by
        cases hh : pcsF [] t with
        | nil => exact absurd hh (pcsF_ne t [])
        | cons y r => exact ⟨y, r, rfl⟩
      rw [hyr] at ih ⊢
      rw [join_cons_, ih, List.nil_append]
    · rw [join_pcsF t (cur ++ [b]), List.append_assoc, List.singleton_append]
theorem run_good : ∀ (ps st : List (List UInt8)), ps.all Pcs.gd = true → run st ps = some (st ++ ps)
  | [], st, _ => by rw [run, List.append_nil]
  | p :: r, st, h => by
    rw [List.all_cons, Bool.and_eq_true] at h
    have hg : p ≠ [] ∧ p.getLast? ≠ some 46 := by
      have := h.1
      unfold Pcs.gd at this
      exact of_decide_eq_true this
    rw [run, if_neg (fun e => hg.2 (by rw [e]; rfl)), if_neg (fun e => hg.2 (by rw [e]; rfl)), run_good r _ h.2, List.append_assoc, List.singleton_append]
theorem abs_res (fr nm : List UInt8) (h : isN nm = true) (hf : ¬ (fr ≠ [] ∧ isN fr = false)) : resV fr nm = (nm, true) := by
  have h0 := h
  unfold isN at h0
  rw [Bool.and_eq_true, Bool.and_eq_true] at h0
  obtain ⟨h1, h2, h3⟩ := h0
  have h1' := of_decide_eq_true h1
  obtain ⟨a, b, c⟩ := h1'
  have hne : nm ≠ [] := fun e => by rw [e] at a; simp at a
  obtain ⟨x, t, hxt⟩ : ∃ x t, nm = x :: t := by
    cases hh : nm with
    | nil => exact absurd hh hne
    | cons x t => exact ⟨x, t, rfl⟩
  have hx : x = 47 := by rw [hxt] at c; exact Option.some.inj c
  subst hx
  unfold resV allL
  rw [if_neg hf, if_neg hne, if_pos c, run_good _ _ h2, List.nil_append]
  unfold fin
  have hn : nameOf (pcs (nm.drop 1)) = nm := by
    unfold nameOf pcs
    rw [join_pcsF, hxt]
    rfl
  simp only
  rw [hn, if_pos h]
theorem PartsAbsolute : rubricatorlaw12_PartsAbsolute.Pure := by
  intro a0 a1 h0 h1
  refine Ev.rounds ?_
  unfold rubricatorlaw12_PartsAbsolute.f
  have hw : wrap64 ((a0.size : Int) + (a1.size : Int)) = ((a0.size + a1.size : Nat) : Int) := by unfold wrap64; omega
  rw [hw]
  by_cases hb : ((a0.size + a1.size : Nat) : Int) > 1000
  · exact ev_if hb (ev_val rfl)
  refine ev_else hb (Ev.bind (res_ev a0 a1 (by omega)) (Ev.bind (ref_is_ev a1 (by omega)) ?_))
  have kno : ∀ b, Ev (fun k => rubricatorlaw12_PartsAbsolute.j0 k a1 (bp (resV a0.data.toList a1.data.toList)).1 b true) true := by
    intro b
    refine ev_succ ?_
    simp only [rubricatorlaw12_PartsAbsolute.j0]
    exact ev_if trivial (kn_ _ fun _ => rfl)
  cases hn : isN a1.data.toList with
  | false => exact ev_else (by simp) (kno _)
  | true =>
    have yes : ¬ (a0.data.toList ≠ [] ∧ isN a0.data.toList = false) → Ev (fun k => rubricatorlaw12_PartsAbsolute.j0 k a1 (bp (resV a0.data.toList a1.data.toList)).1 (bp (resV a0.data.toList a1.data.toList)).2 false) true := by
      intro hf
      rw [abs_res _ _ hn hf]
      refine ev_succ ?_
      simp only [rubricatorlaw12_PartsAbsolute.j0]
      refine ev_else (by simp) (ev_if rfl (ev_if ?_ (kn_ _ fun _ => rfl)))
      rw [toList_ba, toList_ba]
      rfl
    refine ev_if rfl ?_
    rw [toList_ba]
    by_cases ha : a0.data.toList = []
    · exact ev_if ha (yes (fun hh => hh.1 ha))
    · refine ev_else ha (Ev.bind (ref_is_ev a0 (by omega)) ?_)
      cases hn0 : isN a0.data.toList with
      | true => exact yes (fun hh => by rw [hn0] at hh; simp at hh)
      | false => exact kno _
end Go.Proofs.YtdooaaefldjinaaDoor.Pure
