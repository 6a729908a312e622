/- So many steps up lead so far, one more leads nowhere. No conditions. -/
import Derived.Test.YtdooaaefldjinaaDoorPAx5
import Derived.Test.YtdooaaefldjinaaDoorRes
namespace Go.Proofs.YtdooaaefldjinaaDoor.Pure
open Go.RowKit Go.Proofs.YtdooaaefldjinaaDoor.PA Go.Proofs.YtdooaaefldjinaaDoorW.PrintWords Go.Proofs.YtdooaaefldjinaaDoorW.PrintLast Go.Proofs.YtdooaaefldjinaaDoorAid Go.Proofs.YtdooaaefldjinaaDoor.Pcs
set_option linter.unusedVariables false
def ds : Nat → List UInt8
  | 0 => []
  | n + 1 => ds n ++ [47, 100]
def us : Nat → List UInt8
  | 0 => []
  | n + 1 => us n ++ [46, 46, 47]
theorem up_all : ∀ d : Fin 31, ∀ u : Fin 41, resV (ds d.val ++ [47, 112]) (us u.val ++ [113, 46, 120, 109, 108]) = if d.val < u.val then ([], false) else (ds (d.val - u.val) ++ [47, 113, 46, 120, 109, 108], true) := by decide +kernel
theorem ds_len : ∀ n, (ds n).length = 2 * n
  | 0 => rfl
  | n + 1 => by rw [ds, List.length_append, ds_len n]; rfl
theorem us_len : ∀ n, (us n).length = 3 * n
  | 0 => rfl
  | n + 1 => by rw [us, List.length_append, us_len n]; rfl
theorem kn (g : Nat → Option Bool) (h : ∀ k, g k = (rubricatorlaw12_known.f k).bind fun t => some t) : Ev g true := Ev.congr h (Ev.bind known_ev (ev_val rfl))
theorem up_l1 (D U : Nat) (hD : D ≤ 30) (hU : U ≤ 40) : ∀ (e j : Nat), U ≤ j + e → j ≤ U → Ev (fun k => rubricatorlaw12_PartsUp.l1 k (D : Int) (U : Int) (ba (ds D ++ [47, 112])) (ba (ds (D - U))) (ba (us j)) (j : Int)) true := by
  have last : Ev (fun k => rubricatorlaw12_PartsUp.l1 k (D : Int) (U : Int) (ba (ds D ++ [47, 112])) (ba (ds (D - U))) (ba (us U)) (U : Int)) true := by
    refine ev_succ ?_
    simp only [rubricatorlaw12_PartsUp.l1]
    refine ev_else (by omega) (ev_if (by rw [ba_size, us_len]; omega) ?_)
    have e : ba (us U) ++ (⟨#[113, 46, 120, 109, 108]⟩ : ByteArray) = ba (us U ++ [113, 46, 120, 109, 108]) := ba_app _ _
    rw [e]
    have h := res_ev (ba (ds D ++ [47, 112])) (ba (us U ++ [113, 46, 120, 109, 108])) (by rw [ba_size, ba_size, List.length_append, List.length_append, ds_len, us_len]; simp; omega)
    rw [data_ba, data_ba] at h
    have hu := up_all ⟨D, by omega⟩ ⟨U, by omega⟩
    simp only at hu
    rw [hu] at h
    refine Ev.bind h ?_
    by_cases hlt : D < U
    · rw [if_pos hlt]
      refine ev_if (by omega) (ev_else (by simp [bp]) (ev_if ?_ (kn _ fun _ => rfl)))
      rw [toList_ba]
      rfl
    · rw [if_neg hlt]
      refine ev_else (by omega) (ev_if rfl (ev_if (by rw [ba_size, ds_len]; omega) (ev_if ?_ (kn _ fun _ => rfl))))
      rw [toList_ba, toList_ba]
      have e2 : ba (ds (D - U)) ++ (⟨#[47, 113, 46, 120, 109, 108]⟩ : ByteArray) = ba (ds (D - U) ++ [47, 113, 46, 120, 109, 108]) := ba_app _ _
      rw [e2]
      rfl
  intro e
  induction e with
  | zero =>
    intro j h1 h2
    obtain rfl : j = U := by omega
    exact last
  | succ e ih =>
    intro j h1 h2
    by_cases h : j = U
    · subst h
      exact last
    · refine ev_succ ?_
      simp only [rubricatorlaw12_PartsUp.l1]
      refine ev_if (by omega) (ev_if (by rw [ba_size, us_len]; omega) ?_)
      have e1 : ba (us j) ++ (⟨#[46, 46, 47]⟩ : ByteArray) = ba (us (j + 1)) := ba_app _ _
      rw [e1, show wrap64 ((j : Int) + 1) = ((j + 1 : Nat) : Int) by unfold wrap64; omega]
      exact ih (j + 1) (by omega) (by omega)
theorem up_l0 (D U : Nat) (hD : D ≤ 30) (hU : U ≤ 40) : ∀ (e i : Nat), D ≤ i + e → i ≤ D → Ev (fun k => rubricatorlaw12_PartsUp.l0 k (D : Int) (U : Int) (ba (ds i)) (ba (ds (min i (D - U)))) (i : Int)) true := by
  have last : Ev (fun k => rubricatorlaw12_PartsUp.l0 k (D : Int) (U : Int) (ba (ds D)) (ba (ds (min D (D - U)))) (D : Int)) true := by
    refine ev_succ ?_
    simp only [rubricatorlaw12_PartsUp.l0]
    refine ev_else (by omega) (ev_if (by rw [ba_size, ds_len]; omega) ?_)
    have e : ba (ds D) ++ (⟨#[47, 112]⟩ : ByteArray) = ba (ds D ++ [47, 112]) := ba_app _ _
    rw [e, Nat.min_eq_right (by omega)]
    exact up_l1 D U hD hU U 0 (by omega) (Nat.zero_le _)
  intro e
  induction e with
  | zero =>
    intro i h1 h2
    obtain rfl : i = D := by omega
    exact last
  | succ e ih =>
    intro i h1 h2
    by_cases h : i = D
    · subst h
      exact last
    · refine ev_succ ?_
      simp only [rubricatorlaw12_PartsUp.l0]
      have e1 : ba (ds i) ++ (⟨#[47, 100]⟩ : ByteArray) = ba (ds (i + 1)) := ba_app _ _
      have ew : wrap64 ((i : Int) + 1) = ((i + 1 : Nat) : Int) := by unfold wrap64; omega
      have ed : wrap64 ((D : Int) - (U : Int)) = (D : Int) - (U : Int) := by unfold wrap64; omega
      refine ev_if (by omega) (ev_if (by rw [ba_size, ds_len]; omega) ?_)
      rw [ed, ew, e1]
      have := ih (i + 1) (by omega) (by omega)
      by_cases hlt : i < D - U
      · refine ev_if (by omega) (ev_if (by rw [ba_size, ds_len]; omega) ?_)
        have e2 : ba (ds (min i (D - U))) ++ (⟨#[47, 100]⟩ : ByteArray) = ba (ds (min (i + 1) (D - U))) := by
          rw [Nat.min_eq_left (by omega), Nat.min_eq_left (by omega)]
          exact ba_app _ _
        rw [e2]
        exact this
      · refine ev_else (by omega) ?_
        rw [show min i (D - U) = min (i + 1) (D - U) by omega]
        exact this
theorem PartsUp : rubricatorlaw12_PartsUp.Pure := by
  intro a0 a1 _ _
  refine Ev.rounds ?_
  have out : Ev (fun k => rubricatorlaw12_PartsUp.j0 k a0 a1 true) true := by
    refine ev_succ ?_
    simp only [rubricatorlaw12_PartsUp.j0]
    exact ev_if trivial (kn _ fun _ => rfl)
  unfold rubricatorlaw12_PartsUp.f
  by_cases h1 : a0 < 0
  · exact ev_if h1 out
  refine ev_else h1 ?_
  by_cases h2 : a0 > 30
  · exact ev_if h2 out
  refine ev_else h2 ?_
  by_cases h3 : a1 < 0
  · exact ev_if h3 out
  refine ev_else h3 ?_
  by_cases h4 : a1 > 40
  · rw [decide_eq_true h4]
    exact out
  rw [decide_eq_false h4]
  obtain ⟨D, rfl⟩ := Int.eq_ofNat_of_zero_le (show 0 ≤ a0 by omega)
  obtain ⟨U, rfl⟩ := Int.eq_ofNat_of_zero_le (show 0 ≤ a1 by omega)
  refine ev_succ ?_
  simp only [rubricatorlaw12_PartsUp.j0]
  refine ev_else (by simp) ?_
  have := up_l0 D U (by omega) (by omega) D 0 (by omega) (Nat.zero_le _)
  rw [Nat.zero_min] at this
  exact this
end Go.Proofs.YtdooaaefldjinaaDoor.Pure
