-- Printed by a program of this workplace (a turned printer): functions, and proofs that the calls come to them.
import Derived.Test.YtojmhdooglihaaaPAx0
import Derived.Test.YtojmhdooglihaaaPAx3
import Derived.Test.YtojmhdooglihaaaPAx4
import Derived.Test.YtojmhdooglihaaaPAx7
namespace Go.Proofs.Ytojmhdooglihaaa.PA
open Go.RowKit Go.Proofs.YtojmhdooglihaaaW.PrintWords Go.Proofs.YtojmhdooglihaaaW.PrintLast Go.Proofs.YtojmhdooglihaaaW.PrintMore
attribute [local go_sem] max2_int min2_int max_two min_two max_three min_three max_four min_four   -- for this text's walks alone
set_option linter.unusedVariables false
set_option linter.unusedSimpArgs false

/-! ### rubricatorlaw20_DelimNests: function 4 -/
mutual
def rubricatorlaw20_DelimNests.l0 : Nat → List (S27) → List (S33) → List Int → Int → Option (Bool)
  | 0, _, _, _, _ => none
  | k + 1, x0, x3, x4, x5 => if x5 < (x3.length : Int) then (if 0 ≤ x5 then (if ((rd_T33 x3 x5).f0) < 0 then (rubricatorlaw20_DelimNests.j1 k x0 x3 x4 x5 true ((rd_T33 x3 x5).f0) ((rd_T33 x3 x5).f1) ((rd_T33 x3 x5).f2)) else (if ((rd_T33 x3 x5).f1) ≥ (x0.length : Int) then (rubricatorlaw20_DelimNests.j1 k x0 x3 x4 x5 true ((rd_T33 x3 x5).f0) ((rd_T33 x3 x5).f1) ((rd_T33 x3 x5).f2)) else (if ((rd_T33 x3 x5).f0) ≥ ((rd_T33 x3 x5).f1) then (rubricatorlaw20_DelimNests.j1 k x0 x3 x4 x5 true ((rd_T33 x3 x5).f0) ((rd_T33 x3 x5).f1) ((rd_T33 x3 x5).f2)) else (if 0 ≤ ((rd_T33 x3 x5).f0) then (if ((rd_T33 x3 x5).f0) < (x0.length : Int) then (if 0 ≤ ((rd_T33 x3 x5).f1) then (if ((rd_T33 x3 x5).f1) < (x0.length : Int) then (if ((rd_T27 x0 ((rd_T33 x3 x5).f0)).f0) = ((rd_T27 x0 ((rd_T33 x3 x5).f1)).f0) then (if ((rd_T27 x0 ((rd_T33 x3 x5).f0)).f2 = true) then (rubricatorlaw20_DelimNests.j1 k x0 x3 x4 x5 (!((rd_T27 x0 ((rd_T33 x3 x5).f1)).f3)) ((rd_T33 x3 x5).f0) ((rd_T33 x3 x5).f1) ((rd_T33 x3 x5).f2)) else (rubricatorlaw20_DelimNests.j1 k x0 x3 x4 x5 true ((rd_T33 x3 x5).f0) ((rd_T33 x3 x5).f1) ((rd_T33 x3 x5).f2))) else (rubricatorlaw20_DelimNests.j1 k x0 x3 x4 x5 true ((rd_T33 x3 x5).f0) ((rd_T33 x3 x5).f1) ((rd_T33 x3 x5).f2))) else (none)) else (none)) else (none)) else (none))))) else (none)) else (rubricatorlaw20_DelimNests.l2 k x0 x4 0)
def rubricatorlaw20_DelimNests.j1 : Nat → List (S27) → List (S33) → List Int → Int → Bool → Int → Int → Bool → Option (Bool)
  | 0, _, _, _, _, _, _, _, _ => none
  | k + 1, x0, x3, x4, x5, x78, x120000, x120001, x120002 => if x78 = true then (some false) else (if x120002 = true then (rubricatorlaw20_DelimNests.j2 k x0 x3 x4 x5 2 x120000 x120001 x120002) else (rubricatorlaw20_DelimNests.j2 k x0 x3 x4 x5 1 x120000 x120001 x120002))
def rubricatorlaw20_DelimNests.j2 : Nat → List (S27) → List (S33) → List Int → Int → Int → Int → Int → Bool → Option (Bool)
  | 0, _, _, _, _, _, _, _, _ => none
  | k + 1, x0, x3, x4, x5, x7, x120000, x120001, x120002 => if 0 ≤ x120000 then (if x120000 < (x4.length : Int) then ((some (x4.set (x120000 : Int).toNat (wrap64 ((rd x4 x120000) + x7)) : List Int)).bind fun y125 => (if 0 ≤ x120001 then (if x120001 < (x4.length : Int) then (rubricatorlaw20_DelimNests.l1 k x0 x3 (y125.set (x120001 : Int).toNat (wrap64 ((rd y125 x120001) + x7))) x5 0 x120000 x120001 x120002) else (none)) else (none))) else (none)) else (none)
def rubricatorlaw20_DelimNests.l1 : Nat → List (S27) → List (S33) → List Int → Int → Int → Int → Int → Bool → Option (Bool)
  | 0, _, _, _, _, _, _, _, _ => none
  | k + 1, x0, x3, x4, x5, x8, x120000, x120001, x120002 => if x8 < x5 then (if 0 ≤ x8 then (if x8 < (x3.length : Int) then (if ((rd_T33 x3 x8).f0) ≥ x120000 then (if ((rd_T33 x3 x8).f1) ≤ x120001 then (rubricatorlaw20_DelimNests.j4 k x0 x3 x4 x5 x8 true x120000 x120001 x120002 ((rd_T33 x3 x8).f0) ((rd_T33 x3 x8).f1) ((rd_T33 x3 x8).f2)) else (if x120000 ≥ ((rd_T33 x3 x8).f0) then (rubricatorlaw20_DelimNests.j4 k x0 x3 x4 x5 x8 (decide (x120001 ≤ ((rd_T33 x3 x8).f1))) x120000 x120001 x120002 ((rd_T33 x3 x8).f0) ((rd_T33 x3 x8).f1) ((rd_T33 x3 x8).f2)) else (rubricatorlaw20_DelimNests.j4 k x0 x3 x4 x5 x8 false x120000 x120001 x120002 ((rd_T33 x3 x8).f0) ((rd_T33 x3 x8).f1) ((rd_T33 x3 x8).f2)))) else (if x120000 ≥ ((rd_T33 x3 x8).f0) then (rubricatorlaw20_DelimNests.j4 k x0 x3 x4 x5 x8 (decide (x120001 ≤ ((rd_T33 x3 x8).f1))) x120000 x120001 x120002 ((rd_T33 x3 x8).f0) ((rd_T33 x3 x8).f1) ((rd_T33 x3 x8).f2)) else (rubricatorlaw20_DelimNests.j4 k x0 x3 x4 x5 x8 false x120000 x120001 x120002 ((rd_T33 x3 x8).f0) ((rd_T33 x3 x8).f1) ((rd_T33 x3 x8).f2)))) else (none)) else (none)) else (rubricatorlaw20_DelimNests.l0 k x0 x3 x4 (wrap64 (x5 + 1)))
def rubricatorlaw20_DelimNests.j4 : Nat → List (S27) → List (S33) → List Int → Int → Int → Bool → Int → Int → Bool → Int → Int → Bool → Option (Bool)
  | 0, _, _, _, _, _, _, _, _, _, _, _, _ => none
  | k + 1, x0, x3, x4, x5, x8, x10, x120000, x120001, x120002, x130000, x130001, x130002 => if x10 = true then (rubricatorlaw20_DelimNests.j5 k x0 x3 x4 x5 x8 false x120000 x120001 x120002) else (if x130001 ≤ x120000 then (rubricatorlaw20_DelimNests.j5 k x0 x3 x4 x5 x8 (!true) x120000 x120001 x120002) else (rubricatorlaw20_DelimNests.j5 k x0 x3 x4 x5 x8 (!(decide (x120001 ≤ x130000))) x120000 x120001 x120002))
def rubricatorlaw20_DelimNests.j5 : Nat → List (S27) → List (S33) → List Int → Int → Int → Bool → Int → Int → Bool → Option (Bool)
  | 0, _, _, _, _, _, _, _, _, _ => none
  | k + 1, x0, x3, x4, x5, x8, x154, x120000, x120001, x120002 => if x154 = true then (some false) else (rubricatorlaw20_DelimNests.l1 k x0 x3 x4 x5 (wrap64 (x8 + 1)) x120000 x120001 x120002)
def rubricatorlaw20_DelimNests.l2 : Nat → List (S27) → List Int → Int → Option (Bool)
  | 0, _, _, _ => none
  | k + 1, x0, x4, x11 => if x11 < (x0.length : Int) then (if 0 ≤ x11 then (if x11 < (x4.length : Int) then (if (rd x4 x11) > (mx 0 ((rd_T27 x0 x11).f1)) then (some false) else (rubricatorlaw20_DelimNests.l2 k x0 x4 (wrap64 (x11 + 1)))) else (none)) else (none)) else ((rubricatorlaw20_known.f k).bind fun t132 => (some t132))
end
def rubricatorlaw20_DelimNests.f (k : Nat) (l0 : List (S27)) : Option (Bool) := (rubricatorlaw20_heavy.f k l0).bind fun t111 => (if t111 = true then (some true) else ((delim_Match.f k l0).bind fun t112 => (if 0 ≤ (l0.length : Int) then (if ((l0.length : Int) : Int).toNat ≤ 35184372088832 then (rubricatorlaw20_DelimNests.l0 k l0 t112 (List.replicate ((l0.length : Int) : Int).toNat 0) 0) else (none)) else (none))))
theorem rubricatorlaw20_DelimNests.mono_l : ∀ k, (∀ y0 y1 y2 y3, LeO (rubricatorlaw20_DelimNests.l0 k y0 y1 y2 y3) (rubricatorlaw20_DelimNests.l0 (k + 1) y0 y1 y2 y3)) ∧ (∀ y0 y1 y2 y3 y4 y5 y6 y7, LeO (rubricatorlaw20_DelimNests.j1 k y0 y1 y2 y3 y4 y5 y6 y7) (rubricatorlaw20_DelimNests.j1 (k + 1) y0 y1 y2 y3 y4 y5 y6 y7)) ∧ (∀ y0 y1 y2 y3 y4 y5 y6 y7, LeO (rubricatorlaw20_DelimNests.j2 k y0 y1 y2 y3 y4 y5 y6 y7) (rubricatorlaw20_DelimNests.j2 (k + 1) y0 y1 y2 y3 y4 y5 y6 y7)) ∧ (∀ y0 y1 y2 y3 y4 y5 y6 y7, LeO (rubricatorlaw20_DelimNests.l1 k y0 y1 y2 y3 y4 y5 y6 y7) (rubricatorlaw20_DelimNests.l1 (k + 1) y0 y1 y2 y3 y4 y5 y6 y7)) ∧ (∀ y0 y1 y2 y3 y4 y5 y6 y7 y8 y9 y10 y11, LeO (rubricatorlaw20_DelimNests.j4 k y0 y1 y2 y3 y4 y5 y6 y7 y8 y9 y10 y11) (rubricatorlaw20_DelimNests.j4 (k + 1) y0 y1 y2 y3 y4 y5 y6 y7 y8 y9 y10 y11)) ∧ (∀ y0 y1 y2 y3 y4 y5 y6 y7 y8, LeO (rubricatorlaw20_DelimNests.j5 k y0 y1 y2 y3 y4 y5 y6 y7 y8) (rubricatorlaw20_DelimNests.j5 (k + 1) y0 y1 y2 y3 y4 y5 y6 y7 y8)) ∧ (∀ y0 y1 y2, LeO (rubricatorlaw20_DelimNests.l2 k y0 y1 y2) (rubricatorlaw20_DelimNests.l2 (k + 1) y0 y1 y2))
  | 0 => ⟨fun _ _ _ _ r h => by simp [rubricatorlaw20_DelimNests.l0] at h, fun _ _ _ _ _ _ _ _ r h => by simp [rubricatorlaw20_DelimNests.j1] at h, fun _ _ _ _ _ _ _ _ r h => by simp [rubricatorlaw20_DelimNests.j2] at h, fun _ _ _ _ _ _ _ _ r h => by simp [rubricatorlaw20_DelimNests.l1] at h, fun _ _ _ _ _ _ _ _ _ _ _ _ r h => by simp [rubricatorlaw20_DelimNests.j4] at h, fun _ _ _ _ _ _ _ _ _ r h => by simp [rubricatorlaw20_DelimNests.j5] at h, fun _ _ _ r h => by simp [rubricatorlaw20_DelimNests.l2] at h⟩
  | k + 1 => by
    obtain ⟨ih0, ih1, ih2, ih3, ih4, ih5, ih6⟩ := rubricatorlaw20_DelimNests.mono_l k
    refine ⟨?_, ?_, ?_, ?_, ?_, ?_, ?_⟩
    · intro y0 y1 y2 y3
      unfold rubricatorlaw20_DelimNests.l0
      repeat' first
      | (with_reducible exact ih0 _ _ _ _)
      | (with_reducible exact ih1 _ _ _ _ _ _ _ _)
      | (with_reducible exact ih2 _ _ _ _ _ _ _ _)
      | (with_reducible exact ih3 _ _ _ _ _ _ _ _)
      | (with_reducible exact ih4 _ _ _ _ _ _ _ _ _ _ _ _)
      | (with_reducible exact ih5 _ _ _ _ _ _ _ _ _)
      | (with_reducible exact ih6 _ _ _)
      | (with_reducible exact delim_Match.mono _ _)
      | (with_reducible exact rubricatorlaw20_heavy.mono _ _)
      | (with_reducible exact rubricatorlaw20_known.mono _)
      | (with_reducible exact LeO.refl _)
      | (with_reducible exact LeO.none _)
      | (with_reducible refine LeO.ite ?_ ?_)
      | (with_reducible refine LeO.bind ?_ (fun _ => ?_))
      | exact ih0 _ _ _ _
      | exact ih1 _ _ _ _ _ _ _ _
      | exact ih2 _ _ _ _ _ _ _ _
      | exact ih3 _ _ _ _ _ _ _ _
      | exact ih4 _ _ _ _ _ _ _ _ _ _ _ _
      | exact ih5 _ _ _ _ _ _ _ _ _
      | exact ih6 _ _ _
      | exact delim_Match.mono _ _
      | exact rubricatorlaw20_heavy.mono _ _
      | exact rubricatorlaw20_known.mono _
      | exact LeO.none _
      | refine LeO.ite ?_ ?_
      | refine LeO.bind ?_ (fun _ => ?_)
    · intro y0 y1 y2 y3 y4 y5 y6 y7
      unfold rubricatorlaw20_DelimNests.j1
      repeat' first
      | (with_reducible exact ih0 _ _ _ _)
      | (with_reducible exact ih1 _ _ _ _ _ _ _ _)
      | (with_reducible exact ih2 _ _ _ _ _ _ _ _)
      | (with_reducible exact ih3 _ _ _ _ _ _ _ _)
      | (with_reducible exact ih4 _ _ _ _ _ _ _ _ _ _ _ _)
      | (with_reducible exact ih5 _ _ _ _ _ _ _ _ _)
      | (with_reducible exact ih6 _ _ _)
      | (with_reducible exact delim_Match.mono _ _)
      | (with_reducible exact rubricatorlaw20_heavy.mono _ _)
      | (with_reducible exact rubricatorlaw20_known.mono _)
      | (with_reducible exact LeO.refl _)
      | (with_reducible exact LeO.none _)
      | (with_reducible refine LeO.ite ?_ ?_)
      | (with_reducible refine LeO.bind ?_ (fun _ => ?_))
      | exact ih0 _ _ _ _
      | exact ih1 _ _ _ _ _ _ _ _
      | exact ih2 _ _ _ _ _ _ _ _
      | exact ih3 _ _ _ _ _ _ _ _
      | exact ih4 _ _ _ _ _ _ _ _ _ _ _ _
      | exact ih5 _ _ _ _ _ _ _ _ _
      | exact ih6 _ _ _
      | exact delim_Match.mono _ _
      | exact rubricatorlaw20_heavy.mono _ _
      | exact rubricatorlaw20_known.mono _
      | exact LeO.none _
      | refine LeO.ite ?_ ?_
      | refine LeO.bind ?_ (fun _ => ?_)
    · intro y0 y1 y2 y3 y4 y5 y6 y7
      unfold rubricatorlaw20_DelimNests.j2
      repeat' first
      | (with_reducible exact ih0 _ _ _ _)
      | (with_reducible exact ih1 _ _ _ _ _ _ _ _)
      | (with_reducible exact ih2 _ _ _ _ _ _ _ _)
      | (with_reducible exact ih3 _ _ _ _ _ _ _ _)
      | (with_reducible exact ih4 _ _ _ _ _ _ _ _ _ _ _ _)
      | (with_reducible exact ih5 _ _ _ _ _ _ _ _ _)
      | (with_reducible exact ih6 _ _ _)
      | (with_reducible exact delim_Match.mono _ _)
      | (with_reducible exact rubricatorlaw20_heavy.mono _ _)
      | (with_reducible exact rubricatorlaw20_known.mono _)
      | (with_reducible exact LeO.refl _)
      | (with_reducible exact LeO.none _)
      | (with_reducible refine LeO.ite ?_ ?_)
      | (with_reducible refine LeO.bind ?_ (fun _ => ?_))
      | exact ih0 _ _ _ _
      | exact ih1 _ _ _ _ _ _ _ _
      | exact ih2 _ _ _ _ _ _ _ _
      | exact ih3 _ _ _ _ _ _ _ _
      | exact ih4 _ _ _ _ _ _ _ _ _ _ _ _
      | exact ih5 _ _ _ _ _ _ _ _ _
      | exact ih6 _ _ _
      | exact delim_Match.mono _ _
      | exact rubricatorlaw20_heavy.mono _ _
      | exact rubricatorlaw20_known.mono _
      | exact LeO.none _
      | refine LeO.ite ?_ ?_
      | refine LeO.bind ?_ (fun _ => ?_)
    · intro y0 y1 y2 y3 y4 y5 y6 y7
      unfold rubricatorlaw20_DelimNests.l1
      repeat' first
      | (with_reducible exact ih0 _ _ _ _)
      | (with_reducible exact ih1 _ _ _ _ _ _ _ _)
      | (with_reducible exact ih2 _ _ _ _ _ _ _ _)
      | (with_reducible exact ih3 _ _ _ _ _ _ _ _)
      | (with_reducible exact ih4 _ _ _ _ _ _ _ _ _ _ _ _)
      | (with_reducible exact ih5 _ _ _ _ _ _ _ _ _)
      | (with_reducible exact ih6 _ _ _)
      | (with_reducible exact delim_Match.mono _ _)
      | (with_reducible exact rubricatorlaw20_heavy.mono _ _)
      | (with_reducible exact rubricatorlaw20_known.mono _)
      | (with_reducible exact LeO.refl _)
      | (with_reducible exact LeO.none _)
      | (with_reducible refine LeO.ite ?_ ?_)
      | (with_reducible refine LeO.bind ?_ (fun _ => ?_))
      | exact ih0 _ _ _ _
      | exact ih1 _ _ _ _ _ _ _ _
      | exact ih2 _ _ _ _ _ _ _ _
      | exact ih3 _ _ _ _ _ _ _ _
      | exact ih4 _ _ _ _ _ _ _ _ _ _ _ _
      | exact ih5 _ _ _ _ _ _ _ _ _
      | exact ih6 _ _ _
      | exact delim_Match.mono _ _
      | exact rubricatorlaw20_heavy.mono _ _
      | exact rubricatorlaw20_known.mono _
      | exact LeO.none _
      | refine LeO.ite ?_ ?_
      | refine LeO.bind ?_ (fun _ => ?_)
    · intro y0 y1 y2 y3 y4 y5 y6 y7 y8 y9 y10 y11
      unfold rubricatorlaw20_DelimNests.j4
      repeat' first
      | (with_reducible exact ih0 _ _ _ _)
      | (with_reducible exact ih1 _ _ _ _ _ _ _ _)
      | (with_reducible exact ih2 _ _ _ _ _ _ _ _)
      | (with_reducible exact ih3 _ _ _ _ _ _ _ _)
      | (with_reducible exact ih4 _ _ _ _ _ _ _ _ _ _ _ _)
      | (with_reducible exact ih5 _ _ _ _ _ _ _ _ _)
      | (with_reducible exact ih6 _ _ _)
      | (with_reducible exact delim_Match.mono _ _)
      | (with_reducible exact rubricatorlaw20_heavy.mono _ _)
      | (with_reducible exact rubricatorlaw20_known.mono _)
      | (with_reducible exact LeO.refl _)
      | (with_reducible exact LeO.none _)
      | (with_reducible refine LeO.ite ?_ ?_)
      | (with_reducible refine LeO.bind ?_ (fun _ => ?_))
      | exact ih0 _ _ _ _
      | exact ih1 _ _ _ _ _ _ _ _
      | exact ih2 _ _ _ _ _ _ _ _
      | exact ih3 _ _ _ _ _ _ _ _
      | exact ih4 _ _ _ _ _ _ _ _ _ _ _ _
      | exact ih5 _ _ _ _ _ _ _ _ _
      | exact ih6 _ _ _
      | exact delim_Match.mono _ _
      | exact rubricatorlaw20_heavy.mono _ _
      | exact rubricatorlaw20_known.mono _
      | exact LeO.none _
      | refine LeO.ite ?_ ?_
      | refine LeO.bind ?_ (fun _ => ?_)
    · intro y0 y1 y2 y3 y4 y5 y6 y7 y8
      unfold rubricatorlaw20_DelimNests.j5
      repeat' first
      | (with_reducible exact ih0 _ _ _ _)
      | (with_reducible exact ih1 _ _ _ _ _ _ _ _)
      | (with_reducible exact ih2 _ _ _ _ _ _ _ _)
      | (with_reducible exact ih3 _ _ _ _ _ _ _ _)
      | (with_reducible exact ih4 _ _ _ _ _ _ _ _ _ _ _ _)
      | (with_reducible exact ih5 _ _ _ _ _ _ _ _ _)
      | (with_reducible exact ih6 _ _ _)
      | (with_reducible exact delim_Match.mono _ _)
      | (with_reducible exact rubricatorlaw20_heavy.mono _ _)
      | (with_reducible exact rubricatorlaw20_known.mono _)
      | (with_reducible exact LeO.refl _)
      | (with_reducible exact LeO.none _)
      | (with_reducible refine LeO.ite ?_ ?_)
      | (with_reducible refine LeO.bind ?_ (fun _ => ?_))
      | exact ih0 _ _ _ _
      | exact ih1 _ _ _ _ _ _ _ _
      | exact ih2 _ _ _ _ _ _ _ _
      | exact ih3 _ _ _ _ _ _ _ _
      | exact ih4 _ _ _ _ _ _ _ _ _ _ _ _
      | exact ih5 _ _ _ _ _ _ _ _ _
      | exact ih6 _ _ _
      | exact delim_Match.mono _ _
      | exact rubricatorlaw20_heavy.mono _ _
      | exact rubricatorlaw20_known.mono _
      | exact LeO.none _
      | refine LeO.ite ?_ ?_
      | refine LeO.bind ?_ (fun _ => ?_)
    · intro y0 y1 y2
      unfold rubricatorlaw20_DelimNests.l2
      repeat' first
      | (with_reducible exact ih0 _ _ _ _)
      | (with_reducible exact ih1 _ _ _ _ _ _ _ _)
      | (with_reducible exact ih2 _ _ _ _ _ _ _ _)
      | (with_reducible exact ih3 _ _ _ _ _ _ _ _)
      | (with_reducible exact ih4 _ _ _ _ _ _ _ _ _ _ _ _)
      | (with_reducible exact ih5 _ _ _ _ _ _ _ _ _)
      | (with_reducible exact ih6 _ _ _)
      | (with_reducible exact delim_Match.mono _ _)
      | (with_reducible exact rubricatorlaw20_heavy.mono _ _)
      | (with_reducible exact rubricatorlaw20_known.mono _)
      | (with_reducible exact LeO.refl _)
      | (with_reducible exact LeO.none _)
      | (with_reducible refine LeO.ite ?_ ?_)
      | (with_reducible refine LeO.bind ?_ (fun _ => ?_))
      | exact ih0 _ _ _ _
      | exact ih1 _ _ _ _ _ _ _ _
      | exact ih2 _ _ _ _ _ _ _ _
      | exact ih3 _ _ _ _ _ _ _ _
      | exact ih4 _ _ _ _ _ _ _ _ _ _ _ _
      | exact ih5 _ _ _ _ _ _ _ _ _
      | exact ih6 _ _ _
      | exact delim_Match.mono _ _
      | exact rubricatorlaw20_heavy.mono _ _
      | exact rubricatorlaw20_known.mono _
      | exact LeO.none _
      | refine LeO.ite ?_ ?_
      | refine LeO.bind ?_ (fun _ => ?_)
theorem rubricatorlaw20_DelimNests.mono : ∀ a0 k, LeO (rubricatorlaw20_DelimNests.f k a0) (rubricatorlaw20_DelimNests.f (k + 1) a0) := by
  intro a0 k
  obtain ⟨ih0, ih1, ih2, ih3, ih4, ih5, ih6⟩ := rubricatorlaw20_DelimNests.mono_l k
  unfold rubricatorlaw20_DelimNests.f
  repeat' first
      | (with_reducible exact ih0 _ _ _ _)
      | (with_reducible exact ih1 _ _ _ _ _ _ _ _)
      | (with_reducible exact ih2 _ _ _ _ _ _ _ _)
      | (with_reducible exact ih3 _ _ _ _ _ _ _ _)
      | (with_reducible exact ih4 _ _ _ _ _ _ _ _ _ _ _ _)
      | (with_reducible exact ih5 _ _ _ _ _ _ _ _ _)
      | (with_reducible exact ih6 _ _ _)
      | (with_reducible exact delim_Match.mono _ _)
      | (with_reducible exact rubricatorlaw20_heavy.mono _ _)
      | (with_reducible exact rubricatorlaw20_known.mono _)
      | (with_reducible exact LeO.refl _)
      | (with_reducible exact LeO.none _)
      | (with_reducible refine LeO.ite ?_ ?_)
      | (with_reducible refine LeO.bind ?_ (fun _ => ?_))
      | exact ih0 _ _ _ _
      | exact ih1 _ _ _ _ _ _ _ _
      | exact ih2 _ _ _ _ _ _ _ _
      | exact ih3 _ _ _ _ _ _ _ _
      | exact ih4 _ _ _ _ _ _ _ _ _ _ _ _
      | exact ih5 _ _ _ _ _ _ _ _ _
      | exact ih6 _ _ _
      | exact delim_Match.mono _ _
      | exact rubricatorlaw20_heavy.mono _ _
      | exact rubricatorlaw20_known.mono _
      | exact LeO.none _
      | refine LeO.ite ?_ ?_
      | refine LeO.bind ?_ (fun _ => ?_)
def rubricatorlaw20_DelimNests.T9 : Bool × List (List Nat × List Nat) := (true, [([], []), ([0], [0]), ([1], [1]), ([2], [2]), ([3], [3]), ([4, 3], [3, 4]), ([3], [3]), ([6, 3], [3, 6]), ([5, 7, 3], [3, 5, 7]), ([3, 8], [3, 8]), ([9, 3], [9]), ([10], [10]), ([11, 10], [10, 11]), ([10], [10]), ([13, 10], [10, 13]), ([12, 14, 10], [10, 12, 14]), ([10, 15], [10, 15]), ([16, 10], [16]), ([17], [17]), ([17], [17]), ([19, 17], [17, 19]), ([18, 20, 17], [17, 18, 20]), ([21, 17], [17, 21]), ([22, 17], [17, 22]), ([17], [17]), ([17], [17]), ([25, 17], [17, 25]), ([24, 26, 17], [17, 24, 26]), ([27, 17], [17, 27]), ([28, 17], [17, 28]), ([23, 29, 17], [17, 23, 29]), ([17, 30], [17, 30]), ([31, 17], [31]), ([32], [32]), ([32], [32]), ([34, 32], [32, 34]), ([33, 35, 32], [32, 33, 35]), ([36, 32], [32, 36]), ([37, 32], [32, 37]), ([38, 32], [32, 38]), ([32, 39], [32, 39]), ([40, 32], [40]), ([41], [41]), ([41], [41]), ([43, 41], [41, 43]), ([42, 44, 41], [41, 42, 44]), ([45, 41], [41, 45]), ([46, 41], [41, 46]), ([47, 41], [41, 47]), ([41, 48], [41, 48])])
def rubricatorlaw20_DelimNests.B9 : List Nat := [0, 1, 3, 7, 15, 31, 15, 79, 255, 511, 1023, 2047, 4095, 2047, 10239, 32767, 65535, 131071, 262143, 262143, 786431, 2097151, 4194303, 8388607, 262143, 262143, 33816575, 117702655, 251920383, 520355839, 1073741823, 2147483647, 4294967295, 8589934591, 8589934591, 25769803775, 68719476735, 137438953471, 274877906943, 549755813887, 1099511627775, 2199023255551, 4398046511103, 4398046511103, 13194139533311, 35184372088831, 70368744177663, 140737488355327, 281474976710655, 562949953421311]
theorem rubricatorlaw20_DelimNests.tab9 : rtab .any (opsOf Try.f4 9) = rubricatorlaw20_DelimNests.T9 := by kernel_rfl
theorem rubricatorlaw20_DelimNests.bits9 : waitsOk rubricatorlaw20_DelimNests.T9.2 rubricatorlaw20_DelimNests.B9 = true := by kernel_rfl
def rubricatorlaw20_DelimNests.T14 : Bool × List (List Nat × List Nat) := (true, [([], []), ([], []), ([1], [1]), ([], []), ([], []), ([4], [4]), ([3, 5], [3, 5]), ([6], [6]), ([], []), ([7, 8], [7, 8]), ([0, 2, 0, 1, 2, 3, 4, 5, 6, 7, 8, 9], [0, 2]), ([10, 9, 0, 1, 2, 3, 4, 5, 6, 7, 8, 9], [9, 10])])
def rubricatorlaw20_DelimNests.B14 : List Nat := [0, 0, 2, 0, 0, 16, 56, 120, 0, 504, 1023, 2047]
theorem rubricatorlaw20_DelimNests.tab14 : rtab .any (opsOf Try.f4 14) = rubricatorlaw20_DelimNests.T14 := by kernel_rfl
theorem rubricatorlaw20_DelimNests.bits14 : waitsOk rubricatorlaw20_DelimNests.T14.2 rubricatorlaw20_DelimNests.B14 = true := by kernel_rfl
def rubricatorlaw20_DelimNests.T15 : Bool × List (List Nat × List Nat) := (true, [([], []), ([], []), ([1], [1]), ([], []), ([], []), ([4], [4]), ([3, 5], [3, 5]), ([6], [6]), ([], []), ([7, 8], [7, 8]), ([0, 2, 0, 1, 2, 3, 4, 5, 6, 7, 8, 9], [0, 2]), ([10, 9, 0, 1, 2, 3, 4, 5, 6, 7, 8, 9], [9, 10])])
def rubricatorlaw20_DelimNests.B15 : List Nat := [0, 0, 2, 0, 0, 16, 56, 120, 0, 504, 1023, 2047]
theorem rubricatorlaw20_DelimNests.tab15 : rtab .any (opsOf Try.f4 15) = rubricatorlaw20_DelimNests.T15 := by kernel_rfl
theorem rubricatorlaw20_DelimNests.bits15 : waitsOk rubricatorlaw20_DelimNests.T15.2 rubricatorlaw20_DelimNests.B15 = true := by kernel_rfl
def rubricatorlaw20_DelimNests.T26 : Bool × List (List Nat × List Nat) := (true, [([], []), ([], []), ([0, 1], [0, 1]), ([2], [2]), ([], []), ([], []), ([4, 5], [4, 5]), ([6], [6]), ([7], [7]), ([8], [8]), ([3, 9], [3, 9])])
def rubricatorlaw20_DelimNests.B26 : List Nat := [0, 0, 3, 7, 0, 0, 48, 112, 240, 496, 1023]
theorem rubricatorlaw20_DelimNests.tab26 : rtab .any (opsOf Try.f4 26) = rubricatorlaw20_DelimNests.T26 := by kernel_rfl
theorem rubricatorlaw20_DelimNests.bits26 : waitsOk rubricatorlaw20_DelimNests.T26.2 rubricatorlaw20_DelimNests.B26 = true := by kernel_rfl
set_option maxHeartbeats 8000000 in
set_option maxRecDepth 100000 in
theorem rubricatorlaw20_DelimNests.calls (k : Nat) (A0 : Option Addr) (c0 : Nat) (l0 : List (S27)) (r : Bool) (w : World) (hr0 : Kd.C k27 w A0 l0.length l0) (hc0 : l0.length ≤ c0) (h : rubricatorlaw20_DelimNests.f k l0 = some r) :
    Calls Try.prog 4 #[.slice A0 l0.length c0] w fun e w' => e = .returned (.bool r) ∧ Below w.heap.size w w' := by
  have hu33 := Try.underlying33
  have HR0 := Aside0.mk hr0
  have HC0 := Aside0.mk hc0
  clear hr0 hc0
  have HB := Aside0.mk (Below.refl w.heap.size w)
  have H : ((rubricatorlaw20_heavy.f k l0).bind fun t111 => (if t111 = true then (some true) else ((delim_Match.f k l0).bind fun t112 => (if 0 ≤ (l0.length : Int) then (if ((l0.length : Int) : Int).toNat ≤ 35184372088832 then (rubricatorlaw20_DelimNests.l0 k l0 t112 (List.replicate ((l0.length : Int) : Int).toNat 0) 0) else (none)) else (none))))) = some r := h
  clear h
  replace H := Option.bind_eq_some_iff.mp H
  obtain ⟨t111, A20, H⟩ := H
  replace H : (if t111 = true then (some true) else ((delim_Match.f k l0).bind fun t112 => (if 0 ≤ (l0.length : Int) then (if ((l0.length : Int) : Int).toNat ≤ 35184372088832 then (rubricatorlaw20_DelimNests.l0 k l0 t112 (List.replicate ((l0.length : Int) : Int).toNat 0) 0) else (none)) else (none)))) = some r := H
  have A2 := Aside0.mk A20
  clear A20
  by_cases c3 : t111 = true
  · subst c3
    have H1 : (some true) = some r := by rw [if_pos rfl] at H; exact H
    clear H
    have H := H1
    clear H1
    obtain rfl := Option.some.inj H
    go_enter Try.func4, Try.ntmps4
    go_wp2_with (first | ((with_reducible refine gate_callee (f := 9) rfl ?_); refine goesL_ (some 13) rfl rfl Try.func9 (by kernel_rfl) rfl #[.slice A0 l0.length c0] rfl (by (try simp only [List.map_toArray, List.map_cons, List.map_nil]); first | done | rfl | (simp only [List.length_drop, List.length_take]; rfl)) ?_; (with_reducible refine (rubricatorlaw20_heavy.calls k _ _ l0 true _ ?side1 ?side2 A2.out).mono ?_); (case side1 => repeat (first | exact HR0.out | (with_reducible refine Kd.C_alloc ?_ _) | (with_reducible refine Kd.C_drewN ?_ _) | (with_reducible refine Kd.C_drew ?_))); (case side2 => exact HC0.out); rintro e w4 ⟨rfl, hb⟩; refine ⟨_, rfl, ?_⟩; have n0_ := Aside0.mk (below_step (by repeat (first | (with_reducible first | exact HB.out | apply below_alloc | apply pw_below_drewN | apply below_drew1) | exact HB.out)) hb); clear HB; have HB := n0_; clear n0_; (try clear hb); (try clear hb2); (try clear hk); (try clear hi)))
    go_ret
    exact ⟨by first | rfl | (simp [errW_none, errW_some] <;> rfl) | (simp [*, errW_none, errW_some] <;> rfl), by repeat (first | (with_reducible first | exact HB.out | apply below_alloc | apply pw_below_drewN | apply below_drew1) | exact HB.out)⟩
  · replace c3 := Bool.eq_false_iff.mpr c3
    subst c3
    have H1 : ((delim_Match.f k l0).bind fun t112 => (if 0 ≤ (l0.length : Int) then (if ((l0.length : Int) : Int).toNat ≤ 35184372088832 then (rubricatorlaw20_DelimNests.l0 k l0 t112 (List.replicate ((l0.length : Int) : Int).toNat 0) 0) else (none)) else (none))) = some r := by rw [if_neg (show ¬ (false = true) by decide)] at H; exact H
    clear H
    have H := H1
    clear H1
    replace H := Option.bind_eq_some_iff.mp H
    obtain ⟨t112, A50, H⟩ := H
    replace H : (if 0 ≤ (l0.length : Int) then (if ((l0.length : Int) : Int).toNat ≤ 35184372088832 then (rubricatorlaw20_DelimNests.l0 k l0 t112 (List.replicate ((l0.length : Int) : Int).toNat 0) 0) else (none)) else (none)) = some r := H
    have A5 := Aside0.mk A50
    clear A50
    by_cases c6 : 0 ≤ (l0.length : Int)
    · rw [if_pos c6] at H
      have c6b0 := eq_true c6
      have c6b1 : decide (0 ≤ (l0.length : Int)) = true := decide_eq_true c6
      clear c6
      by_cases c7 : ((l0.length : Int) : Int).toNat ≤ 35184372088832
      · rw [if_pos c7] at H
        have c7b0 := eq_true c7
        have c7b1 : decide (((l0.length : Int) : Int).toNat ≤ 35184372088832) = true := decide_eq_true c7
        clear c7
        obtain ⟨y115, hy115⟩ : ∃ y_ : List Int, y_ = (List.replicate ((l0.length : Int) : Int).toNat 0) := ⟨_, rfl⟩
        replace H : (rubricatorlaw20_DelimNests.l0 k l0 t112 y115 0) = some r := by first | (rw [hy115]; with_reducible exact H) | (have H2_ := (Option.bind_some _ _).symm.trans H; rw [hy115]; with_reducible exact H2_) | (have H2_ := (Option.bind_some _ _).symm.trans H; with_reducible exact H2_) | with_reducible exact H | (rw [hy115]; exact H) | exact H
        have Ny115 := Aside0.mk hy115
        clear hy115
        have H' := Aside0.mk H
        clear H
        go_enter Try.func4, Try.ntmps4
        go_wp2_with (first | ((with_reducible refine gate_callee (f := 9) rfl ?_); refine goesL_ (some 13) rfl rfl Try.func9 (by kernel_rfl) rfl #[.slice A0 l0.length c0] rfl (by (try simp only [List.map_toArray, List.map_cons, List.map_nil]); first | done | rfl | (simp only [List.length_drop, List.length_take]; rfl)) ?_; (with_reducible refine (rubricatorlaw20_heavy.calls k _ _ l0 false _ ?side1 ?side2 A2.out).mono ?_); (case side1 => repeat (first | exact HR0.out | (with_reducible refine Kd.C_alloc ?_ _) | (with_reducible refine Kd.C_drewN ?_ _) | (with_reducible refine Kd.C_drew ?_))); (case side2 => exact HC0.out); rintro e w8 ⟨rfl, hb⟩; refine ⟨_, rfl, ?_⟩; have n0_ := Aside0.mk (below_step (by repeat (first | (with_reducible first | exact HB.out | apply below_alloc | apply pw_below_drewN | apply below_drew1) | exact HB.out)) hb); clear HB; have HB := n0_; clear n0_; (try clear hb); (try clear hb2); (try clear hk); (try clear hi)) | ((with_reducible refine gate_callee (f := 10) rfl ?_); refine goesL_ (some 15) rfl rfl Try.func10 (by kernel_rfl) rfl #[.slice A0 l0.length c0] rfl (by (try simp only [List.map_toArray, List.map_cons, List.map_nil]); first | done | rfl | (simp only [List.length_drop, List.length_take]; rfl)) ?_; (with_reducible refine (delim_Match.calls k _ _ l0 t112 _ ?side1 ?side2 A5.out).mono ?_); (case side1 => repeat (first | exact (Kd.C_below HR0.out HB.out) | (with_reducible refine Kd.C_alloc ?_ _) | (with_reducible refine Kd.C_drewN ?_ _) | (with_reducible refine Kd.C_drew ?_))); (case side2 => exact HC0.out); rintro e w9 ⟨v113, rfl, ho0, hb⟩; refine ⟨_, rfl, ?_⟩; have n0_ := Aside0.mk (Kd.R_lower ho0 (below_size (by repeat (first | (with_reducible first | exact HB.out | apply below_alloc | apply pw_below_drewN | apply below_drew1) | exact HB.out)))); have n1_ := Aside0.mk (below_step (by repeat (first | (with_reducible first | exact HB.out | apply below_alloc | apply pw_below_drewN | apply below_drew1) | exact HB.out)) hb); clear HB; have HO114 := n0_; have HB := n1_; clear n0_ n1_; (try clear hb); (try clear hb2); (try clear hk); (try clear hi); (try clear ho0)) | ((with_reducible refine gate_dst (N := 18) rfl ?_); (try (refine gate_guard (by rfl) ?_; dsimp only)); refine Kd.R_make (Kd.int .i64) _ 3 rfl (N := 18) rfl 36 _ _ rfl (l0.length : Int) rfl rfl Try.underlying36 (.int .i64 0) 8 info3 rfl (by decide) (by omega) 0 (ok := fun _ => True) (okp := fun _ => True) rfl (fun _ hk => hk) trivial (of_decide_eq_true (by first | (with_reducible assumption) | assumption)) (Nat.le_trans (Nat.mul_le_mul_right _ (of_decide_eq_true (by first | (with_reducible assumption) | assumption) : (l0.length : Int).toNat ≤ 35184372088832)) (by omega)) (Below.refl _ _) (Nat.le_refl _) ?_; intro v116 w10 ho11 hb hg_ hnew_; clear hg_ hnew_; (first | rw [← Ny115.out] at ho11 | (simp only [Int.reduceToNat] at ho11; rw [← Ny115.out] at ho11)); have n0_ := Aside0.mk (Kd.R_below (by (with_reducible repeat (first | apply Kd.R_alloc | apply Kd.R_drewN | apply Kd.R_drew)); exact HO114.out) hb); have n1_ := Aside0.mk (Kd.R_lower ho11 (below_size (by repeat (first | (with_reducible first | exact HB.out | apply below_alloc | apply pw_below_drewN | apply below_drew1) | exact HB.out)))); have n2_ := Aside0.mk (below_step (by repeat (first | (with_reducible first | exact HB.out | apply below_alloc | apply pw_below_drewN | apply below_drew1) | exact HB.out)) hb); clear HO114; clear HB; have HO114 := n0_; have HO117 := n1_; have HB := n2_; clear n0_ n1_ n2_; clear hb ho11))
        go_loopg [5] k (fun kq v5 w' => ∃ (x4_1 : List Int) (x5_1 : Int), v5 = .int .i64 x5_1 ∧ Aside0 (rubricatorlaw20_DelimNests.l0 kq l0 t112 x4_1 x5_1 = some r) ∧ Aside0 (kq ≤ k) ∧ Aside0 (Kd.R k33 33 w' w.heap.size (fun _ => True) v113 t112) ∧ Aside0 (Kd.R (Kd.int .i64) 3 w' w.heap.size (fun _ => True) v116 x4_1) ∧ Aside0 (Below w.heap.size w w'))
        case atStart => exact ⟨(y115), (0), (by first | rfl | (simp; done) | (simp [*]; done)), H', ⟨Nat.le_refl _⟩, ⟨by (with_reducible repeat (first | apply Kd.R_alloc | apply Kd.R_drewN | apply Kd.R_drew)); exact HO114.out⟩, ⟨by (with_reducible repeat (first | apply Kd.R_alloc | apply Kd.R_drewN | apply Kd.R_drew)); exact HO117.out⟩, ⟨by repeat (first | (with_reducible first | exact HB.out | apply below_alloc | apply pw_below_drewN | apply below_drew1) | exact HB.out)⟩⟩
        case round =>
          clear H'
          try clear c1
          try clear p2
          try clear c3
          try clear c4
          try clear c6
          try clear c6b0
          try clear c6b1
          try clear c7
          try clear c7b0
          try clear c7b1
          try clear c9
          try clear c10
          obtain ⟨x4_1, x5_1, rfl, HA, HK1, HO_3, HO_4, HB⟩ := hrel
          cases gk with
          | zero => exact absurd HA.out (by simp [rubricatorlaw20_DelimNests.l0])
          | succ k1 =>
            have H := HA.out
            clear HA
            simp only [rubricatorlaw20_DelimNests.l0] at H
            by_cases c12 : x5_1 < (t112.length : Int)
            · rw [if_pos c12] at H
              have c12b0 : decide (x5_1 < (t112.length : Int)) = true := decide_eq_true c12
              clear c12
              by_cases c13 : 0 ≤ x5_1
              · rw [if_pos c13] at H
                have c13b0 : decide (0 ≤ x5_1) = true := decide_eq_true c13
                clear c13
                have HC14 := Aside0.mk H
                clear H
                obtain ⟨Ao15, co15, eo15⟩ := Kd.R_slice HO_3.out
                subst eo15
                have p118 : 0 ≤ (x5_1 : Int) := of_decide_eq_true (by first | (with_reducible assumption) | assumption)
                have q118 : x5_1 < (t112.length : Int) := of_decide_eq_true (by first | (with_reducible assumption) | assumption)
                obtain ⟨ad118, e118, hx118_0, hx118_1, hx118_2⟩ := at_T33 (Kd.R_reads' HO_3.out).2.2 x5_1 p118 q118
                cases e118
                replace p118 := eq_true p118
                replace q118 := eq_true q118
                go_upto_region 9 with (first | ((with_reducible refine gate_dst (N := 6) rfl ?_); (try (refine gate_guard (by rfl) ?_; dsimp only)); refine box_event ?hg (N := 6) ?hd (cs := #[.int .i64 0, .int .i64 0, .bool false]) (t := 33) ?hr ?_; (case hd => rfl); (case hg => rfl); (case hr => first | (go_simp; done) | (go_simp; rfl)); intro gb119 hg w16 hbox hb; have n0_ := Aside0.mk (Kd.R_below (Kd.R_elderB (by (with_reducible repeat (first | apply Kd.R_alloc | apply Kd.R_drewN | apply Kd.R_drew)); exact HO_3.out) gb119 (Nat.le_of_eq hg.symm)) hb); have n1_ := Aside0.mk (Kd.R_below (by (with_reducible repeat (first | apply Kd.R_alloc | apply Kd.R_drewN | apply Kd.R_drew)); exact HO_4.out) hb); have n2_ := Aside0.mk (below_step (by repeat (first | (with_reducible first | exact HB.out | apply below_alloc | apply pw_below_drewN | apply below_drew1) | exact HB.out)) hb); have n3_ := Aside0.mk (hbox); have n4_ := Aside0.mk ((by rw [hg]; exact (below_size (by repeat (first | (with_reducible first | exact HB.out | apply below_alloc | apply pw_below_drewN | apply below_drew1) | exact HB.out))) : w.heap.size ≤ gb119)); have n5_ := Aside0.mk ((by rw [hg]; exact (below_size (by repeat (first | (with_reducible first | exact HB.out | apply below_alloc | apply pw_below_drewN | apply below_drew1) | exact HB.out))) : w.heap.size ≤ gb119)); clear HO_3; clear HO_4; clear HB; have HO_3 := n0_; have HO_4 := n1_; have HB := n2_; have BK119 := n3_; have GW119 := n4_; have GE119 := n5_; clear n0_ n1_ n2_ n3_ n4_ n5_; clear hb hbox hg; have hcz17_0 : w16.cell? ⟨gb119, 0, none⟩ = some (.int .i64 0) := (blk_cell BK119.out 0).trans rfl; have hcz17_1 : w16.cell? ⟨gb119, 1, none⟩ = some (.int .i64 0) := (blk_cell BK119.out 1).trans rfl; have hcz17_2 : w16.cell? ⟨gb119, 2, none⟩ = some (.bool false) := (blk_cell BK119.out 2).trans rfl; have hfz17_0 := blk_frozen BK119.out 0; have hfz17_1 := blk_frozen BK119.out 1; have hfz17_2 := blk_frozen BK119.out 2))
                (try simp only [Act.put, List.setIfInBounds_toArray, List.set_cons_zero, List.set_cons_succ])
                go_cut [78] (fun v78 wc => ∃ (kq : Nat) (x78_13 : Bool), v78 = .bool x78_13 ∧ Aside0 (rubricatorlaw20_DelimNests.j1 kq l0 t112 x4_1 x5_1 x78_13 ((rd_T33 t112 x5_1).f0) ((rd_T33 t112 x5_1).f1) ((rd_T33 t112 x5_1).f2) = some r) ∧ Aside0 (kq ≤ k1) ∧ Aside0 (Kd.R k33 33 wc w.heap.size (fun k_ => k_ ≠ gb119) (.slice (some ad118) t112.length co15) t112) ∧ Aside0 (Kd.R (Kd.int .i64) 3 wc w.heap.size (fun _ => True) v116 x4_1) ∧ Aside0 (wc.heap[gb119]? = some (.cells #[.int .i64 ((rd_T33 t112 x5_1).f0), .int .i64 ((rd_T33 t112 x5_1).f1), .bool ((rd_T33 t112 x5_1).f2)] 33 (0, 0))) ∧ Aside0 (Below w.heap.size w wc))
                case first =>
                  have H := HC14.out
                  clear HC14
                  by_cases c18 : ((rd_T33 t112 x5_1).f0) < 0
                  · rw [if_pos c18] at H
                    have c18b0 : decide (((rd_T33 t112 x5_1).f0) < 0) = true := decide_eq_true c18
                    clear c18
                    (first | rw [c18b0] | (simp only [i64_w, i32_w]; rw [c18b0]) | skip)
                    have H' := Aside0.mk H
                    clear H
                    try go_wp2
                    have n0_ : Aside0 (Kd.R k33 33 (((w16.setCell ⟨gb119, 0, none⟩ (.int .i64 ((rd_T33 t112 x5_1).f0))).setCell ⟨gb119, 1, none⟩ (.int .i64 ((rd_T33 t112 x5_1).f1))).setCell ⟨gb119, 2, none⟩ (.bool ((rd_T33 t112 x5_1).f2))) w.heap.size (fun k_ => k_ ≠ gb119) (.slice (some ad118) t112.length co15) t112) := ⟨by (with_reducible repeat (first | apply Kd.R_alloc | apply Kd.R_drewN | apply Kd.R_drew)); exact Kd.R_mono (Kd.R_far (p := ⟨gb119, 2, none⟩) (Kd.R_far (p := ⟨gb119, 1, none⟩) (Kd.R_far (p := ⟨gb119, 0, none⟩) (Kd.R_mono HO_3.out (fun k_ hk => (⟨hk, hk.2⟩ : _ ∧ k_ ≠ gb119))) (fun _ hk => hk.2) (.int .i64 ((rd_T33 t112 x5_1).f0))) (fun _ hk => hk.2) (.int .i64 ((rd_T33 t112 x5_1).f1))) (fun _ hk => hk.2) (.bool ((rd_T33 t112 x5_1).f2))) (fun _ hk => hk.1.2)⟩
                    have n1_ : Aside0 (Kd.R (Kd.int .i64) 3 (((w16.setCell ⟨gb119, 0, none⟩ (.int .i64 ((rd_T33 t112 x5_1).f0))).setCell ⟨gb119, 1, none⟩ (.int .i64 ((rd_T33 t112 x5_1).f1))).setCell ⟨gb119, 2, none⟩ (.bool ((rd_T33 t112 x5_1).f2))) w.heap.size (fun _ => True) v116 x4_1) := ⟨by (with_reducible repeat (first | apply Kd.R_alloc | apply Kd.R_drewN | apply Kd.R_drew)); exact Kd.R_mono (Kd.R_far (p := ⟨gb119, 2, none⟩) (Kd.R_far (p := ⟨gb119, 1, none⟩) (Kd.R_far (p := ⟨gb119, 0, none⟩) (Kd.R_types HO_4.out BK119.out (by decide)) (fun _ hk => hk.2) (.int .i64 ((rd_T33 t112 x5_1).f0))) (fun _ hk => hk.2) (.int .i64 ((rd_T33 t112 x5_1).f1))) (fun _ hk => hk.2) (.bool ((rd_T33 t112 x5_1).f2))) (fun _ hk => trivial)⟩
                    have n2_ : Aside0 ((((w16.setCell ⟨gb119, 0, none⟩ (.int .i64 ((rd_T33 t112 x5_1).f0))).setCell ⟨gb119, 1, none⟩ (.int .i64 ((rd_T33 t112 x5_1).f1))).setCell ⟨gb119, 2, none⟩ (.bool ((rd_T33 t112 x5_1).f2))).heap[gb119]? = some (.cells #[.int .i64 ((rd_T33 t112 x5_1).f0), .int .i64 ((rd_T33 t112 x5_1).f1), .bool ((rd_T33 t112 x5_1).f2)] 33 (0, 0))) := ⟨by (with_reducible repeat (first | refine blk_drewN ?_ _ | refine blk_drew ?_ | refine blk_alloc ?_ _)); refine blk_put (cs := #[.int .i64 ((rd_T33 t112 x5_1).f0), .int .i64 ((rd_T33 t112 x5_1).f1), .bool false]) ?_ 2 _ rfl; (with_reducible repeat (first | refine blk_drewN ?_ _ | refine blk_drew ?_ | refine blk_alloc ?_ _)); refine blk_put (cs := #[.int .i64 ((rd_T33 t112 x5_1).f0), .int .i64 0, .bool false]) ?_ 1 _ rfl; (with_reducible repeat (first | refine blk_drewN ?_ _ | refine blk_drew ?_ | refine blk_alloc ?_ _)); refine blk_put (cs := #[.int .i64 0, .int .i64 0, .bool false]) ?_ 0 _ rfl; (with_reducible repeat (first | refine blk_drewN ?_ _ | refine blk_drew ?_ | refine blk_alloc ?_ _)); exact BK119.out⟩
                    have n3_ : Aside0 (Below w.heap.size w (((w16.setCell ⟨gb119, 0, none⟩ (.int .i64 ((rd_T33 t112 x5_1).f0))).setCell ⟨gb119, 1, none⟩ (.int .i64 ((rd_T33 t112 x5_1).f1))).setCell ⟨gb119, 2, none⟩ (.bool ((rd_T33 t112 x5_1).f2)))) := ⟨by repeat (first | (with_reducible first | exact HB.out | apply below_alloc | apply pw_below_drewN | apply below_drew1 | refine below_set ?_ GE119.out) | exact HB.out)⟩
                    (try clear HO_3)
                    (try clear HO_4)
                    (try clear BK119)
                    (try clear HB)
                    generalize (((w16.setCell ⟨gb119, 0, none⟩ (.int .i64 ((rd_T33 t112 x5_1).f0))).setCell ⟨gb119, 1, none⟩ (.int .i64 ((rd_T33 t112 x5_1).f1))).setCell ⟨gb119, 2, none⟩ (.bool ((rd_T33 t112 x5_1).f2))) = w19 at n0_ n1_ n2_ n3_ ⊢
                    have HO_3 := n0_
                    have HO_4 := n1_
                    have BK119 := n2_
                    have HB := n3_
                    clear n0_ n1_ n2_ n3_
                    have z0_ : w19.cell? ⟨gb119, 0, none⟩ = some (.int .i64 ((rd_T33 t112 x5_1).f0)) := (blk_cell BK119.out 0).trans rfl
                    have z1_ : w19.cell? ⟨gb119, 1, none⟩ = some (.int .i64 ((rd_T33 t112 x5_1).f1)) := (blk_cell BK119.out 1).trans rfl
                    have z2_ : w19.cell? ⟨gb119, 2, none⟩ = some (.bool ((rd_T33 t112 x5_1).f2)) := (blk_cell BK119.out 2).trans rfl
                    go_quiet (fail)
                    try go_wp2
                    go_meet
                    case rel => exact ⟨_, (true), (by first | rfl | (simp; done) | (simp [*]; done)), H', ⟨by have := HK1.out; first | omega | exact Nat.le_refl _⟩, ⟨by (with_reducible repeat (first | apply Kd.R_alloc | apply Kd.R_drewN | apply Kd.R_drew)); exact HO_3.out⟩, ⟨by (with_reducible repeat (first | apply Kd.R_alloc | apply Kd.R_drewN | apply Kd.R_drew)); exact HO_4.out⟩, ⟨by (with_reducible repeat (first | refine blk_drewN ?_ _ | refine blk_drew ?_ | refine blk_alloc ?_ _)); exact BK119.out⟩, ⟨by repeat (first | (with_reducible first | exact HB.out | apply below_alloc | apply pw_below_drewN | apply below_drew1 | refine below_set ?_ GE119.out) | exact HB.out)⟩⟩
                  · rw [if_neg c18] at H
                    have c18b0 : decide (((rd_T33 t112 x5_1).f0) < 0) = false := decide_eq_false c18
                    clear c18
                    (first | rw [c18b0] | (simp only [i64_w, i32_w]; rw [c18b0]) | skip)
                    by_cases c21 : ((rd_T33 t112 x5_1).f1) ≥ (l0.length : Int)
                    · rw [if_pos c21] at H
                      have c21b0 : decide ((l0.length : Int) ≤ ((rd_T33 t112 x5_1).f1)) = true := decide_eq_true c21
                      clear c21
                      have H' := Aside0.mk H
                      clear H
                      try go_wp2
                      have n0_ : Aside0 (Kd.R k33 33 (((w16.setCell ⟨gb119, 0, none⟩ (.int .i64 ((rd_T33 t112 x5_1).f0))).setCell ⟨gb119, 1, none⟩ (.int .i64 ((rd_T33 t112 x5_1).f1))).setCell ⟨gb119, 2, none⟩ (.bool ((rd_T33 t112 x5_1).f2))) w.heap.size (fun k_ => k_ ≠ gb119) (.slice (some ad118) t112.length co15) t112) := ⟨by (with_reducible repeat (first | apply Kd.R_alloc | apply Kd.R_drewN | apply Kd.R_drew)); exact Kd.R_mono (Kd.R_far (p := ⟨gb119, 2, none⟩) (Kd.R_far (p := ⟨gb119, 1, none⟩) (Kd.R_far (p := ⟨gb119, 0, none⟩) (Kd.R_mono HO_3.out (fun k_ hk => (⟨hk, hk.2⟩ : _ ∧ k_ ≠ gb119))) (fun _ hk => hk.2) (.int .i64 ((rd_T33 t112 x5_1).f0))) (fun _ hk => hk.2) (.int .i64 ((rd_T33 t112 x5_1).f1))) (fun _ hk => hk.2) (.bool ((rd_T33 t112 x5_1).f2))) (fun _ hk => hk.1.2)⟩
                      have n1_ : Aside0 (Kd.R (Kd.int .i64) 3 (((w16.setCell ⟨gb119, 0, none⟩ (.int .i64 ((rd_T33 t112 x5_1).f0))).setCell ⟨gb119, 1, none⟩ (.int .i64 ((rd_T33 t112 x5_1).f1))).setCell ⟨gb119, 2, none⟩ (.bool ((rd_T33 t112 x5_1).f2))) w.heap.size (fun _ => True) v116 x4_1) := ⟨by (with_reducible repeat (first | apply Kd.R_alloc | apply Kd.R_drewN | apply Kd.R_drew)); exact Kd.R_mono (Kd.R_far (p := ⟨gb119, 2, none⟩) (Kd.R_far (p := ⟨gb119, 1, none⟩) (Kd.R_far (p := ⟨gb119, 0, none⟩) (Kd.R_types HO_4.out BK119.out (by decide)) (fun _ hk => hk.2) (.int .i64 ((rd_T33 t112 x5_1).f0))) (fun _ hk => hk.2) (.int .i64 ((rd_T33 t112 x5_1).f1))) (fun _ hk => hk.2) (.bool ((rd_T33 t112 x5_1).f2))) (fun _ hk => trivial)⟩
                      have n2_ : Aside0 ((((w16.setCell ⟨gb119, 0, none⟩ (.int .i64 ((rd_T33 t112 x5_1).f0))).setCell ⟨gb119, 1, none⟩ (.int .i64 ((rd_T33 t112 x5_1).f1))).setCell ⟨gb119, 2, none⟩ (.bool ((rd_T33 t112 x5_1).f2))).heap[gb119]? = some (.cells #[.int .i64 ((rd_T33 t112 x5_1).f0), .int .i64 ((rd_T33 t112 x5_1).f1), .bool ((rd_T33 t112 x5_1).f2)] 33 (0, 0))) := ⟨by (with_reducible repeat (first | refine blk_drewN ?_ _ | refine blk_drew ?_ | refine blk_alloc ?_ _)); refine blk_put (cs := #[.int .i64 ((rd_T33 t112 x5_1).f0), .int .i64 ((rd_T33 t112 x5_1).f1), .bool false]) ?_ 2 _ rfl; (with_reducible repeat (first | refine blk_drewN ?_ _ | refine blk_drew ?_ | refine blk_alloc ?_ _)); refine blk_put (cs := #[.int .i64 ((rd_T33 t112 x5_1).f0), .int .i64 0, .bool false]) ?_ 1 _ rfl; (with_reducible repeat (first | refine blk_drewN ?_ _ | refine blk_drew ?_ | refine blk_alloc ?_ _)); refine blk_put (cs := #[.int .i64 0, .int .i64 0, .bool false]) ?_ 0 _ rfl; (with_reducible repeat (first | refine blk_drewN ?_ _ | refine blk_drew ?_ | refine blk_alloc ?_ _)); exact BK119.out⟩
                      have n3_ : Aside0 (Below w.heap.size w (((w16.setCell ⟨gb119, 0, none⟩ (.int .i64 ((rd_T33 t112 x5_1).f0))).setCell ⟨gb119, 1, none⟩ (.int .i64 ((rd_T33 t112 x5_1).f1))).setCell ⟨gb119, 2, none⟩ (.bool ((rd_T33 t112 x5_1).f2)))) := ⟨by repeat (first | (with_reducible first | exact HB.out | apply below_alloc | apply pw_below_drewN | apply below_drew1 | refine below_set ?_ GE119.out) | exact HB.out)⟩
                      (try clear HO_3)
                      (try clear HO_4)
                      (try clear BK119)
                      (try clear HB)
                      generalize (((w16.setCell ⟨gb119, 0, none⟩ (.int .i64 ((rd_T33 t112 x5_1).f0))).setCell ⟨gb119, 1, none⟩ (.int .i64 ((rd_T33 t112 x5_1).f1))).setCell ⟨gb119, 2, none⟩ (.bool ((rd_T33 t112 x5_1).f2))) = w22 at n0_ n1_ n2_ n3_ ⊢
                      have HO_3 := n0_
                      have HO_4 := n1_
                      have BK119 := n2_
                      have HB := n3_
                      clear n0_ n1_ n2_ n3_
                      have z0_ : w22.cell? ⟨gb119, 0, none⟩ = some (.int .i64 ((rd_T33 t112 x5_1).f0)) := (blk_cell BK119.out 0).trans rfl
                      have z1_ : w22.cell? ⟨gb119, 1, none⟩ = some (.int .i64 ((rd_T33 t112 x5_1).f1)) := (blk_cell BK119.out 1).trans rfl
                      have z2_ : w22.cell? ⟨gb119, 2, none⟩ = some (.bool ((rd_T33 t112 x5_1).f2)) := (blk_cell BK119.out 2).trans rfl
                      go_quiet (fail)
                      try go_wp2
                      go_meet
                      case rel => exact ⟨_, (true), (by first | rfl | (simp; done) | (simp [*]; done)), H', ⟨by have := HK1.out; first | omega | exact Nat.le_refl _⟩, ⟨by (with_reducible repeat (first | apply Kd.R_alloc | apply Kd.R_drewN | apply Kd.R_drew)); exact HO_3.out⟩, ⟨by (with_reducible repeat (first | apply Kd.R_alloc | apply Kd.R_drewN | apply Kd.R_drew)); exact HO_4.out⟩, ⟨by (with_reducible repeat (first | refine blk_drewN ?_ _ | refine blk_drew ?_ | refine blk_alloc ?_ _)); exact BK119.out⟩, ⟨by repeat (first | (with_reducible first | exact HB.out | apply below_alloc | apply pw_below_drewN | apply below_drew1 | refine below_set ?_ GE119.out) | exact HB.out)⟩⟩
                    · rw [if_neg c21] at H
                      have c21b0 : decide ((l0.length : Int) ≤ ((rd_T33 t112 x5_1).f1)) = false := decide_eq_false c21
                      clear c21
                      by_cases c24 : ((rd_T33 t112 x5_1).f0) ≥ ((rd_T33 t112 x5_1).f1)
                      · rw [if_pos c24] at H
                        have c24b0 : decide (((rd_T33 t112 x5_1).f1) ≤ ((rd_T33 t112 x5_1).f0)) = true := decide_eq_true c24
                        clear c24
                        have H' := Aside0.mk H
                        clear H
                        try go_wp2
                        have n0_ : Aside0 (Kd.R k33 33 (((w16.setCell ⟨gb119, 0, none⟩ (.int .i64 ((rd_T33 t112 x5_1).f0))).setCell ⟨gb119, 1, none⟩ (.int .i64 ((rd_T33 t112 x5_1).f1))).setCell ⟨gb119, 2, none⟩ (.bool ((rd_T33 t112 x5_1).f2))) w.heap.size (fun k_ => k_ ≠ gb119) (.slice (some ad118) t112.length co15) t112) := ⟨by (with_reducible repeat (first | apply Kd.R_alloc | apply Kd.R_drewN | apply Kd.R_drew)); exact Kd.R_mono (Kd.R_far (p := ⟨gb119, 2, none⟩) (Kd.R_far (p := ⟨gb119, 1, none⟩) (Kd.R_far (p := ⟨gb119, 0, none⟩) (Kd.R_mono HO_3.out (fun k_ hk => (⟨hk, hk.2⟩ : _ ∧ k_ ≠ gb119))) (fun _ hk => hk.2) (.int .i64 ((rd_T33 t112 x5_1).f0))) (fun _ hk => hk.2) (.int .i64 ((rd_T33 t112 x5_1).f1))) (fun _ hk => hk.2) (.bool ((rd_T33 t112 x5_1).f2))) (fun _ hk => hk.1.2)⟩
                        have n1_ : Aside0 (Kd.R (Kd.int .i64) 3 (((w16.setCell ⟨gb119, 0, none⟩ (.int .i64 ((rd_T33 t112 x5_1).f0))).setCell ⟨gb119, 1, none⟩ (.int .i64 ((rd_T33 t112 x5_1).f1))).setCell ⟨gb119, 2, none⟩ (.bool ((rd_T33 t112 x5_1).f2))) w.heap.size (fun _ => True) v116 x4_1) := ⟨by (with_reducible repeat (first | apply Kd.R_alloc | apply Kd.R_drewN | apply Kd.R_drew)); exact Kd.R_mono (Kd.R_far (p := ⟨gb119, 2, none⟩) (Kd.R_far (p := ⟨gb119, 1, none⟩) (Kd.R_far (p := ⟨gb119, 0, none⟩) (Kd.R_types HO_4.out BK119.out (by decide)) (fun _ hk => hk.2) (.int .i64 ((rd_T33 t112 x5_1).f0))) (fun _ hk => hk.2) (.int .i64 ((rd_T33 t112 x5_1).f1))) (fun _ hk => hk.2) (.bool ((rd_T33 t112 x5_1).f2))) (fun _ hk => trivial)⟩
                        have n2_ : Aside0 ((((w16.setCell ⟨gb119, 0, none⟩ (.int .i64 ((rd_T33 t112 x5_1).f0))).setCell ⟨gb119, 1, none⟩ (.int .i64 ((rd_T33 t112 x5_1).f1))).setCell ⟨gb119, 2, none⟩ (.bool ((rd_T33 t112 x5_1).f2))).heap[gb119]? = some (.cells #[.int .i64 ((rd_T33 t112 x5_1).f0), .int .i64 ((rd_T33 t112 x5_1).f1), .bool ((rd_T33 t112 x5_1).f2)] 33 (0, 0))) := ⟨by (with_reducible repeat (first | refine blk_drewN ?_ _ | refine blk_drew ?_ | refine blk_alloc ?_ _)); refine blk_put (cs := #[.int .i64 ((rd_T33 t112 x5_1).f0), .int .i64 ((rd_T33 t112 x5_1).f1), .bool false]) ?_ 2 _ rfl; (with_reducible repeat (first | refine blk_drewN ?_ _ | refine blk_drew ?_ | refine blk_alloc ?_ _)); refine blk_put (cs := #[.int .i64 ((rd_T33 t112 x5_1).f0), .int .i64 0, .bool false]) ?_ 1 _ rfl; (with_reducible repeat (first | refine blk_drewN ?_ _ | refine blk_drew ?_ | refine blk_alloc ?_ _)); refine blk_put (cs := #[.int .i64 0, .int .i64 0, .bool false]) ?_ 0 _ rfl; (with_reducible repeat (first | refine blk_drewN ?_ _ | refine blk_drew ?_ | refine blk_alloc ?_ _)); exact BK119.out⟩
                        have n3_ : Aside0 (Below w.heap.size w (((w16.setCell ⟨gb119, 0, none⟩ (.int .i64 ((rd_T33 t112 x5_1).f0))).setCell ⟨gb119, 1, none⟩ (.int .i64 ((rd_T33 t112 x5_1).f1))).setCell ⟨gb119, 2, none⟩ (.bool ((rd_T33 t112 x5_1).f2)))) := ⟨by repeat (first | (with_reducible first | exact HB.out | apply below_alloc | apply pw_below_drewN | apply below_drew1 | refine below_set ?_ GE119.out) | exact HB.out)⟩
                        (try clear HO_3)
                        (try clear HO_4)
                        (try clear BK119)
                        (try clear HB)
                        generalize (((w16.setCell ⟨gb119, 0, none⟩ (.int .i64 ((rd_T33 t112 x5_1).f0))).setCell ⟨gb119, 1, none⟩ (.int .i64 ((rd_T33 t112 x5_1).f1))).setCell ⟨gb119, 2, none⟩ (.bool ((rd_T33 t112 x5_1).f2))) = w25 at n0_ n1_ n2_ n3_ ⊢
                        have HO_3 := n0_
                        have HO_4 := n1_
                        have BK119 := n2_
                        have HB := n3_
                        clear n0_ n1_ n2_ n3_
                        have z0_ : w25.cell? ⟨gb119, 0, none⟩ = some (.int .i64 ((rd_T33 t112 x5_1).f0)) := (blk_cell BK119.out 0).trans rfl
                        have z1_ : w25.cell? ⟨gb119, 1, none⟩ = some (.int .i64 ((rd_T33 t112 x5_1).f1)) := (blk_cell BK119.out 1).trans rfl
                        have z2_ : w25.cell? ⟨gb119, 2, none⟩ = some (.bool ((rd_T33 t112 x5_1).f2)) := (blk_cell BK119.out 2).trans rfl
                        go_quiet (fail)
                        try go_wp2
                        go_meet
                        case rel => exact ⟨_, (true), (by first | rfl | (simp; done) | (simp [*]; done)), H', ⟨by have := HK1.out; first | omega | exact Nat.le_refl _⟩, ⟨by (with_reducible repeat (first | apply Kd.R_alloc | apply Kd.R_drewN | apply Kd.R_drew)); exact HO_3.out⟩, ⟨by (with_reducible repeat (first | apply Kd.R_alloc | apply Kd.R_drewN | apply Kd.R_drew)); exact HO_4.out⟩, ⟨by (with_reducible repeat (first | refine blk_drewN ?_ _ | refine blk_drew ?_ | refine blk_alloc ?_ _)); exact BK119.out⟩, ⟨by repeat (first | (with_reducible first | exact HB.out | apply below_alloc | apply pw_below_drewN | apply below_drew1 | refine below_set ?_ GE119.out) | exact HB.out)⟩⟩
                      · rw [if_neg c24] at H
                        have c24b0 : decide (((rd_T33 t112 x5_1).f1) ≤ ((rd_T33 t112 x5_1).f0)) = false := decide_eq_false c24
                        clear c24
                        by_cases c27 : 0 ≤ ((rd_T33 t112 x5_1).f0)
                        · rw [if_pos c27] at H
                          have c27b0 : decide (0 ≤ ((rd_T33 t112 x5_1).f0)) = true := decide_eq_true c27
                          clear c27
                          by_cases c28 : ((rd_T33 t112 x5_1).f0) < (l0.length : Int)
                          · rw [if_pos c28] at H
                            have c28b0 : decide (((rd_T33 t112 x5_1).f0) < (l0.length : Int)) = true := decide_eq_true c28
                            clear c28
                            by_cases c29 : 0 ≤ ((rd_T33 t112 x5_1).f1)
                            · rw [if_pos c29] at H
                              have c29b0 : decide (0 ≤ ((rd_T33 t112 x5_1).f1)) = true := decide_eq_true c29
                              clear c29
                              by_cases c30 : ((rd_T33 t112 x5_1).f1) < (l0.length : Int)
                              · rw [if_pos c30] at H
                                have c30b0 : decide (((rd_T33 t112 x5_1).f1) < (l0.length : Int)) = true := decide_eq_true c30
                                clear c30
                                by_cases c31 : ((rd_T27 l0 ((rd_T33 t112 x5_1).f0)).f0) = ((rd_T27 l0 ((rd_T33 t112 x5_1).f1)).f0)
                                · rw [if_pos c31] at H
                                  have c31b0 : (((rd_T27 l0 ((rd_T33 t112 x5_1).f0)).f0) == ((rd_T27 l0 ((rd_T33 t112 x5_1).f1)).f0)) = true := beq_iff_eq.mpr c31
                                  have c31b1 : (((rd_T27 l0 ((rd_T33 t112 x5_1).f0)).f0) != ((rd_T27 l0 ((rd_T33 t112 x5_1).f1)).f0)) = false := bne_eq_false_iff_eq.mpr c31
                                  clear c31
                                  obtain ⟨bq32, hbq32⟩ : ∃ b_ : Bool, b_ = ((rd_T27 l0 ((rd_T33 t112 x5_1).f0)).f2) := ⟨_, rfl⟩
                                  replace H : (if (bq32 = true) then (rubricatorlaw20_DelimNests.j1 k1 l0 t112 x4_1 x5_1 (!((rd_T27 l0 ((rd_T33 t112 x5_1).f1)).f3)) ((rd_T33 t112 x5_1).f0) ((rd_T33 t112 x5_1).f1) ((rd_T33 t112 x5_1).f2)) else (rubricatorlaw20_DelimNests.j1 k1 l0 t112 x4_1 x5_1 true ((rd_T33 t112 x5_1).f0) ((rd_T33 t112 x5_1).f1) ((rd_T33 t112 x5_1).f2))) = some r := by rw [← hbq32] at H; exact H
                                  have Nbq32 := Aside0.mk hbq32
                                  clear hbq32
                                  by_cases c33 : (bq32 = true)
                                  · subst c33
                                    have H1 : (rubricatorlaw20_DelimNests.j1 k1 l0 t112 x4_1 x5_1 (!((rd_T27 l0 ((rd_T33 t112 x5_1).f1)).f3)) ((rd_T33 t112 x5_1).f0) ((rd_T33 t112 x5_1).f1) ((rd_T33 t112 x5_1).f2)) = some r := by rw [if_pos rfl] at H; exact H
                                    clear H
                                    have H := H1
                                    clear H1
                                    have H' := Aside0.mk H
                                    clear H
                                    try go_wp2
                                    have n0_ : Aside0 (Kd.R k33 33 (((w16.setCell ⟨gb119, 0, none⟩ (.int .i64 ((rd_T33 t112 x5_1).f0))).setCell ⟨gb119, 1, none⟩ (.int .i64 ((rd_T33 t112 x5_1).f1))).setCell ⟨gb119, 2, none⟩ (.bool ((rd_T33 t112 x5_1).f2))) w.heap.size (fun k_ => k_ ≠ gb119) (.slice (some ad118) t112.length co15) t112) := ⟨by (with_reducible repeat (first | apply Kd.R_alloc | apply Kd.R_drewN | apply Kd.R_drew)); exact Kd.R_mono (Kd.R_far (p := ⟨gb119, 2, none⟩) (Kd.R_far (p := ⟨gb119, 1, none⟩) (Kd.R_far (p := ⟨gb119, 0, none⟩) (Kd.R_mono HO_3.out (fun k_ hk => (⟨hk, hk.2⟩ : _ ∧ k_ ≠ gb119))) (fun _ hk => hk.2) (.int .i64 ((rd_T33 t112 x5_1).f0))) (fun _ hk => hk.2) (.int .i64 ((rd_T33 t112 x5_1).f1))) (fun _ hk => hk.2) (.bool ((rd_T33 t112 x5_1).f2))) (fun _ hk => hk.1.2)⟩
                                    have n1_ : Aside0 (Kd.R (Kd.int .i64) 3 (((w16.setCell ⟨gb119, 0, none⟩ (.int .i64 ((rd_T33 t112 x5_1).f0))).setCell ⟨gb119, 1, none⟩ (.int .i64 ((rd_T33 t112 x5_1).f1))).setCell ⟨gb119, 2, none⟩ (.bool ((rd_T33 t112 x5_1).f2))) w.heap.size (fun _ => True) v116 x4_1) := ⟨by (with_reducible repeat (first | apply Kd.R_alloc | apply Kd.R_drewN | apply Kd.R_drew)); exact Kd.R_mono (Kd.R_far (p := ⟨gb119, 2, none⟩) (Kd.R_far (p := ⟨gb119, 1, none⟩) (Kd.R_far (p := ⟨gb119, 0, none⟩) (Kd.R_types HO_4.out BK119.out (by decide)) (fun _ hk => hk.2) (.int .i64 ((rd_T33 t112 x5_1).f0))) (fun _ hk => hk.2) (.int .i64 ((rd_T33 t112 x5_1).f1))) (fun _ hk => hk.2) (.bool ((rd_T33 t112 x5_1).f2))) (fun _ hk => trivial)⟩
                                    have n2_ : Aside0 ((((w16.setCell ⟨gb119, 0, none⟩ (.int .i64 ((rd_T33 t112 x5_1).f0))).setCell ⟨gb119, 1, none⟩ (.int .i64 ((rd_T33 t112 x5_1).f1))).setCell ⟨gb119, 2, none⟩ (.bool ((rd_T33 t112 x5_1).f2))).heap[gb119]? = some (.cells #[.int .i64 ((rd_T33 t112 x5_1).f0), .int .i64 ((rd_T33 t112 x5_1).f1), .bool ((rd_T33 t112 x5_1).f2)] 33 (0, 0))) := ⟨by (with_reducible repeat (first | refine blk_drewN ?_ _ | refine blk_drew ?_ | refine blk_alloc ?_ _)); refine blk_put (cs := #[.int .i64 ((rd_T33 t112 x5_1).f0), .int .i64 ((rd_T33 t112 x5_1).f1), .bool false]) ?_ 2 _ rfl; (with_reducible repeat (first | refine blk_drewN ?_ _ | refine blk_drew ?_ | refine blk_alloc ?_ _)); refine blk_put (cs := #[.int .i64 ((rd_T33 t112 x5_1).f0), .int .i64 0, .bool false]) ?_ 1 _ rfl; (with_reducible repeat (first | refine blk_drewN ?_ _ | refine blk_drew ?_ | refine blk_alloc ?_ _)); refine blk_put (cs := #[.int .i64 0, .int .i64 0, .bool false]) ?_ 0 _ rfl; (with_reducible repeat (first | refine blk_drewN ?_ _ | refine blk_drew ?_ | refine blk_alloc ?_ _)); exact BK119.out⟩
                                    have n3_ : Aside0 (Below w.heap.size w (((w16.setCell ⟨gb119, 0, none⟩ (.int .i64 ((rd_T33 t112 x5_1).f0))).setCell ⟨gb119, 1, none⟩ (.int .i64 ((rd_T33 t112 x5_1).f1))).setCell ⟨gb119, 2, none⟩ (.bool ((rd_T33 t112 x5_1).f2)))) := ⟨by repeat (first | (with_reducible first | exact HB.out | apply below_alloc | apply pw_below_drewN | apply below_drew1 | refine below_set ?_ GE119.out) | exact HB.out)⟩
                                    (try clear HO_3)
                                    (try clear HO_4)
                                    (try clear BK119)
                                    (try clear HB)
                                    generalize (((w16.setCell ⟨gb119, 0, none⟩ (.int .i64 ((rd_T33 t112 x5_1).f0))).setCell ⟨gb119, 1, none⟩ (.int .i64 ((rd_T33 t112 x5_1).f1))).setCell ⟨gb119, 2, none⟩ (.bool ((rd_T33 t112 x5_1).f2))) = w34 at n0_ n1_ n2_ n3_ ⊢
                                    have HO_3 := n0_
                                    have HO_4 := n1_
                                    have BK119 := n2_
                                    have HB := n3_
                                    clear n0_ n1_ n2_ n3_
                                    have p120 : 0 ≤ (((rd_T33 t112 x5_1).f0) : Int) := of_decide_eq_true (by first | (with_reducible assumption) | assumption)
                                    have q120 : ((rd_T33 t112 x5_1).f0) < (l0.length : Int) := of_decide_eq_true (by first | (with_reducible assumption) | assumption)
                                    obtain ⟨ad120, e120, hx120_0, hx120_1, hx120_2, hx120_3⟩ := at_T27 HR0.out ((rd_T33 t112 x5_1).f0) p120 q120
                                    have hw120_3 := hx120_3
                                    have hw120_2 := hx120_2
                                    have hw120_1 := hx120_1
                                    have hw120_0 := hx120_0
                                    (try rw [← Nbq32.out] at hx120_2)
                                    (try rw [← Nbq32.out] at hx120_3)
                                    cases e120
                                    replace hx120_0 := (HB.out.cell (World.block_lt_of_cell? w _ hx120_0)).trans hx120_0
                                    replace hx120_1 := (HB.out.cell (World.block_lt_of_cell? w _ hx120_1)).trans hx120_1
                                    replace hx120_2 := (HB.out.cell (World.block_lt_of_cell? w _ hx120_2)).trans hx120_2
                                    replace hx120_3 := (HB.out.cell (World.block_lt_of_cell? w _ hx120_3)).trans hx120_3
                                    replace p120 := eq_true p120
                                    replace q120 := eq_true q120
                                    have p121 : 0 ≤ (((rd_T33 t112 x5_1).f1) : Int) := of_decide_eq_true (by first | (with_reducible assumption) | assumption)
                                    have q121 : ((rd_T33 t112 x5_1).f1) < (l0.length : Int) := of_decide_eq_true (by first | (with_reducible assumption) | assumption)
                                    obtain ⟨ad121, e121, hx121_0, hx121_1, hx121_2, hx121_3⟩ := at_T27 HR0.out ((rd_T33 t112 x5_1).f1) p121 q121
                                    have hw121_3 := hx121_3
                                    have hw121_2 := hx121_2
                                    have hw121_1 := hx121_1
                                    have hw121_0 := hx121_0
                                    (try rw [← Nbq32.out] at hx121_2)
                                    (try rw [← Nbq32.out] at hx121_3)
                                    obtain rfl : ad120 = ad121 := (by injection e121)
                                    replace hx121_0 := (HB.out.cell (World.block_lt_of_cell? w _ hx121_0)).trans hx121_0
                                    replace hx121_1 := (HB.out.cell (World.block_lt_of_cell? w _ hx121_1)).trans hx121_1
                                    replace hx121_2 := (HB.out.cell (World.block_lt_of_cell? w _ hx121_2)).trans hx121_2
                                    replace hx121_3 := (HB.out.cell (World.block_lt_of_cell? w _ hx121_3)).trans hx121_3
                                    replace p121 := eq_true p121
                                    replace q121 := eq_true q121
                                    have p122 : 0 ≤ (((rd_T33 t112 x5_1).f0) : Int) := of_decide_eq_true (by first | (with_reducible assumption) | assumption)
                                    have q122 : ((rd_T33 t112 x5_1).f0) < (l0.length : Int) := of_decide_eq_true (by first | (with_reducible assumption) | assumption)
                                    obtain ⟨ad122, e122, hx122_0, hx122_1, hx122_2, hx122_3⟩ := at_T27 HR0.out ((rd_T33 t112 x5_1).f0) p122 q122
                                    have hw122_3 := hx122_3
                                    have hw122_2 := hx122_2
                                    have hw122_1 := hx122_1
                                    have hw122_0 := hx122_0
                                    (try rw [← Nbq32.out] at hx122_2)
                                    (try rw [← Nbq32.out] at hx122_3)
                                    obtain rfl : ad120 = ad122 := (by injection e122)
                                    replace hx122_0 := (HB.out.cell (World.block_lt_of_cell? w _ hx122_0)).trans hx122_0
                                    replace hx122_1 := (HB.out.cell (World.block_lt_of_cell? w _ hx122_1)).trans hx122_1
                                    replace hx122_2 := (HB.out.cell (World.block_lt_of_cell? w _ hx122_2)).trans hx122_2
                                    replace hx122_3 := (HB.out.cell (World.block_lt_of_cell? w _ hx122_3)).trans hx122_3
                                    replace p122 := eq_true p122
                                    replace q122 := eq_true q122
                                    have p123 : 0 ≤ (((rd_T33 t112 x5_1).f1) : Int) := of_decide_eq_true (by first | (with_reducible assumption) | assumption)
                                    have q123 : ((rd_T33 t112 x5_1).f1) < (l0.length : Int) := of_decide_eq_true (by first | (with_reducible assumption) | assumption)
                                    obtain ⟨ad123, e123, hx123_0, hx123_1, hx123_2, hx123_3⟩ := at_T27 HR0.out ((rd_T33 t112 x5_1).f1) p123 q123
                                    have hw123_3 := hx123_3
                                    have hw123_2 := hx123_2
                                    have hw123_1 := hx123_1
                                    have hw123_0 := hx123_0
                                    (try rw [← Nbq32.out] at hx123_2)
                                    (try rw [← Nbq32.out] at hx123_3)
                                    obtain rfl : ad120 = ad123 := (by injection e123)
                                    replace hx123_0 := (HB.out.cell (World.block_lt_of_cell? w _ hx123_0)).trans hx123_0
                                    replace hx123_1 := (HB.out.cell (World.block_lt_of_cell? w _ hx123_1)).trans hx123_1
                                    replace hx123_2 := (HB.out.cell (World.block_lt_of_cell? w _ hx123_2)).trans hx123_2
                                    replace hx123_3 := (HB.out.cell (World.block_lt_of_cell? w _ hx123_3)).trans hx123_3
                                    replace p123 := eq_true p123
                                    replace q123 := eq_true q123
                                    have z0_ : w34.cell? ⟨gb119, 0, none⟩ = some (.int .i64 ((rd_T33 t112 x5_1).f0)) := (blk_cell BK119.out 0).trans rfl
                                    have z1_ : w34.cell? ⟨gb119, 1, none⟩ = some (.int .i64 ((rd_T33 t112 x5_1).f1)) := (blk_cell BK119.out 1).trans rfl
                                    have z2_ : w34.cell? ⟨gb119, 2, none⟩ = some (.bool ((rd_T33 t112 x5_1).f2)) := (blk_cell BK119.out 2).trans rfl
                                    go_quiet (fail)
                                    try go_wp2
                                    go_meet
                                    case rel => exact ⟨_, (!((rd_T27 l0 ((rd_T33 t112 x5_1).f1)).f3)), (by first | rfl | (simp; done) | (simp [*]; done)), H', ⟨by have := HK1.out; first | omega | exact Nat.le_refl _⟩, ⟨by (with_reducible repeat (first | apply Kd.R_alloc | apply Kd.R_drewN | apply Kd.R_drew)); exact HO_3.out⟩, ⟨by (with_reducible repeat (first | apply Kd.R_alloc | apply Kd.R_drewN | apply Kd.R_drew)); exact HO_4.out⟩, ⟨by (with_reducible repeat (first | refine blk_drewN ?_ _ | refine blk_drew ?_ | refine blk_alloc ?_ _)); exact BK119.out⟩, ⟨by repeat (first | (with_reducible first | exact HB.out | apply below_alloc | apply pw_below_drewN | apply below_drew1 | refine below_set ?_ GE119.out) | exact HB.out)⟩⟩
                                  · replace c33 := Bool.eq_false_iff.mpr c33
                                    subst c33
                                    have H1 : (rubricatorlaw20_DelimNests.j1 k1 l0 t112 x4_1 x5_1 true ((rd_T33 t112 x5_1).f0) ((rd_T33 t112 x5_1).f1) ((rd_T33 t112 x5_1).f2)) = some r := by rw [if_neg (show ¬ (false = true) by decide)] at H; exact H
                                    clear H
                                    have H := H1
                                    clear H1
                                    have H' := Aside0.mk H
                                    clear H
                                    try go_wp2
                                    have n0_ : Aside0 (Kd.R k33 33 (((w16.setCell ⟨gb119, 0, none⟩ (.int .i64 ((rd_T33 t112 x5_1).f0))).setCell ⟨gb119, 1, none⟩ (.int .i64 ((rd_T33 t112 x5_1).f1))).setCell ⟨gb119, 2, none⟩ (.bool ((rd_T33 t112 x5_1).f2))) w.heap.size (fun k_ => k_ ≠ gb119) (.slice (some ad118) t112.length co15) t112) := ⟨by (with_reducible repeat (first | apply Kd.R_alloc | apply Kd.R_drewN | apply Kd.R_drew)); exact Kd.R_mono (Kd.R_far (p := ⟨gb119, 2, none⟩) (Kd.R_far (p := ⟨gb119, 1, none⟩) (Kd.R_far (p := ⟨gb119, 0, none⟩) (Kd.R_mono HO_3.out (fun k_ hk => (⟨hk, hk.2⟩ : _ ∧ k_ ≠ gb119))) (fun _ hk => hk.2) (.int .i64 ((rd_T33 t112 x5_1).f0))) (fun _ hk => hk.2) (.int .i64 ((rd_T33 t112 x5_1).f1))) (fun _ hk => hk.2) (.bool ((rd_T33 t112 x5_1).f2))) (fun _ hk => hk.1.2)⟩
                                    have n1_ : Aside0 (Kd.R (Kd.int .i64) 3 (((w16.setCell ⟨gb119, 0, none⟩ (.int .i64 ((rd_T33 t112 x5_1).f0))).setCell ⟨gb119, 1, none⟩ (.int .i64 ((rd_T33 t112 x5_1).f1))).setCell ⟨gb119, 2, none⟩ (.bool ((rd_T33 t112 x5_1).f2))) w.heap.size (fun _ => True) v116 x4_1) := ⟨by (with_reducible repeat (first | apply Kd.R_alloc | apply Kd.R_drewN | apply Kd.R_drew)); exact Kd.R_mono (Kd.R_far (p := ⟨gb119, 2, none⟩) (Kd.R_far (p := ⟨gb119, 1, none⟩) (Kd.R_far (p := ⟨gb119, 0, none⟩) (Kd.R_types HO_4.out BK119.out (by decide)) (fun _ hk => hk.2) (.int .i64 ((rd_T33 t112 x5_1).f0))) (fun _ hk => hk.2) (.int .i64 ((rd_T33 t112 x5_1).f1))) (fun _ hk => hk.2) (.bool ((rd_T33 t112 x5_1).f2))) (fun _ hk => trivial)⟩
                                    have n2_ : Aside0 ((((w16.setCell ⟨gb119, 0, none⟩ (.int .i64 ((rd_T33 t112 x5_1).f0))).setCell ⟨gb119, 1, none⟩ (.int .i64 ((rd_T33 t112 x5_1).f1))).setCell ⟨gb119, 2, none⟩ (.bool ((rd_T33 t112 x5_1).f2))).heap[gb119]? = some (.cells #[.int .i64 ((rd_T33 t112 x5_1).f0), .int .i64 ((rd_T33 t112 x5_1).f1), .bool ((rd_T33 t112 x5_1).f2)] 33 (0, 0))) := ⟨by (with_reducible repeat (first | refine blk_drewN ?_ _ | refine blk_drew ?_ | refine blk_alloc ?_ _)); refine blk_put (cs := #[.int .i64 ((rd_T33 t112 x5_1).f0), .int .i64 ((rd_T33 t112 x5_1).f1), .bool false]) ?_ 2 _ rfl; (with_reducible repeat (first | refine blk_drewN ?_ _ | refine blk_drew ?_ | refine blk_alloc ?_ _)); refine blk_put (cs := #[.int .i64 ((rd_T33 t112 x5_1).f0), .int .i64 0, .bool false]) ?_ 1 _ rfl; (with_reducible repeat (first | refine blk_drewN ?_ _ | refine blk_drew ?_ | refine blk_alloc ?_ _)); refine blk_put (cs := #[.int .i64 0, .int .i64 0, .bool false]) ?_ 0 _ rfl; (with_reducible repeat (first | refine blk_drewN ?_ _ | refine blk_drew ?_ | refine blk_alloc ?_ _)); exact BK119.out⟩
                                    have n3_ : Aside0 (Below w.heap.size w (((w16.setCell ⟨gb119, 0, none⟩ (.int .i64 ((rd_T33 t112 x5_1).f0))).setCell ⟨gb119, 1, none⟩ (.int .i64 ((rd_T33 t112 x5_1).f1))).setCell ⟨gb119, 2, none⟩ (.bool ((rd_T33 t112 x5_1).f2)))) := ⟨by repeat (first | (with_reducible first | exact HB.out | apply below_alloc | apply pw_below_drewN | apply below_drew1 | refine below_set ?_ GE119.out) | exact HB.out)⟩
                                    (try clear HO_3)
                                    (try clear HO_4)
                                    (try clear BK119)
                                    (try clear HB)
                                    generalize (((w16.setCell ⟨gb119, 0, none⟩ (.int .i64 ((rd_T33 t112 x5_1).f0))).setCell ⟨gb119, 1, none⟩ (.int .i64 ((rd_T33 t112 x5_1).f1))).setCell ⟨gb119, 2, none⟩ (.bool ((rd_T33 t112 x5_1).f2))) = w36 at n0_ n1_ n2_ n3_ ⊢
                                    have HO_3 := n0_
                                    have HO_4 := n1_
                                    have BK119 := n2_
                                    have HB := n3_
                                    clear n0_ n1_ n2_ n3_
                                    have p120 : 0 ≤ (((rd_T33 t112 x5_1).f0) : Int) := of_decide_eq_true (by first | (with_reducible assumption) | assumption)
                                    have q120 : ((rd_T33 t112 x5_1).f0) < (l0.length : Int) := of_decide_eq_true (by first | (with_reducible assumption) | assumption)
                                    obtain ⟨ad120, e120, hx120_0, hx120_1, hx120_2, hx120_3⟩ := at_T27 HR0.out ((rd_T33 t112 x5_1).f0) p120 q120
                                    have hw120_3 := hx120_3
                                    have hw120_2 := hx120_2
                                    have hw120_1 := hx120_1
                                    have hw120_0 := hx120_0
                                    (try rw [← Nbq32.out] at hx120_2)
                                    (try rw [← Nbq32.out] at hx120_3)
                                    cases e120
                                    replace hx120_0 := (HB.out.cell (World.block_lt_of_cell? w _ hx120_0)).trans hx120_0
                                    replace hx120_1 := (HB.out.cell (World.block_lt_of_cell? w _ hx120_1)).trans hx120_1
                                    replace hx120_2 := (HB.out.cell (World.block_lt_of_cell? w _ hx120_2)).trans hx120_2
                                    replace hx120_3 := (HB.out.cell (World.block_lt_of_cell? w _ hx120_3)).trans hx120_3
                                    replace p120 := eq_true p120
                                    replace q120 := eq_true q120
                                    have p121 : 0 ≤ (((rd_T33 t112 x5_1).f1) : Int) := of_decide_eq_true (by first | (with_reducible assumption) | assumption)
                                    have q121 : ((rd_T33 t112 x5_1).f1) < (l0.length : Int) := of_decide_eq_true (by first | (with_reducible assumption) | assumption)
                                    obtain ⟨ad121, e121, hx121_0, hx121_1, hx121_2, hx121_3⟩ := at_T27 HR0.out ((rd_T33 t112 x5_1).f1) p121 q121
                                    have hw121_3 := hx121_3
                                    have hw121_2 := hx121_2
                                    have hw121_1 := hx121_1
                                    have hw121_0 := hx121_0
                                    (try rw [← Nbq32.out] at hx121_2)
                                    (try rw [← Nbq32.out] at hx121_3)
                                    obtain rfl : ad120 = ad121 := (by injection e121)
                                    replace hx121_0 := (HB.out.cell (World.block_lt_of_cell? w _ hx121_0)).trans hx121_0
                                    replace hx121_1 := (HB.out.cell (World.block_lt_of_cell? w _ hx121_1)).trans hx121_1
                                    replace hx121_2 := (HB.out.cell (World.block_lt_of_cell? w _ hx121_2)).trans hx121_2
                                    replace hx121_3 := (HB.out.cell (World.block_lt_of_cell? w _ hx121_3)).trans hx121_3
                                    replace p121 := eq_true p121
                                    replace q121 := eq_true q121
                                    have p122 : 0 ≤ (((rd_T33 t112 x5_1).f0) : Int) := of_decide_eq_true (by first | (with_reducible assumption) | assumption)
                                    have q122 : ((rd_T33 t112 x5_1).f0) < (l0.length : Int) := of_decide_eq_true (by first | (with_reducible assumption) | assumption)
                                    obtain ⟨ad122, e122, hx122_0, hx122_1, hx122_2, hx122_3⟩ := at_T27 HR0.out ((rd_T33 t112 x5_1).f0) p122 q122
                                    have hw122_3 := hx122_3
                                    have hw122_2 := hx122_2
                                    have hw122_1 := hx122_1
                                    have hw122_0 := hx122_0
                                    (try rw [← Nbq32.out] at hx122_2)
                                    (try rw [← Nbq32.out] at hx122_3)
                                    obtain rfl : ad120 = ad122 := (by injection e122)
                                    replace hx122_0 := (HB.out.cell (World.block_lt_of_cell? w _ hx122_0)).trans hx122_0
                                    replace hx122_1 := (HB.out.cell (World.block_lt_of_cell? w _ hx122_1)).trans hx122_1
                                    replace hx122_2 := (HB.out.cell (World.block_lt_of_cell? w _ hx122_2)).trans hx122_2
                                    replace hx122_3 := (HB.out.cell (World.block_lt_of_cell? w _ hx122_3)).trans hx122_3
                                    replace p122 := eq_true p122
                                    replace q122 := eq_true q122
                                    have z0_ : w36.cell? ⟨gb119, 0, none⟩ = some (.int .i64 ((rd_T33 t112 x5_1).f0)) := (blk_cell BK119.out 0).trans rfl
                                    have z1_ : w36.cell? ⟨gb119, 1, none⟩ = some (.int .i64 ((rd_T33 t112 x5_1).f1)) := (blk_cell BK119.out 1).trans rfl
                                    have z2_ : w36.cell? ⟨gb119, 2, none⟩ = some (.bool ((rd_T33 t112 x5_1).f2)) := (blk_cell BK119.out 2).trans rfl
                                    go_quiet (fail)
                                    try go_wp2
                                    go_meet
                                    case rel => exact ⟨_, (true), (by first | rfl | (simp; done) | (simp [*]; done)), H', ⟨by have := HK1.out; first | omega | exact Nat.le_refl _⟩, ⟨by (with_reducible repeat (first | apply Kd.R_alloc | apply Kd.R_drewN | apply Kd.R_drew)); exact HO_3.out⟩, ⟨by (with_reducible repeat (first | apply Kd.R_alloc | apply Kd.R_drewN | apply Kd.R_drew)); exact HO_4.out⟩, ⟨by (with_reducible repeat (first | refine blk_drewN ?_ _ | refine blk_drew ?_ | refine blk_alloc ?_ _)); exact BK119.out⟩, ⟨by repeat (first | (with_reducible first | exact HB.out | apply below_alloc | apply pw_below_drewN | apply below_drew1 | refine below_set ?_ GE119.out) | exact HB.out)⟩⟩
                                · rw [if_neg c31] at H
                                  have c31b0 : (((rd_T27 l0 ((rd_T33 t112 x5_1).f0)).f0) == ((rd_T27 l0 ((rd_T33 t112 x5_1).f1)).f0)) = false := beq_eq_false_iff_ne.mpr c31
                                  have c31b1 : (((rd_T27 l0 ((rd_T33 t112 x5_1).f0)).f0) != ((rd_T27 l0 ((rd_T33 t112 x5_1).f1)).f0)) = true := bne_iff_ne.mpr c31
                                  have H' := Aside0.mk H
                                  clear H
                                  try go_wp2
                                  have n0_ : Aside0 (Kd.R k33 33 (((w16.setCell ⟨gb119, 0, none⟩ (.int .i64 ((rd_T33 t112 x5_1).f0))).setCell ⟨gb119, 1, none⟩ (.int .i64 ((rd_T33 t112 x5_1).f1))).setCell ⟨gb119, 2, none⟩ (.bool ((rd_T33 t112 x5_1).f2))) w.heap.size (fun k_ => k_ ≠ gb119) (.slice (some ad118) t112.length co15) t112) := ⟨by (with_reducible repeat (first | apply Kd.R_alloc | apply Kd.R_drewN | apply Kd.R_drew)); exact Kd.R_mono (Kd.R_far (p := ⟨gb119, 2, none⟩) (Kd.R_far (p := ⟨gb119, 1, none⟩) (Kd.R_far (p := ⟨gb119, 0, none⟩) (Kd.R_mono HO_3.out (fun k_ hk => (⟨hk, hk.2⟩ : _ ∧ k_ ≠ gb119))) (fun _ hk => hk.2) (.int .i64 ((rd_T33 t112 x5_1).f0))) (fun _ hk => hk.2) (.int .i64 ((rd_T33 t112 x5_1).f1))) (fun _ hk => hk.2) (.bool ((rd_T33 t112 x5_1).f2))) (fun _ hk => hk.1.2)⟩
                                  have n1_ : Aside0 (Kd.R (Kd.int .i64) 3 (((w16.setCell ⟨gb119, 0, none⟩ (.int .i64 ((rd_T33 t112 x5_1).f0))).setCell ⟨gb119, 1, none⟩ (.int .i64 ((rd_T33 t112 x5_1).f1))).setCell ⟨gb119, 2, none⟩ (.bool ((rd_T33 t112 x5_1).f2))) w.heap.size (fun _ => True) v116 x4_1) := ⟨by (with_reducible repeat (first | apply Kd.R_alloc | apply Kd.R_drewN | apply Kd.R_drew)); exact Kd.R_mono (Kd.R_far (p := ⟨gb119, 2, none⟩) (Kd.R_far (p := ⟨gb119, 1, none⟩) (Kd.R_far (p := ⟨gb119, 0, none⟩) (Kd.R_types HO_4.out BK119.out (by decide)) (fun _ hk => hk.2) (.int .i64 ((rd_T33 t112 x5_1).f0))) (fun _ hk => hk.2) (.int .i64 ((rd_T33 t112 x5_1).f1))) (fun _ hk => hk.2) (.bool ((rd_T33 t112 x5_1).f2))) (fun _ hk => trivial)⟩
                                  have n2_ : Aside0 ((((w16.setCell ⟨gb119, 0, none⟩ (.int .i64 ((rd_T33 t112 x5_1).f0))).setCell ⟨gb119, 1, none⟩ (.int .i64 ((rd_T33 t112 x5_1).f1))).setCell ⟨gb119, 2, none⟩ (.bool ((rd_T33 t112 x5_1).f2))).heap[gb119]? = some (.cells #[.int .i64 ((rd_T33 t112 x5_1).f0), .int .i64 ((rd_T33 t112 x5_1).f1), .bool ((rd_T33 t112 x5_1).f2)] 33 (0, 0))) := ⟨by (with_reducible repeat (first | refine blk_drewN ?_ _ | refine blk_drew ?_ | refine blk_alloc ?_ _)); refine blk_put (cs := #[.int .i64 ((rd_T33 t112 x5_1).f0), .int .i64 ((rd_T33 t112 x5_1).f1), .bool false]) ?_ 2 _ rfl; (with_reducible repeat (first | refine blk_drewN ?_ _ | refine blk_drew ?_ | refine blk_alloc ?_ _)); refine blk_put (cs := #[.int .i64 ((rd_T33 t112 x5_1).f0), .int .i64 0, .bool false]) ?_ 1 _ rfl; (with_reducible repeat (first | refine blk_drewN ?_ _ | refine blk_drew ?_ | refine blk_alloc ?_ _)); refine blk_put (cs := #[.int .i64 0, .int .i64 0, .bool false]) ?_ 0 _ rfl; (with_reducible repeat (first | refine blk_drewN ?_ _ | refine blk_drew ?_ | refine blk_alloc ?_ _)); exact BK119.out⟩
                                  have n3_ : Aside0 (Below w.heap.size w (((w16.setCell ⟨gb119, 0, none⟩ (.int .i64 ((rd_T33 t112 x5_1).f0))).setCell ⟨gb119, 1, none⟩ (.int .i64 ((rd_T33 t112 x5_1).f1))).setCell ⟨gb119, 2, none⟩ (.bool ((rd_T33 t112 x5_1).f2)))) := ⟨by repeat (first | (with_reducible first | exact HB.out | apply below_alloc | apply pw_below_drewN | apply below_drew1 | refine below_set ?_ GE119.out) | exact HB.out)⟩
                                  (try clear HO_3)
                                  (try clear HO_4)
                                  (try clear BK119)
                                  (try clear HB)
                                  generalize (((w16.setCell ⟨gb119, 0, none⟩ (.int .i64 ((rd_T33 t112 x5_1).f0))).setCell ⟨gb119, 1, none⟩ (.int .i64 ((rd_T33 t112 x5_1).f1))).setCell ⟨gb119, 2, none⟩ (.bool ((rd_T33 t112 x5_1).f2))) = w38 at n0_ n1_ n2_ n3_ ⊢
                                  have HO_3 := n0_
                                  have HO_4 := n1_
                                  have BK119 := n2_
                                  have HB := n3_
                                  clear n0_ n1_ n2_ n3_
                                  have p120 : 0 ≤ (((rd_T33 t112 x5_1).f0) : Int) := of_decide_eq_true (by first | (with_reducible assumption) | assumption)
                                  have q120 : ((rd_T33 t112 x5_1).f0) < (l0.length : Int) := of_decide_eq_true (by first | (with_reducible assumption) | assumption)
                                  obtain ⟨ad120, e120, hx120_0, hx120_1, hx120_2, hx120_3⟩ := at_T27 HR0.out ((rd_T33 t112 x5_1).f0) p120 q120
                                  have hw120_3 := hx120_3
                                  have hw120_2 := hx120_2
                                  have hw120_1 := hx120_1
                                  have hw120_0 := hx120_0
                                  cases e120
                                  replace hx120_0 := (HB.out.cell (World.block_lt_of_cell? w _ hx120_0)).trans hx120_0
                                  replace hx120_1 := (HB.out.cell (World.block_lt_of_cell? w _ hx120_1)).trans hx120_1
                                  replace hx120_2 := (HB.out.cell (World.block_lt_of_cell? w _ hx120_2)).trans hx120_2
                                  replace hx120_3 := (HB.out.cell (World.block_lt_of_cell? w _ hx120_3)).trans hx120_3
                                  replace p120 := eq_true p120
                                  replace q120 := eq_true q120
                                  have p121 : 0 ≤ (((rd_T33 t112 x5_1).f1) : Int) := of_decide_eq_true (by first | (with_reducible assumption) | assumption)
                                  have q121 : ((rd_T33 t112 x5_1).f1) < (l0.length : Int) := of_decide_eq_true (by first | (with_reducible assumption) | assumption)
                                  obtain ⟨ad121, e121, hx121_0, hx121_1, hx121_2, hx121_3⟩ := at_T27 HR0.out ((rd_T33 t112 x5_1).f1) p121 q121
                                  have hw121_3 := hx121_3
                                  have hw121_2 := hx121_2
                                  have hw121_1 := hx121_1
                                  have hw121_0 := hx121_0
                                  obtain rfl : ad120 = ad121 := (by injection e121)
                                  replace hx121_0 := (HB.out.cell (World.block_lt_of_cell? w _ hx121_0)).trans hx121_0
                                  replace hx121_1 := (HB.out.cell (World.block_lt_of_cell? w _ hx121_1)).trans hx121_1
                                  replace hx121_2 := (HB.out.cell (World.block_lt_of_cell? w _ hx121_2)).trans hx121_2
                                  replace hx121_3 := (HB.out.cell (World.block_lt_of_cell? w _ hx121_3)).trans hx121_3
                                  replace p121 := eq_true p121
                                  replace q121 := eq_true q121
                                  have z0_ : w38.cell? ⟨gb119, 0, none⟩ = some (.int .i64 ((rd_T33 t112 x5_1).f0)) := (blk_cell BK119.out 0).trans rfl
                                  have z1_ : w38.cell? ⟨gb119, 1, none⟩ = some (.int .i64 ((rd_T33 t112 x5_1).f1)) := (blk_cell BK119.out 1).trans rfl
                                  have z2_ : w38.cell? ⟨gb119, 2, none⟩ = some (.bool ((rd_T33 t112 x5_1).f2)) := (blk_cell BK119.out 2).trans rfl
                                  go_quiet (fail)
                                  try go_wp2
                                  go_meet
                                  case rel => exact ⟨_, (true), (by first | rfl | (simp; done) | (simp [*]; done)), H', ⟨by have := HK1.out; first | omega | exact Nat.le_refl _⟩, ⟨by (with_reducible repeat (first | apply Kd.R_alloc | apply Kd.R_drewN | apply Kd.R_drew)); exact HO_3.out⟩, ⟨by (with_reducible repeat (first | apply Kd.R_alloc | apply Kd.R_drewN | apply Kd.R_drew)); exact HO_4.out⟩, ⟨by (with_reducible repeat (first | refine blk_drewN ?_ _ | refine blk_drew ?_ | refine blk_alloc ?_ _)); exact BK119.out⟩, ⟨by repeat (first | (with_reducible first | exact HB.out | apply below_alloc | apply pw_below_drewN | apply below_drew1 | refine below_set ?_ GE119.out) | exact HB.out)⟩⟩
                              · rw [if_neg c30] at H
                                exact absurd H (by simp)
                            · rw [if_neg c29] at H
                              exact absurd H (by simp)
                          · rw [if_neg c28] at H
                            exact absurd H (by simp)
                        · rw [if_neg c27] at H
                          exact absurd H (by simp)
                case rest =>
                  clear HC14
                  try clear p1
                  try clear q1
                  try clear hx1
                  try clear c2
                  try clear p2
                  try clear c3
                  try clear p12
                  try clear q12
                  try clear hx12
                  try clear c27
                  try clear c28
                  try clear c29
                  try clear c30
                  try clear c31
                  try clear c31b0
                  try clear c31b1
                  try clear hx120_0
                  try clear hx120_1
                  try clear hx120_2
                  try clear hx120_3
                  try clear hx121_0
                  try clear hx121_1
                  try clear hx121_2
                  try clear hx121_3
                  try clear p120
                  try clear p121
                  try clear q120
                  try clear q121
                  obtain ⟨kq, x78_13, rfl, HA, HJ13, HO_3, HO_4, BK119, HB⟩ := hcut
                  cases kq with
                  | zero => exact absurd HA.out (by simp [rubricatorlaw20_DelimNests.j1])
                  | succ kj13 =>
                    have H := HA.out
                    clear HA
                    simp only [rubricatorlaw20_DelimNests.j1] at H
                    by_cases c40 : x78_13 = true
                    · subst c40
                      have H1 : (some false) = some r := by rw [if_pos rfl] at H; exact H
                      clear H
                      have H := H1
                      clear H1
                      obtain rfl := Option.some.inj H
                      go_wp2
                      go_ret
                      exact ⟨by first | rfl | (simp [errW_none, errW_some] <;> rfl) | (simp [*, errW_none, errW_some] <;> rfl), by repeat (first | (with_reducible first | exact HB.out | apply below_alloc | apply pw_below_drewN | apply below_drew1 | refine below_set ?_ GE119.out) | exact HB.out)⟩
                    · replace c40 := Bool.eq_false_iff.mpr c40
                      subst c40
                      have H1 : (if ((rd_T33 t112 x5_1).f2) = true then (rubricatorlaw20_DelimNests.j2 kj13 l0 t112 x4_1 x5_1 2 ((rd_T33 t112 x5_1).f0) ((rd_T33 t112 x5_1).f1) ((rd_T33 t112 x5_1).f2)) else (rubricatorlaw20_DelimNests.j2 kj13 l0 t112 x4_1 x5_1 1 ((rd_T33 t112 x5_1).f0) ((rd_T33 t112 x5_1).f1) ((rd_T33 t112 x5_1).f2))) = some r := by rw [if_neg (show ¬ (false = true) by decide)] at H; exact H
                      clear H
                      have H := H1
                      clear H1
                      have HC41 := Aside0.mk H
                      clear H
                      have hcz42_0 : wc.cell? ⟨gb119, 0, none⟩ = some (.int .i64 ((rd_T33 t112 x5_1).f0)) := (blk_cell BK119.out 0).trans rfl
                      have hcz42_1 : wc.cell? ⟨gb119, 1, none⟩ = some (.int .i64 ((rd_T33 t112 x5_1).f1)) := (blk_cell BK119.out 1).trans rfl
                      have hcz42_2 : wc.cell? ⟨gb119, 2, none⟩ = some (.bool ((rd_T33 t112 x5_1).f2)) := (blk_cell BK119.out 2).trans rfl
                      have hfz42_0 := blk_frozen BK119.out 0
                      have hfz42_1 := blk_frozen BK119.out 1
                      have hfz42_2 := blk_frozen BK119.out 2
                      go_upto_if 80 with (fail)
                      go_cut [7] (fun v7 wc => ∃ (kq : Nat) (x7_40 : Int), v7 = .int .i64 x7_40 ∧ Aside0 (rubricatorlaw20_DelimNests.j2 kq l0 t112 x4_1 x5_1 x7_40 ((rd_T33 t112 x5_1).f0) ((rd_T33 t112 x5_1).f1) ((rd_T33 t112 x5_1).f2) = some r) ∧ Aside0 (kq ≤ kj13) ∧ Aside0 (Kd.R k33 33 wc w.heap.size (fun k_ => k_ ≠ gb119) (.slice (some ad118) t112.length co15) t112) ∧ Aside0 (Kd.R (Kd.int .i64) 3 wc w.heap.size (fun _ => True) v116 x4_1) ∧ Aside0 (wc.heap[gb119]? = some (.cells #[.int .i64 ((rd_T33 t112 x5_1).f0), .int .i64 ((rd_T33 t112 x5_1).f1), .bool ((rd_T33 t112 x5_1).f2)] 33 (0, 0))) ∧ Aside0 (Below w.heap.size w wc))
                      case first =>
                        have H := HC41.out
                        clear HC41
                        by_cases c43 : ((rd_T33 t112 x5_1).f2) = true
                        · rw [if_pos c43] at H
                          have c43b0 : ((rd_T33 t112 x5_1).f2) = true := c43
                          clear c43
                          (first | rw [c43b0] | (simp only [i64_w, i32_w]; rw [c43b0]) | skip)
                          have H' := Aside0.mk H
                          clear H
                          go_wp2
                          go_meet
                          case rel => exact ⟨_, (2), (by first | rfl | (simp; done) | (simp [*]; done)), H', ⟨by have := HK1.out; have := HJ13.out; first | omega | exact Nat.le_refl _⟩, ⟨by (with_reducible repeat (first | apply Kd.R_alloc | apply Kd.R_drewN | apply Kd.R_drew)); exact HO_3.out⟩, ⟨by (with_reducible repeat (first | apply Kd.R_alloc | apply Kd.R_drewN | apply Kd.R_drew)); exact HO_4.out⟩, ⟨by (with_reducible repeat (first | refine blk_drewN ?_ _ | refine blk_drew ?_ | refine blk_alloc ?_ _)); exact BK119.out⟩, ⟨by repeat (first | (with_reducible first | exact HB.out | apply below_alloc | apply pw_below_drewN | apply below_drew1 | refine below_set ?_ GE119.out) | exact HB.out)⟩⟩
                        · rw [if_neg c43] at H
                          have c43b0 : ((rd_T33 t112 x5_1).f2) = false := by simpa using c43
                          clear c43
                          (first | rw [c43b0] | (simp only [i64_w, i32_w]; rw [c43b0]) | skip)
                          have H' := Aside0.mk H
                          clear H
                          go_wp2
                          go_meet
                          case rel => exact ⟨_, (1), (by first | rfl | (simp; done) | (simp [*]; done)), H', ⟨by have := HK1.out; have := HJ13.out; first | omega | exact Nat.le_refl _⟩, ⟨by (with_reducible repeat (first | apply Kd.R_alloc | apply Kd.R_drewN | apply Kd.R_drew)); exact HO_3.out⟩, ⟨by (with_reducible repeat (first | apply Kd.R_alloc | apply Kd.R_drewN | apply Kd.R_drew)); exact HO_4.out⟩, ⟨by (with_reducible repeat (first | refine blk_drewN ?_ _ | refine blk_drew ?_ | refine blk_alloc ?_ _)); exact BK119.out⟩, ⟨by repeat (first | (with_reducible first | exact HB.out | apply below_alloc | apply pw_below_drewN | apply below_drew1 | refine below_set ?_ GE119.out) | exact HB.out)⟩⟩
                      case rest =>
                        clear HC41
                        try clear p1
                        try clear q1
                        try clear hx1
                        try clear c2
                        try clear p2
                        try clear c3
                        try clear c4
                        try clear p12
                        try clear q12
                        try clear hx12
                        try clear c27
                        try clear c28
                        try clear c29
                        try clear c30
                        try clear c31
                        try clear c31b0
                        try clear c31b1
                        try clear c40
                        try clear c43
                        try clear c43b0
                        try clear hcz42_0
                        try clear hcz42_1
                        try clear hcz42_2
                        try clear hfz42_0
                        try clear hfz42_1
                        try clear hfz42_2
                        try clear hx120_0
                        try clear hx120_1
                        try clear hx120_2
                        try clear hx120_3
                        try clear hx121_0
                        try clear hx121_1
                        try clear hx121_2
                        try clear hx121_3
                        try clear p1
                        try clear p12
                        try clear p120
                        try clear p121
                        try clear p2
                        try clear q1
                        try clear q12
                        try clear q120
                        try clear q121
                        obtain ⟨kq, x7_40, rfl, HA, HJ40, HO_3, HO_4, BK119, HB⟩ := hcut
                        cases kq with
                        | zero => exact absurd HA.out (by simp [rubricatorlaw20_DelimNests.j2])
                        | succ kj40 =>
                          have H := HA.out
                          clear HA
                          simp only [rubricatorlaw20_DelimNests.j2] at H
                          by_cases c44 : 0 ≤ ((rd_T33 t112 x5_1).f0)
                          · rw [if_pos c44] at H
                            have c44b0 : decide (0 ≤ ((rd_T33 t112 x5_1).f0)) = true := decide_eq_true c44
                            clear c44
                            by_cases c45 : ((rd_T33 t112 x5_1).f0) < (x4_1.length : Int)
                            · rw [if_pos c45] at H
                              have c45b0 : decide (((rd_T33 t112 x5_1).f0) < (x4_1.length : Int)) = true := decide_eq_true c45
                              clear c45
                              obtain ⟨y125, hy125⟩ : ∃ y_ : List Int, y_ = (x4_1.set (((rd_T33 t112 x5_1).f0) : Int).toNat (wrap64 ((rd x4_1 ((rd_T33 t112 x5_1).f0)) + x7_40))) := ⟨_, rfl⟩
                              replace H : (if 0 ≤ ((rd_T33 t112 x5_1).f1) then (if ((rd_T33 t112 x5_1).f1) < (x4_1.length : Int) then (rubricatorlaw20_DelimNests.l1 kj40 l0 t112 (y125.set (((rd_T33 t112 x5_1).f1) : Int).toNat (wrap64 ((rd y125 ((rd_T33 t112 x5_1).f1)) + x7_40))) x5_1 0 ((rd_T33 t112 x5_1).f0) ((rd_T33 t112 x5_1).f1) ((rd_T33 t112 x5_1).f2)) else (none)) else (none)) = some r := by first | (rw [hy125]; with_reducible exact H) | (have H2_ := (Option.bind_some _ _).symm.trans H; rw [hy125]; with_reducible exact H2_) | (have H2_ := (Option.bind_some _ _).symm.trans H; with_reducible exact H2_) | with_reducible exact H | (rw [hy125]; exact H) | exact H
                              have Ny125 := Aside0.mk hy125
                              clear hy125
                              by_cases c47 : 0 ≤ ((rd_T33 t112 x5_1).f1)
                              · rw [if_pos c47] at H
                                have c47b0 : decide (0 ≤ ((rd_T33 t112 x5_1).f1)) = true := decide_eq_true c47
                                clear c47
                                by_cases c48 : ((rd_T33 t112 x5_1).f1) < (x4_1.length : Int)
                                · rw [if_pos c48] at H
                                  have c48b0 : decide (((rd_T33 t112 x5_1).f1) < (x4_1.length : Int)) = true := decide_eq_true c48
                                  clear c48
                                  obtain ⟨y127, hy127⟩ : ∃ y_ : List Int, y_ = (y125.set (((rd_T33 t112 x5_1).f1) : Int).toNat (wrap64 ((rd y125 ((rd_T33 t112 x5_1).f1)) + x7_40))) := ⟨_, rfl⟩
                                  replace H : (rubricatorlaw20_DelimNests.l1 kj40 l0 t112 y127 x5_1 0 ((rd_T33 t112 x5_1).f0) ((rd_T33 t112 x5_1).f1) ((rd_T33 t112 x5_1).f2)) = some r := by first | (rw [hy127]; with_reducible exact H) | (have H2_ := (Option.bind_some _ _).symm.trans H; rw [hy127]; with_reducible exact H2_) | (have H2_ := (Option.bind_some _ _).symm.trans H; with_reducible exact H2_) | with_reducible exact H | (rw [hy127]; exact H) | exact H
                                  have Ny127 := Aside0.mk hy127
                                  clear hy127
                                  have H' := Aside0.mk H
                                  clear H
                                  try go_wp2
                                  have n0_ := Aside0.mk (Kd.R_drew HO_3.out)
                                  have n1_ := Aside0.mk (Kd.R_drew HO_4.out)
                                  have n2_ := Aside0.mk (blk_drew BK119.out)
                                  have n3_ := Aside0.mk (below_drew1 HB.out)
                                  clear HO_3
                                  clear HO_4
                                  clear BK119
                                  clear HB
                                  have HO_3 := n0_
                                  have HO_4 := n1_
                                  have BK119 := n2_
                                  have HB := n3_
                                  clear n0_ n1_ n2_ n3_
                                  obtain ⟨Ao51, co51, eo51⟩ := Kd.R_slice HO_4.out
                                  (first | subst eo51 | (injection eo51 with f1_ f2_ f3_; have f4_ := f1_.symm; have f5_ := f3_.symm; clear f1_ f2_ f3_; subst f4_; subst f5_))
                                  have p124 : 0 ≤ (((rd_T33 t112 x5_1).f0) : Int) := of_decide_eq_true (by first | (with_reducible assumption) | assumption)
                                  have q124 : ((rd_T33 t112 x5_1).f0) < (x4_1.length : Int) := of_decide_eq_true (by first | (with_reducible assumption) | assumption)
                                  obtain ⟨ad124, e124, hx124_0⟩ := Kd.at_int (Kd.R_reads' HO_4.out).2.2 ((rd_T33 t112 x5_1).f0) p124 q124
                                  cases e124
                                  replace p124 := eq_true p124
                                  replace q124 := eq_true q124
                                  have p46 : 0 ≤ (((rd_T33 t112 x5_1).f0) : Int) := of_decide_eq_true (by first | (with_reducible assumption) | assumption)
                                  have q46 : (((rd_T33 t112 x5_1).f0) : Int) < ((x4_1.length : Int) : Int) := of_decide_eq_true (by first | (with_reducible assumption) | assumption)
                                  obtain ⟨go46, co46, eo46, gb46, gl46, cl46, HG46⟩ := Kd.R_form HO_4.out (by omega)
                                  (first | cases eo46 | (injection eo46 with ea_ en_ ec_; (first | subst ea_ | (injection ea_ with ea_; subst ea_)); subst ec_; clear en_))
                                  have GB46 := Aside0.mk gb46
                                  have GG46 := Aside0.mk HG46
                                  clear gb46 gl46 HG46
                                  (first | simp only [add_plain] at hx124_0 | skip)
                                  obtain ⟨hx46_0, hf46_0⟩ := Kd.R_celln 0 HO_4.out (((rd_T33 t112 x5_1).f0) : Int) p46 q46
                                  replace p46 := eq_true p46
                                  replace q46 := eq_true q46
                                  have HP52 := Kd.R_putn HO_4.out (((rd_T33 t112 x5_1).f0) : Int) (wrap64 ((rd x4_1 ((rd_T33 t112 x5_1).f0)) + x7_40))
                                  rw [← Ny125.out] at HP52
                                  have HQ52 := Aside0.mk HP52
                                  clear HP52
                                  refine start_ (n := 12) (S := fun w' => w'.cell? ⟨gb119, 0, none⟩ = some (.int .i64 ((rd_T33 t112 x5_1).f0)) ∧ w'.cell? ⟨gb119, 1, none⟩ = some (.int .i64 ((rd_T33 t112 x5_1).f1)) ∧ w'.cell? ⟨gb119, 2, none⟩ = some (.bool ((rd_T33 t112 x5_1).f2)) ∧ w'.cell? ⟨go46, (((rd_T33 t112 x5_1).f0)).toNat, none⟩ = some (.int .i64 (rd x4_1 ((rd_T33 t112 x5_1).f0)))) (ds := [11]) #[false, false, false, false, false, false, false, false, false, false, false, false] (by kernel_rfl) rfl rfl ⟨(blk_cell BK119.out 0).trans rfl, (blk_cell BK119.out 1).trans rfl, (blk_cell BK119.out 2).trans rfl, hx124_0⟩ (fun hHeld => ?_); refine with_tabW rubricatorlaw20_DelimNests.tab14 rubricatorlaw20_DelimNests.bits14 (fun HT_ HW_ => ?_)
                                  generalize wc.drew = w50 at HO_3 HO_4 BK119 HB GG46 HQ52 hf46_0 hx124_0 hx46_0 hHeld ⊢
                                  refine pure_ (i := 0) (N := some 81) (v := ?_) (a' := ?_) #[true, false, false, false, false, false, false, false, false, false, false, false] rfl rfl (any_of HT_.out (by kernel_rfl)) (fun _ _ _ h => h) (Or.inl ⟨by rfl, ?_⟩) ?_ ?_
                                  rotate_left
                                  · intro w'
                                    go_simp
                                    with_reducible rfl
                                  rotate_left
                                  · simp only [Act.put, List.setIfInBounds_toArray, List.set_cons_zero, List.set_cons_succ, i64_w, i32_w]
                                    rfl
                                  refine pure_ (i := 1) (N := some 82) (v := ?_) (a' := ?_) #[true, true, false, false, false, false, false, false, false, false, false, false] rfl rfl (any_of HT_.out (by kernel_rfl)) (fun _ _ _ h => h) (Or.inl ⟨by rfl, ?_⟩) ?_ ?_
                                  rotate_left
                                  · intro w'
                                    go_simp
                                    with_reducible rfl
                                  rotate_left
                                  · simp only [Act.put, List.setIfInBounds_toArray, List.set_cons_zero, List.set_cons_succ, i64_w, i32_w]
                                    rfl
                                  refine pure_ (i := 3) (N := some 84) (v := ?_) (a' := ?_) #[true, true, false, true, false, false, false, false, false, false, false, false] rfl rfl (any_of HT_.out (by kernel_rfl)) (fun _ _ _ h => h) (Or.inl ⟨by rfl, ?_⟩) ?_ ?_
                                  rotate_left
                                  · intro w'
                                    go_simp
                                    with_reducible rfl
                                  rotate_left
                                  · simp only [Act.put, List.setIfInBounds_toArray, List.set_cons_zero, List.set_cons_succ, i64_w, i32_w]
                                    rfl
                                  refine pure_ (i := 4) (N := some 85) (v := ?_) (a' := ?_) #[true, true, false, true, true, false, false, false, false, false, false, false] rfl rfl (any_of HT_.out (by kernel_rfl)) (fun _ _ _ h => h) (Or.inl ⟨by rfl, ?_⟩) ?_ ?_
                                  rotate_left
                                  · intro w'
                                    go_simp
                                    with_reducible rfl
                                  rotate_left
                                  · simp only [Act.put, List.setIfInBounds_toArray, List.set_cons_zero, List.set_cons_succ, i64_w, i32_w]
                                    rfl
                                  refine pure_ (i := 8) (N := some 89) (v := ?_) (a' := ?_) #[true, true, false, true, true, false, false, false, true, false, false, false] rfl rfl (any_of HT_.out (by kernel_rfl)) (fun _ _ _ h => h) (Or.inl ⟨by rfl, ?_⟩) ?_ ?_
                                  rotate_left
                                  · intro w'
                                    go_simp
                                    with_reducible rfl
                                  rotate_left
                                  · simp only [Act.put, List.setIfInBounds_toArray, List.set_cons_zero, List.set_cons_succ, i64_w, i32_w]
                                    rfl
                                  refine take_ (i := 2) (N := some 83) (v := ?_) (a' := ?_) #[true, true, true, true, true, false, false, false, true, false, false, false] rfl rfl (take_ofW HT_.out HW_.out (by kernel_rfl)) (fun _ _ _ h => h) (Or.inl ⟨by rfl, ?_⟩) hHeld ?_ ?_
                                  rotate_left
                                  · rintro w' ⟨s0, s1, s2, s3⟩
                                    go_simp
                                    with_reducible rfl
                                  rotate_left
                                  · simp only [Act.put, List.setIfInBounds_toArray, List.set_cons_zero, List.set_cons_succ, i64_w, i32_w]
                                    rfl
                                  refine take_ (i := 5) (N := some 86) (v := ?_) (a' := ?_) #[true, true, true, true, true, true, false, false, true, false, false, false] rfl rfl (take_ofW HT_.out HW_.out (by kernel_rfl)) (fun _ _ _ h => h) (Or.inl ⟨by rfl, ?_⟩) hHeld ?_ ?_
                                  rotate_left
                                  · rintro w' ⟨s0, s1, s2, s3⟩
                                    go_simp
                                    with_reducible rfl
                                  rotate_left
                                  · simp only [Act.put, List.setIfInBounds_toArray, List.set_cons_zero, List.set_cons_succ, i64_w, i32_w]
                                    rfl
                                  refine pure_ (i := 6) (N := some 87) (v := ?_) (a' := ?_) #[true, true, true, true, true, true, true, false, true, false, false, false] rfl rfl (any_of HT_.out (by kernel_rfl)) (fun _ _ _ h => h) (Or.inl ⟨by rfl, ?_⟩) ?_ ?_
                                  rotate_left
                                  · intro w'
                                    go_simp
                                    with_reducible rfl
                                  rotate_left
                                  · simp only [Act.put, List.setIfInBounds_toArray, List.set_cons_zero, List.set_cons_succ, i64_w, i32_w]
                                    rfl
                                  refine take_ (i := 7) (N := some 88) (v := ?_) (a' := ?_) #[true, true, true, true, true, true, true, true, true, false, false, false] rfl rfl (take_ofW HT_.out HW_.out (by kernel_rfl)) (fun _ _ _ h => h) (Or.inl ⟨by rfl, ?_⟩) hHeld ?_ ?_
                                  rotate_left
                                  · rintro w' ⟨s0, s1, s2, s3⟩
                                    go_simp
                                    with_reducible rfl
                                  rotate_left
                                  · simp only [Act.put, List.setIfInBounds_toArray, List.set_cons_zero, List.set_cons_succ, i64_w, i32_w]
                                    rfl
                                  refine pure_ (i := 9) (N := some 90) (v := ?_) (a' := ?_) #[true, true, true, true, true, true, true, true, true, true, false, false] rfl rfl (any_of HT_.out (by kernel_rfl)) (fun _ _ _ h => h) (Or.inl ⟨by rfl, ?_⟩) ?_ ?_
                                  rotate_left
                                  · intro w'
                                    go_simp
                                    with_reducible rfl
                                  rotate_left
                                  · simp only [Act.put, List.setIfInBounds_toArray, List.set_cons_zero, List.set_cons_succ, i64_w, i32_w]
                                    rfl
                                  refine pure_ (i := 10) (N := some 91) (v := ?_) (a' := ?_) #[true, true, true, true, true, true, true, true, true, true, true, false] rfl rfl (any_of HT_.out (by kernel_rfl)) (fun _ _ _ h => h) (Or.inl ⟨by rfl, ?_⟩) ?_ ?_
                                  rotate_left
                                  · intro w'
                                    go_simp
                                    with_reducible rfl
                                  rotate_left
                                  · simp only [Act.put, List.setIfInBounds_toArray, List.set_cons_zero, List.set_cons_succ, i64_w, i32_w]
                                    rfl
                                  refine last_ (i := 11) (N := none) #[true, true, true, true, true, true, true, true, true, true, true, true] rfl rfl (one_of HT_.out (by kernel_rfl)) (by decide) (fun K hK => ?_)
                                  refine skip_ (w1 := ?_) (by rfl) rfl ?_ ?_
                                  rotate_left
                                  · go_simp
                                    rfl
                                  refine hK.out _ _ ?_
                                  clear hK K
                                  refine done_ (done_of HT_.out (by kernel_rfl)) ?_
                                  try go_wp2
                                  have n0_ : Aside0 (Kd.R k33 33 (w50.setCell ⟨go46, (((rd_T33 t112 x5_1).f0) : Int).toNat, none⟩ (.int .i64 (wrap64 ((rd x4_1 ((rd_T33 t112 x5_1).f0)) + x7_40)))) w.heap.size (fun k_ => k_ ≠ gb119) (.slice (some ad118) t112.length co15) t112) := ⟨by (with_reducible repeat (first | apply Kd.R_alloc | apply Kd.R_drewN | apply Kd.R_drew)); exact Kd.R_mono (Kd.R_far (p := ⟨go46, (((rd_T33 t112 x5_1).f0) : Int).toNat, none⟩) (Kd.R_types HO_3.out GG46.out (by decide)) (fun _ hk => hk.2) (.int .i64 (wrap64 ((rd x4_1 ((rd_T33 t112 x5_1).f0)) + x7_40)))) (fun _ hk => hk.1)⟩
                                  have n1_ : Aside0 (Kd.R (Kd.int .i64) 3 (w50.setCell ⟨go46, (((rd_T33 t112 x5_1).f0) : Int).toNat, none⟩ (.int .i64 (wrap64 ((rd x4_1 ((rd_T33 t112 x5_1).f0)) + x7_40)))) w.heap.size (fun _ => True) (.slice (some ⟨go46, 0, none⟩) x4_1.length co51) y125) := ⟨by (with_reducible repeat (first | apply Kd.R_alloc | apply Kd.R_drewN | apply Kd.R_drew)); exact HQ52.out⟩
                                  have n2_ : Aside0 ((w50.setCell ⟨go46, (((rd_T33 t112 x5_1).f0) : Int).toNat, none⟩ (.int .i64 (wrap64 ((rd x4_1 ((rd_T33 t112 x5_1).f0)) + x7_40)))).heap[gb119]? = some (.cells #[.int .i64 ((rd_T33 t112 x5_1).f0), .int .i64 ((rd_T33 t112 x5_1).f1), .bool ((rd_T33 t112 x5_1).f2)] 33 (0, 0))) := ⟨by (with_reducible repeat (first | refine blk_drewN ?_ _ | refine blk_drew ?_ | refine blk_alloc ?_ _)); refine blk_far ?_ (by have h_ := Kd.R_ne HO_4.out BK119.out (by decide); intro e_; exact h_ (by rw [e_]; rfl)) _; (with_reducible repeat (first | refine blk_drewN ?_ _ | refine blk_drew ?_ | refine blk_alloc ?_ _)); exact BK119.out⟩
                                  have n3_ : Aside0 (Below w.heap.size w (w50.setCell ⟨go46, (((rd_T33 t112 x5_1).f0) : Int).toNat, none⟩ (.int .i64 (wrap64 ((rd x4_1 ((rd_T33 t112 x5_1).f0)) + x7_40))))) := ⟨by repeat (first | (with_reducible first | exact HB.out | apply below_alloc | apply pw_below_drewN | apply below_drew1 | refine below_set ?_ GB46.out | refine below_set ?_ GE119.out) | exact HB.out)⟩
                                  (try clear HO_3)
                                  (try clear HO_4)
                                  (try clear BK119)
                                  (try clear HB)
                                  generalize (w50.setCell ⟨go46, (((rd_T33 t112 x5_1).f0) : Int).toNat, none⟩ (.int .i64 (wrap64 ((rd x4_1 ((rd_T33 t112 x5_1).f0)) + x7_40)))) = w53 at n0_ n1_ n2_ n3_ ⊢
                                  have HO_3 := n0_
                                  have HO_4 := n1_
                                  have BK119 := n2_
                                  have HB := n3_
                                  clear n0_ n1_ n2_ n3_
                                  have n0_ := Aside0.mk (Kd.R_drew HO_3.out)
                                  have n1_ := Aside0.mk (Kd.R_drew HO_4.out)
                                  have n2_ := Aside0.mk (blk_drew BK119.out)
                                  have n3_ := Aside0.mk (below_drew1 HB.out)
                                  clear HO_3
                                  clear HO_4
                                  clear BK119
                                  clear HB
                                  have HO_3 := n0_
                                  have HO_4 := n1_
                                  have BK119 := n2_
                                  have HB := n3_
                                  clear n0_ n1_ n2_ n3_
                                  have p126 : 0 ≤ (((rd_T33 t112 x5_1).f1) : Int) := of_decide_eq_true (by first | (with_reducible assumption) | assumption)
                                  have q126 : ((rd_T33 t112 x5_1).f1) < (y125.length : Int) := (by have h_ : (((rd_T33 t112 x5_1).f1) : Int) < ((x4_1.length : Int) : Int) := of_decide_eq_true (by first | (with_reducible assumption) | assumption); first | (have e_ := (Kd.R_reads' HO_4.out).1; omega) | simpa only [Ny125.out, List.length_set] using h_)
                                  have ql126 : ((((rd_T33 t112 x5_1).f1) : Int) < ((x4_1.length : Int) : Int)) = True := eq_true (of_decide_eq_true (by first | (with_reducible assumption) | assumption))
                                  obtain ⟨ad126, e126, hx126_0⟩ := Kd.at_int (Kd.R_reads' HO_4.out).2.2 ((rd_T33 t112 x5_1).f1) p126 q126
                                  obtain rfl : (⟨go46, 0, none⟩ : Addr) = ad126 := (by injection e126)
                                  (first | simp only [add_plain] at hx126_0 | simp only [add_at] at hx126_0 | simp only [Addr.add, Nat.zero_add] at hx126_0 | skip)
                                  replace p126 := eq_true p126
                                  replace q126 := eq_true q126
                                  have p49 : 0 ≤ (((rd_T33 t112 x5_1).f1) : Int) := of_decide_eq_true (by first | (with_reducible assumption) | assumption)
                                  have q49 : (((rd_T33 t112 x5_1).f1) : Int) < ((x4_1.length : Int) : Int) := of_decide_eq_true (by first | (with_reducible assumption) | assumption)
                                  obtain ⟨hx49_0, hf49_0⟩ := Kd.R_celln 0 HO_4.out (((rd_T33 t112 x5_1).f1) : Int) p49 q49
                                  replace p49 := eq_true p49
                                  replace q49 := eq_true q49
                                  have HP55 := Kd.R_putn HO_4.out (((rd_T33 t112 x5_1).f1) : Int) (wrap64 ((rd y125 ((rd_T33 t112 x5_1).f1)) + x7_40))
                                  rw [← Ny127.out] at HP55
                                  have HQ55 := Aside0.mk HP55
                                  clear HP55
                                  refine start_ (n := 12) (S := fun w' => w'.cell? ⟨gb119, 0, none⟩ = some (.int .i64 ((rd_T33 t112 x5_1).f0)) ∧ w'.cell? ⟨gb119, 1, none⟩ = some (.int .i64 ((rd_T33 t112 x5_1).f1)) ∧ w'.cell? ⟨gb119, 2, none⟩ = some (.bool ((rd_T33 t112 x5_1).f2)) ∧ w'.cell? ⟨go46, (((rd_T33 t112 x5_1).f1)).toNat, none⟩ = some (.int .i64 (rd y125 ((rd_T33 t112 x5_1).f1)))) (ds := [11]) #[false, false, false, false, false, false, false, false, false, false, false, false] (by kernel_rfl) rfl rfl ⟨(blk_cell BK119.out 0).trans rfl, (blk_cell BK119.out 1).trans rfl, (blk_cell BK119.out 2).trans rfl, hx126_0⟩ (fun hHeld => ?_); refine with_tabW rubricatorlaw20_DelimNests.tab15 rubricatorlaw20_DelimNests.bits15 (fun HT_ HW_ => ?_)
                                  generalize w53.drew = w54 at HO_3 HO_4 BK119 HB HQ52 HQ55 hf49_0 hx126_0 hx49_0 hHeld ⊢
                                  refine pure_ (i := 0) (N := some 92) (v := ?_) (a' := ?_) #[true, false, false, false, false, false, false, false, false, false, false, false] rfl rfl (any_of HT_.out (by kernel_rfl)) (fun _ _ _ h => h) (Or.inl ⟨by rfl, ?_⟩) ?_ ?_
                                  rotate_left
                                  · intro w'
                                    go_simp
                                    with_reducible rfl
                                  rotate_left
                                  · simp only [Act.put, List.setIfInBounds_toArray, List.set_cons_zero, List.set_cons_succ, i64_w, i32_w]
                                    rfl
                                  refine pure_ (i := 1) (N := some 93) (v := ?_) (a' := ?_) #[true, true, false, false, false, false, false, false, false, false, false, false] rfl rfl (any_of HT_.out (by kernel_rfl)) (fun _ _ _ h => h) (Or.inl ⟨by rfl, ?_⟩) ?_ ?_
                                  rotate_left
                                  · intro w'
                                    go_simp
                                    with_reducible rfl
                                  rotate_left
                                  · simp only [Act.put, List.setIfInBounds_toArray, List.set_cons_zero, List.set_cons_succ, i64_w, i32_w]
                                    rfl
                                  refine pure_ (i := 3) (N := some 95) (v := ?_) (a' := ?_) #[true, true, false, true, false, false, false, false, false, false, false, false] rfl rfl (any_of HT_.out (by kernel_rfl)) (fun _ _ _ h => h) (Or.inl ⟨by rfl, ?_⟩) ?_ ?_
                                  rotate_left
                                  · intro w'
                                    go_simp
                                    with_reducible rfl
                                  rotate_left
                                  · simp only [Act.put, List.setIfInBounds_toArray, List.set_cons_zero, List.set_cons_succ, i64_w, i32_w]
                                    rfl
                                  refine pure_ (i := 4) (N := some 96) (v := ?_) (a' := ?_) #[true, true, false, true, true, false, false, false, false, false, false, false] rfl rfl (any_of HT_.out (by kernel_rfl)) (fun _ _ _ h => h) (Or.inl ⟨by rfl, ?_⟩) ?_ ?_
                                  rotate_left
                                  · intro w'
                                    go_simp
                                    with_reducible rfl
                                  rotate_left
                                  · simp only [Act.put, List.setIfInBounds_toArray, List.set_cons_zero, List.set_cons_succ, i64_w, i32_w]
                                    rfl
                                  refine pure_ (i := 8) (N := some 100) (v := ?_) (a' := ?_) #[true, true, false, true, true, false, false, false, true, false, false, false] rfl rfl (any_of HT_.out (by kernel_rfl)) (fun _ _ _ h => h) (Or.inl ⟨by rfl, ?_⟩) ?_ ?_
                                  rotate_left
                                  · intro w'
                                    go_simp
                                    with_reducible rfl
                                  rotate_left
                                  · simp only [Act.put, List.setIfInBounds_toArray, List.set_cons_zero, List.set_cons_succ, i64_w, i32_w]
                                    rfl
                                  refine take_ (i := 2) (N := some 94) (v := ?_) (a' := ?_) #[true, true, true, true, true, false, false, false, true, false, false, false] rfl rfl (take_ofW HT_.out HW_.out (by kernel_rfl)) (fun _ _ _ h => h) (Or.inl ⟨by rfl, ?_⟩) hHeld ?_ ?_
                                  rotate_left
                                  · rintro w' ⟨s0, s1, s2, s3⟩
                                    go_simp
                                    with_reducible rfl
                                  rotate_left
                                  · simp only [Act.put, List.setIfInBounds_toArray, List.set_cons_zero, List.set_cons_succ, i64_w, i32_w]
                                    rfl
                                  refine take_ (i := 5) (N := some 97) (v := ?_) (a' := ?_) #[true, true, true, true, true, true, false, false, true, false, false, false] rfl rfl (take_ofW HT_.out HW_.out (by kernel_rfl)) (fun _ _ _ h => h) (Or.inl ⟨by rfl, ?_⟩) hHeld ?_ ?_
                                  rotate_left
                                  · rintro w' ⟨s0, s1, s2, s3⟩
                                    go_simp
                                    with_reducible rfl
                                  rotate_left
                                  · simp only [Act.put, List.setIfInBounds_toArray, List.set_cons_zero, List.set_cons_succ, i64_w, i32_w]
                                    rfl
                                  refine pure_ (i := 6) (N := some 98) (v := ?_) (a' := ?_) #[true, true, true, true, true, true, true, false, true, false, false, false] rfl rfl (any_of HT_.out (by kernel_rfl)) (fun _ _ _ h => h) (Or.inl ⟨by rfl, ?_⟩) ?_ ?_
                                  rotate_left
                                  · intro w'
                                    go_simp
                                    with_reducible rfl
                                  rotate_left
                                  · simp only [Act.put, List.setIfInBounds_toArray, List.set_cons_zero, List.set_cons_succ, i64_w, i32_w]
                                    rfl
                                  refine take_ (i := 7) (N := some 99) (v := ?_) (a' := ?_) #[true, true, true, true, true, true, true, true, true, false, false, false] rfl rfl (take_ofW HT_.out HW_.out (by kernel_rfl)) (fun _ _ _ h => h) (Or.inl ⟨by rfl, ?_⟩) hHeld ?_ ?_
                                  rotate_left
                                  · rintro w' ⟨s0, s1, s2, s3⟩
                                    go_simp
                                    with_reducible rfl
                                  rotate_left
                                  · simp only [Act.put, List.setIfInBounds_toArray, List.set_cons_zero, List.set_cons_succ, i64_w, i32_w]
                                    rfl
                                  refine pure_ (i := 9) (N := some 101) (v := ?_) (a' := ?_) #[true, true, true, true, true, true, true, true, true, true, false, false] rfl rfl (any_of HT_.out (by kernel_rfl)) (fun _ _ _ h => h) (Or.inl ⟨by rfl, ?_⟩) ?_ ?_
                                  rotate_left
                                  · intro w'
                                    go_simp
                                    with_reducible rfl
                                  rotate_left
                                  · simp only [Act.put, List.setIfInBounds_toArray, List.set_cons_zero, List.set_cons_succ, i64_w, i32_w]
                                    rfl
                                  refine pure_ (i := 10) (N := some 102) (v := ?_) (a' := ?_) #[true, true, true, true, true, true, true, true, true, true, true, false] rfl rfl (any_of HT_.out (by kernel_rfl)) (fun _ _ _ h => h) (Or.inl ⟨by rfl, ?_⟩) ?_ ?_
                                  rotate_left
                                  · intro w'
                                    go_simp
                                    with_reducible rfl
                                  rotate_left
                                  · simp only [Act.put, List.setIfInBounds_toArray, List.set_cons_zero, List.set_cons_succ, i64_w, i32_w]
                                    rfl
                                  refine last_ (i := 11) (N := none) #[true, true, true, true, true, true, true, true, true, true, true, true] rfl rfl (one_of HT_.out (by kernel_rfl)) (by decide) (fun K hK => ?_)
                                  refine skip_ (w1 := ?_) (by rfl) rfl ?_ ?_
                                  rotate_left
                                  · go_simp
                                    rfl
                                  refine hK.out _ _ ?_
                                  clear hK K
                                  refine done_ (done_of HT_.out (by kernel_rfl)) ?_
                                  try go_wp2
                                  obtain ⟨gz, cz, ez, gbz, glz, clz, HGz⟩ := Kd.R_form HO_4.out (by rw [Ny125.out, List.length_set]; have ha_ := of_decide_eq_true c44b0; have hb_ := of_decide_eq_true c45b0; omega)
                                  obtain rfl : go46 = gz := by (have hz_ := ez; simp at hz_; exact hz_.1)
                                  replace GG46 := Aside0.mk HGz
                                  go_loopg [8] kj40 (fun kq v8 w' => ∃ (x8_4 : Int), v8 = .int .i64 x8_4 ∧ Aside0 (rubricatorlaw20_DelimNests.l1 kq l0 t112 y127 x5_1 x8_4 ((rd_T33 t112 x5_1).f0) ((rd_T33 t112 x5_1).f1) ((rd_T33 t112 x5_1).f2) = some r) ∧ Aside0 (kq ≤ kj40) ∧ Aside0 (Kd.R k33 33 w' w.heap.size (fun k_ => k_ ≠ gb119) (.slice (some ad118) t112.length co15) t112) ∧ Aside0 (Kd.R (Kd.int .i64) 3 w' w.heap.size (fun _ => True) (.slice (some ⟨go46, 0, none⟩) x4_1.length co51) y127) ∧ Aside0 (w'.heap[gb119]? = some (.cells #[.int .i64 ((rd_T33 t112 x5_1).f0), .int .i64 ((rd_T33 t112 x5_1).f1), .bool ((rd_T33 t112 x5_1).f2)] 33 (0, 0))) ∧ Aside0 (Below w.heap.size w w'))
                                  case atStart => exact ⟨(0), (by first | rfl | (simp; done) | (simp [*]; done)), H', ⟨Nat.le_refl _⟩, ⟨by (with_reducible repeat (first | apply Kd.R_alloc | apply Kd.R_drewN | apply Kd.R_drew)); exact Kd.R_mono (Kd.R_far (p := ⟨go46, (((rd_T33 t112 x5_1).f1) : Int).toNat, none⟩) (Kd.R_types HO_3.out GG46.out (by decide)) (fun _ hk => hk.2) (.int .i64 (wrap64 ((rd y125 ((rd_T33 t112 x5_1).f1)) + x7_40)))) (fun _ hk => hk.1)⟩, ⟨by (with_reducible repeat (first | apply Kd.R_alloc | apply Kd.R_drewN | apply Kd.R_drew)); exact HQ55.out⟩, ⟨by (with_reducible repeat (first | refine blk_drewN ?_ _ | refine blk_drew ?_ | refine blk_alloc ?_ _)); refine blk_far ?_ (by have h_ := Kd.R_ne HO_4.out BK119.out (by decide); intro e_; exact h_ (by rw [e_]; rfl)) _; (with_reducible repeat (first | refine blk_drewN ?_ _ | refine blk_drew ?_ | refine blk_alloc ?_ _)); exact BK119.out⟩, ⟨by repeat (first | (with_reducible first | exact HB.out | apply below_alloc | apply pw_below_drewN | apply below_drew1 | refine below_set ?_ GB46.out | refine below_set ?_ GE119.out) | exact HB.out)⟩⟩
                                  case round =>
                                    clear H'
                                    try clear p1
                                    try clear q1
                                    try clear hx1
                                    try clear c2
                                    try clear p2
                                    try clear c3
                                    try clear c4
                                    try clear p4
                                    try clear q4
                                    try clear hx4
                                    try clear hf4
                                    try clear p6
                                    try clear p12
                                    try clear q12
                                    try clear hx12
                                    try clear c27
                                    try clear c28
                                    try clear c29
                                    try clear c30
                                    try clear c31
                                    try clear c31b0
                                    try clear c31b1
                                    try clear c40
                                    try clear c43
                                    try clear c43b0
                                    try clear c44
                                    try clear c44b0
                                    try clear c45
                                    try clear c45b0
                                    try clear p46
                                    try clear q46
                                    try clear hx46
                                    try clear hf46
                                    try clear c47
                                    try clear c47b0
                                    try clear c48
                                    try clear c48b0
                                    try clear p49
                                    try clear q49
                                    try clear hx49
                                    try clear hf49
                                    try clear hcz42_0
                                    try clear hcz42_1
                                    try clear hcz42_2
                                    try clear hfz42_0
                                    try clear hfz42_1
                                    try clear hfz42_2
                                    try clear hx120_0
                                    try clear hx120_1
                                    try clear hx120_2
                                    try clear hx120_3
                                    try clear hx121_0
                                    try clear hx121_1
                                    try clear hx121_2
                                    try clear hx121_3
                                    try clear hx124_0
                                    try clear hx126_0
                                    try clear hx46_0
                                    try clear hx49_0
                                    try clear p1
                                    try clear p12
                                    try clear p120
                                    try clear p121
                                    try clear p124
                                    try clear p126
                                    try clear p2
                                    try clear p46
                                    try clear p49
                                    try clear q1
                                    try clear q12
                                    try clear q120
                                    try clear q121
                                    try clear q124
                                    try clear q126
                                    try clear q46
                                    try clear q49
                                    obtain ⟨x8_4, rfl, HA, HK4, HO_3, HO_4, BK119, HB⟩ := hrel
                                    have hl4_4 := (Kd.R_reads' HO_4.out).1
                                    rw [hl4_4] at HO_4
                                    (try simp only [hl4_4])
                                    (try simp only [hl4_4] at BK119)
                                    (try simp only [hl4_4] at HO_3)
                                    cases gk with
                                    | zero => exact absurd HA.out (by simp [rubricatorlaw20_DelimNests.l1])
                                    | succ k4 =>
                                      have H := HA.out
                                      clear HA
                                      simp only [rubricatorlaw20_DelimNests.l1] at H
                                      by_cases c56 : x8_4 < x5_1
                                      · rw [if_pos c56] at H
                                        have c56b0 : decide (x8_4 < x5_1) = true := decide_eq_true c56
                                        clear c56
                                        by_cases c57 : 0 ≤ x8_4
                                        · rw [if_pos c57] at H
                                          have c57b0 : decide (0 ≤ x8_4) = true := decide_eq_true c57
                                          clear c57
                                          by_cases c58 : x8_4 < (t112.length : Int)
                                          · rw [if_pos c58] at H
                                            have c58b0 : decide (x8_4 < (t112.length : Int)) = true := decide_eq_true c58
                                            clear c58
                                            have HC59 := Aside0.mk H
                                            clear H
                                            have p128 : 0 ≤ (x8_4 : Int) := of_decide_eq_true (by first | (with_reducible assumption) | assumption)
                                            have q128 : x8_4 < (t112.length : Int) := of_decide_eq_true (by first | (with_reducible assumption) | assumption)
                                            obtain ⟨ad128, e128, hx128_0, hx128_1, hx128_2⟩ := at_T33 (Kd.R_reads' HO_3.out).2.2 x8_4 p128 q128
                                            obtain rfl : ad118 = ad128 := (by injection e128)
                                            replace p128 := eq_true p128
                                            replace q128 := eq_true q128
                                            go_upto_region 20 with (first | ((with_reducible refine gate_dst (N := 9) rfl ?_); (try (refine gate_guard (by rfl) ?_; dsimp only)); refine box_event ?hg (N := 9) ?hd (cs := #[.int .i64 0, .int .i64 0, .bool false]) (t := 33) ?hr ?_; (case hd => rfl); (case hg => rfl); (case hr => first | (go_simp; done) | (go_simp; rfl)); intro gb129 hg w60 hbox hb; have n0_ := Aside0.mk (Kd.R_below (Kd.R_elderB (by (with_reducible repeat (first | apply Kd.R_alloc | apply Kd.R_drewN | apply Kd.R_drew)); exact HO_3.out) gb129 (Nat.le_of_eq hg.symm)) hb); have n1_ := Aside0.mk (Kd.R_below (by (with_reducible repeat (first | apply Kd.R_alloc | apply Kd.R_drewN | apply Kd.R_drew)); exact HO_4.out) hb); have n2_ := Aside0.mk (blk_below (g := gb119) (o := .cells #[.int .i64 ((rd_T33 t112 x5_1).f0), .int .i64 ((rd_T33 t112 x5_1).f1), .bool ((rd_T33 t112 x5_1).f2)] 33 (0, 0)) (by (with_reducible repeat (first | refine blk_drewN ?_ _ | refine blk_drew ?_ | refine blk_alloc ?_ _)); exact BK119.out) hb); have n3_ := Aside0.mk (below_step (by repeat (first | (with_reducible first | exact HB.out | apply below_alloc | apply pw_below_drewN | apply below_drew1 | refine below_set ?_ GE119.out) | exact HB.out)) hb); have n4_ := Aside0.mk (hbox); have n5_ := Aside0.mk ((by rw [hg]; exact (below_size (by repeat (first | (with_reducible first | exact HB.out | apply below_alloc | apply pw_below_drewN | apply below_drew1 | refine below_set ?_ GE119.out) | exact HB.out))) : w.heap.size ≤ gb129)); have n6_ := Aside0.mk ((by rw [hg]; exact (below_size (by repeat (first | (with_reducible first | exact HB.out | apply below_alloc | apply pw_below_drewN | apply below_drew1 | refine below_set ?_ GE119.out) | exact HB.out))) : w.heap.size ≤ gb129)); have n7_ := Aside0.mk ((by rw [hg]; exact Nat.ne_of_lt (blk_lt (g := gb119) (o := .cells #[.int .i64 ((rd_T33 t112 x5_1).f0), .int .i64 ((rd_T33 t112 x5_1).f1), .bool ((rd_T33 t112 x5_1).f2)] 33 (0, 0)) (by (with_reducible repeat (first | refine blk_drewN ?_ _ | refine blk_drew ?_ | refine blk_alloc ?_ _)); exact BK119.out)) : gb119 ≠ gb129)); have n8_ := Aside0.mk ((by rw [hg]; exact Nat.ne_of_gt (blk_lt (g := gb119) (o := .cells #[.int .i64 ((rd_T33 t112 x5_1).f0), .int .i64 ((rd_T33 t112 x5_1).f1), .bool ((rd_T33 t112 x5_1).f2)] 33 (0, 0)) (by (with_reducible repeat (first | refine blk_drewN ?_ _ | refine blk_drew ?_ | refine blk_alloc ?_ _)); exact BK119.out)) : gb129 ≠ gb119)); clear HO_3; clear HO_4; clear BK119; clear HB; have HO_3 := n0_; have HO_4 := n1_; have BK119 := n2_; have HB := n3_; have BK129 := n4_; have GW129 := n5_; have GE129 := n6_; have NB119_129 := n7_; have NB129_119 := n8_; clear n0_ n1_ n2_ n3_ n4_ n5_ n6_ n7_ n8_; clear hb hbox hg; have hnb61 := NB129_119.out; have hnc61 := NB119_129.out; have hcz62_0 : w60.cell? ⟨gb129, 0, none⟩ = some (.int .i64 0) := (blk_cell BK129.out 0).trans rfl; have hcz62_1 : w60.cell? ⟨gb129, 1, none⟩ = some (.int .i64 0) := (blk_cell BK129.out 1).trans rfl; have hcz62_2 : w60.cell? ⟨gb129, 2, none⟩ = some (.bool false) := (blk_cell BK129.out 2).trans rfl; have hfz62_0 := blk_frozen BK129.out 0; have hfz62_1 := blk_frozen BK129.out 1; have hfz62_2 := blk_frozen BK129.out 2))
                                            (try simp only [Act.put, List.setIfInBounds_toArray, List.set_cons_zero, List.set_cons_succ])
                                            go_cut [10] (fun v10 wc => ∃ (kq : Nat) (x10_58 : Bool), v10 = .bool x10_58 ∧ Aside0 (rubricatorlaw20_DelimNests.j4 kq l0 t112 y127 x5_1 x8_4 x10_58 ((rd_T33 t112 x5_1).f0) ((rd_T33 t112 x5_1).f1) ((rd_T33 t112 x5_1).f2) ((rd_T33 t112 x8_4).f0) ((rd_T33 t112 x8_4).f1) ((rd_T33 t112 x8_4).f2) = some r) ∧ Aside0 (kq ≤ k4) ∧ Aside0 (Kd.R k33 33 wc w.heap.size (fun k_ => k_ ≠ gb119 ∧ k_ ≠ gb129) (.slice (some ad118) t112.length co15) t112) ∧ Aside0 (Kd.R (Kd.int .i64) 3 wc w.heap.size (fun _ => True) (.slice (some ⟨go46, 0, none⟩) y127.length co51) y127) ∧ Aside0 (wc.heap[gb119]? = some (.cells #[.int .i64 ((rd_T33 t112 x5_1).f0), .int .i64 ((rd_T33 t112 x5_1).f1), .bool ((rd_T33 t112 x5_1).f2)] 33 (0, 0))) ∧ Aside0 (wc.heap[gb129]? = some (.cells #[.int .i64 ((rd_T33 t112 x8_4).f0), .int .i64 ((rd_T33 t112 x8_4).f1), .bool ((rd_T33 t112 x8_4).f2)] 33 (0, 0))) ∧ Aside0 (Below w.heap.size w wc))
                                            case first =>
                                              have H := HC59.out
                                              clear HC59
                                              by_cases c63 : ((rd_T33 t112 x8_4).f0) ≥ ((rd_T33 t112 x5_1).f0)
                                              · rw [if_pos c63] at H
                                                have c63b0 : decide (((rd_T33 t112 x5_1).f0) ≤ ((rd_T33 t112 x8_4).f0)) = true := decide_eq_true c63
                                                clear c63
                                                (first | rw [c63b0] | (simp only [i64_w, i32_w]; rw [c63b0]) | skip)
                                                by_cases c64 : ((rd_T33 t112 x8_4).f1) ≤ ((rd_T33 t112 x5_1).f1)
                                                · rw [if_pos c64] at H
                                                  have c64b0 : decide (((rd_T33 t112 x8_4).f1) ≤ ((rd_T33 t112 x5_1).f1)) = true := decide_eq_true c64
                                                  clear c64
                                                  have H' := Aside0.mk H
                                                  clear H
                                                  have hnb65 := NB129_119.out
                                                  have hnc65 := NB119_129.out
                                                  have hcz66_0 : w60.cell? ⟨gb129, 0, none⟩ = some (.int .i64 0) := (blk_cell BK129.out 0).trans rfl
                                                  have hcz66_1 : w60.cell? ⟨gb129, 1, none⟩ = some (.int .i64 0) := (blk_cell BK129.out 1).trans rfl
                                                  have hcz66_2 : w60.cell? ⟨gb129, 2, none⟩ = some (.bool false) := (blk_cell BK129.out 2).trans rfl
                                                  have hfz66_0 := blk_frozen BK129.out 0
                                                  have hfz66_1 := blk_frozen BK129.out 1
                                                  have hfz66_2 := blk_frozen BK129.out 2
                                                  have hcz67_0 : w60.cell? ⟨gb119, 0, none⟩ = some (.int .i64 ((rd_T33 t112 x5_1).f0)) := (blk_cell BK119.out 0).trans rfl
                                                  have hcz67_1 : w60.cell? ⟨gb119, 1, none⟩ = some (.int .i64 ((rd_T33 t112 x5_1).f1)) := (blk_cell BK119.out 1).trans rfl
                                                  have hcz67_2 : w60.cell? ⟨gb119, 2, none⟩ = some (.bool ((rd_T33 t112 x5_1).f2)) := (blk_cell BK119.out 2).trans rfl
                                                  have hfz67_0 := blk_frozen BK119.out 0
                                                  have hfz67_1 := blk_frozen BK119.out 1
                                                  have hfz67_2 := blk_frozen BK119.out 2
                                                  go_wp2
                                                  go_meet
                                                  case rel => exact ⟨_, (true), (by first | rfl | (simp; done) | (simp [*]; done)), H', ⟨by have := HK1.out; have := HJ13.out; have := HJ40.out; have := HK4.out; first | omega | exact Nat.le_refl _⟩, ⟨by (try simp only [hl4_4]); (with_reducible repeat (first | apply Kd.R_alloc | apply Kd.R_drewN | apply Kd.R_drew)); exact Kd.R_mono (Kd.R_far (p := ⟨gb129, 2, none⟩) (Kd.R_far (p := ⟨gb129, 1, none⟩) (Kd.R_far (p := ⟨gb129, 0, none⟩) (Kd.R_mono HO_3.out (fun k_ hk => (⟨hk, hk.2⟩ : _ ∧ k_ ≠ gb129))) (fun _ hk => hk.2) (.int .i64 ((rd_T33 t112 x8_4).f0))) (fun _ hk => hk.2) (.int .i64 ((rd_T33 t112 x8_4).f1))) (fun _ hk => hk.2) (.bool ((rd_T33 t112 x8_4).f2))) (fun _ hk => ⟨hk.1.1, hk.1.2⟩)⟩, ⟨by (try simp only [hl4_4]); (with_reducible repeat (first | apply Kd.R_alloc | apply Kd.R_drewN | apply Kd.R_drew)); exact Kd.R_mono (Kd.R_far (p := ⟨gb129, 2, none⟩) (Kd.R_far (p := ⟨gb129, 1, none⟩) (Kd.R_far (p := ⟨gb129, 0, none⟩) (Kd.R_types HO_4.out BK129.out (by decide)) (fun _ hk => hk.2) (.int .i64 ((rd_T33 t112 x8_4).f0))) (fun _ hk => hk.2) (.int .i64 ((rd_T33 t112 x8_4).f1))) (fun _ hk => hk.2) (.bool ((rd_T33 t112 x8_4).f2))) (fun _ hk => trivial)⟩, ⟨by (try simp only [hl4_4]); (with_reducible repeat (first | refine blk_drewN ?_ _ | refine blk_drew ?_ | refine blk_alloc ?_ _)); refine blk_far ?_ NB119_129.out _; (with_reducible repeat (first | refine blk_drewN ?_ _ | refine blk_drew ?_ | refine blk_alloc ?_ _)); refine blk_far ?_ NB119_129.out _; (with_reducible repeat (first | refine blk_drewN ?_ _ | refine blk_drew ?_ | refine blk_alloc ?_ _)); refine blk_far ?_ NB119_129.out _; (with_reducible repeat (first | refine blk_drewN ?_ _ | refine blk_drew ?_ | refine blk_alloc ?_ _)); exact BK119.out⟩, ⟨by (try simp only [hl4_4]); (with_reducible repeat (first | refine blk_drewN ?_ _ | refine blk_drew ?_ | refine blk_alloc ?_ _)); refine blk_put (cs := #[.int .i64 ((rd_T33 t112 x8_4).f0), .int .i64 ((rd_T33 t112 x8_4).f1), .bool false]) ?_ 2 _ rfl; (with_reducible repeat (first | refine blk_drewN ?_ _ | refine blk_drew ?_ | refine blk_alloc ?_ _)); refine blk_put (cs := #[.int .i64 ((rd_T33 t112 x8_4).f0), .int .i64 0, .bool false]) ?_ 1 _ rfl; (with_reducible repeat (first | refine blk_drewN ?_ _ | refine blk_drew ?_ | refine blk_alloc ?_ _)); refine blk_put (cs := #[.int .i64 0, .int .i64 0, .bool false]) ?_ 0 _ rfl; (with_reducible repeat (first | refine blk_drewN ?_ _ | refine blk_drew ?_ | refine blk_alloc ?_ _)); exact BK129.out⟩, ⟨by repeat (first | (with_reducible first | exact HB.out | apply below_alloc | apply pw_below_drewN | apply below_drew1 | refine below_set ?_ GE119.out | refine below_set ?_ GE129.out) | exact HB.out)⟩⟩
                                                · rw [if_neg c64] at H
                                                  have c64b0 : decide (((rd_T33 t112 x8_4).f1) ≤ ((rd_T33 t112 x5_1).f1)) = false := decide_eq_false c64
                                                  clear c64
                                                  by_cases c68 : ((rd_T33 t112 x5_1).f0) ≥ ((rd_T33 t112 x8_4).f0)
                                                  · rw [if_pos c68] at H
                                                    have c68b0 : decide (((rd_T33 t112 x8_4).f0) ≤ ((rd_T33 t112 x5_1).f0)) = true := decide_eq_true c68
                                                    clear c68
                                                    have H' := Aside0.mk H
                                                    clear H
                                                    have hnb69 := NB129_119.out
                                                    have hnc69 := NB119_129.out
                                                    have hcz70_0 : w60.cell? ⟨gb129, 0, none⟩ = some (.int .i64 0) := (blk_cell BK129.out 0).trans rfl
                                                    have hcz70_1 : w60.cell? ⟨gb129, 1, none⟩ = some (.int .i64 0) := (blk_cell BK129.out 1).trans rfl
                                                    have hcz70_2 : w60.cell? ⟨gb129, 2, none⟩ = some (.bool false) := (blk_cell BK129.out 2).trans rfl
                                                    have hfz70_0 := blk_frozen BK129.out 0
                                                    have hfz70_1 := blk_frozen BK129.out 1
                                                    have hfz70_2 := blk_frozen BK129.out 2
                                                    have hcz71_0 : w60.cell? ⟨gb119, 0, none⟩ = some (.int .i64 ((rd_T33 t112 x5_1).f0)) := (blk_cell BK119.out 0).trans rfl
                                                    have hcz71_1 : w60.cell? ⟨gb119, 1, none⟩ = some (.int .i64 ((rd_T33 t112 x5_1).f1)) := (blk_cell BK119.out 1).trans rfl
                                                    have hcz71_2 : w60.cell? ⟨gb119, 2, none⟩ = some (.bool ((rd_T33 t112 x5_1).f2)) := (blk_cell BK119.out 2).trans rfl
                                                    have hfz71_0 := blk_frozen BK119.out 0
                                                    have hfz71_1 := blk_frozen BK119.out 1
                                                    have hfz71_2 := blk_frozen BK119.out 2
                                                    go_wp2
                                                    go_meet
                                                    case rel => exact ⟨_, (decide (((rd_T33 t112 x5_1).f1) ≤ ((rd_T33 t112 x8_4).f1))), (by first | rfl | (simp; done) | (simp [*]; done)), H', ⟨by have := HK1.out; have := HJ13.out; have := HJ40.out; have := HK4.out; first | omega | exact Nat.le_refl _⟩, ⟨by (try simp only [hl4_4]); (with_reducible repeat (first | apply Kd.R_alloc | apply Kd.R_drewN | apply Kd.R_drew)); exact Kd.R_mono (Kd.R_far (p := ⟨gb129, 2, none⟩) (Kd.R_far (p := ⟨gb129, 1, none⟩) (Kd.R_far (p := ⟨gb129, 0, none⟩) (Kd.R_mono HO_3.out (fun k_ hk => (⟨hk, hk.2⟩ : _ ∧ k_ ≠ gb129))) (fun _ hk => hk.2) (.int .i64 ((rd_T33 t112 x8_4).f0))) (fun _ hk => hk.2) (.int .i64 ((rd_T33 t112 x8_4).f1))) (fun _ hk => hk.2) (.bool ((rd_T33 t112 x8_4).f2))) (fun _ hk => ⟨hk.1.1, hk.1.2⟩)⟩, ⟨by (try simp only [hl4_4]); (with_reducible repeat (first | apply Kd.R_alloc | apply Kd.R_drewN | apply Kd.R_drew)); exact Kd.R_mono (Kd.R_far (p := ⟨gb129, 2, none⟩) (Kd.R_far (p := ⟨gb129, 1, none⟩) (Kd.R_far (p := ⟨gb129, 0, none⟩) (Kd.R_types HO_4.out BK129.out (by decide)) (fun _ hk => hk.2) (.int .i64 ((rd_T33 t112 x8_4).f0))) (fun _ hk => hk.2) (.int .i64 ((rd_T33 t112 x8_4).f1))) (fun _ hk => hk.2) (.bool ((rd_T33 t112 x8_4).f2))) (fun _ hk => trivial)⟩, ⟨by (try simp only [hl4_4]); (with_reducible repeat (first | refine blk_drewN ?_ _ | refine blk_drew ?_ | refine blk_alloc ?_ _)); refine blk_far ?_ NB119_129.out _; (with_reducible repeat (first | refine blk_drewN ?_ _ | refine blk_drew ?_ | refine blk_alloc ?_ _)); refine blk_far ?_ NB119_129.out _; (with_reducible repeat (first | refine blk_drewN ?_ _ | refine blk_drew ?_ | refine blk_alloc ?_ _)); refine blk_far ?_ NB119_129.out _; (with_reducible repeat (first | refine blk_drewN ?_ _ | refine blk_drew ?_ | refine blk_alloc ?_ _)); exact BK119.out⟩, ⟨by (try simp only [hl4_4]); (with_reducible repeat (first | refine blk_drewN ?_ _ | refine blk_drew ?_ | refine blk_alloc ?_ _)); refine blk_put (cs := #[.int .i64 ((rd_T33 t112 x8_4).f0), .int .i64 ((rd_T33 t112 x8_4).f1), .bool false]) ?_ 2 _ rfl; (with_reducible repeat (first | refine blk_drewN ?_ _ | refine blk_drew ?_ | refine blk_alloc ?_ _)); refine blk_put (cs := #[.int .i64 ((rd_T33 t112 x8_4).f0), .int .i64 0, .bool false]) ?_ 1 _ rfl; (with_reducible repeat (first | refine blk_drewN ?_ _ | refine blk_drew ?_ | refine blk_alloc ?_ _)); refine blk_put (cs := #[.int .i64 0, .int .i64 0, .bool false]) ?_ 0 _ rfl; (with_reducible repeat (first | refine blk_drewN ?_ _ | refine blk_drew ?_ | refine blk_alloc ?_ _)); exact BK129.out⟩, ⟨by repeat (first | (with_reducible first | exact HB.out | apply below_alloc | apply pw_below_drewN | apply below_drew1 | refine below_set ?_ GE119.out | refine below_set ?_ GE129.out) | exact HB.out)⟩⟩
                                                  · rw [if_neg c68] at H
                                                    have c68b0 : decide (((rd_T33 t112 x8_4).f0) ≤ ((rd_T33 t112 x5_1).f0)) = false := decide_eq_false c68
                                                    clear c68
                                                    have H' := Aside0.mk H
                                                    clear H
                                                    have hnb72 := NB129_119.out
                                                    have hnc72 := NB119_129.out
                                                    have hcz73_0 : w60.cell? ⟨gb129, 0, none⟩ = some (.int .i64 0) := (blk_cell BK129.out 0).trans rfl
                                                    have hcz73_1 : w60.cell? ⟨gb129, 1, none⟩ = some (.int .i64 0) := (blk_cell BK129.out 1).trans rfl
                                                    have hcz73_2 : w60.cell? ⟨gb129, 2, none⟩ = some (.bool false) := (blk_cell BK129.out 2).trans rfl
                                                    have hfz73_0 := blk_frozen BK129.out 0
                                                    have hfz73_1 := blk_frozen BK129.out 1
                                                    have hfz73_2 := blk_frozen BK129.out 2
                                                    have hcz74_0 : w60.cell? ⟨gb119, 0, none⟩ = some (.int .i64 ((rd_T33 t112 x5_1).f0)) := (blk_cell BK119.out 0).trans rfl
                                                    have hcz74_1 : w60.cell? ⟨gb119, 1, none⟩ = some (.int .i64 ((rd_T33 t112 x5_1).f1)) := (blk_cell BK119.out 1).trans rfl
                                                    have hcz74_2 : w60.cell? ⟨gb119, 2, none⟩ = some (.bool ((rd_T33 t112 x5_1).f2)) := (blk_cell BK119.out 2).trans rfl
                                                    have hfz74_0 := blk_frozen BK119.out 0
                                                    have hfz74_1 := blk_frozen BK119.out 1
                                                    have hfz74_2 := blk_frozen BK119.out 2
                                                    go_wp2
                                                    go_meet
                                                    case rel => exact ⟨_, (false), (by first | rfl | (simp; done) | (simp [*]; done)), H', ⟨by have := HK1.out; have := HJ13.out; have := HJ40.out; have := HK4.out; first | omega | exact Nat.le_refl _⟩, ⟨by (try simp only [hl4_4]); (with_reducible repeat (first | apply Kd.R_alloc | apply Kd.R_drewN | apply Kd.R_drew)); exact Kd.R_mono (Kd.R_far (p := ⟨gb129, 2, none⟩) (Kd.R_far (p := ⟨gb129, 1, none⟩) (Kd.R_far (p := ⟨gb129, 0, none⟩) (Kd.R_mono HO_3.out (fun k_ hk => (⟨hk, hk.2⟩ : _ ∧ k_ ≠ gb129))) (fun _ hk => hk.2) (.int .i64 ((rd_T33 t112 x8_4).f0))) (fun _ hk => hk.2) (.int .i64 ((rd_T33 t112 x8_4).f1))) (fun _ hk => hk.2) (.bool ((rd_T33 t112 x8_4).f2))) (fun _ hk => ⟨hk.1.1, hk.1.2⟩)⟩, ⟨by (try simp only [hl4_4]); (with_reducible repeat (first | apply Kd.R_alloc | apply Kd.R_drewN | apply Kd.R_drew)); exact Kd.R_mono (Kd.R_far (p := ⟨gb129, 2, none⟩) (Kd.R_far (p := ⟨gb129, 1, none⟩) (Kd.R_far (p := ⟨gb129, 0, none⟩) (Kd.R_types HO_4.out BK129.out (by decide)) (fun _ hk => hk.2) (.int .i64 ((rd_T33 t112 x8_4).f0))) (fun _ hk => hk.2) (.int .i64 ((rd_T33 t112 x8_4).f1))) (fun _ hk => hk.2) (.bool ((rd_T33 t112 x8_4).f2))) (fun _ hk => trivial)⟩, ⟨by (try simp only [hl4_4]); (with_reducible repeat (first | refine blk_drewN ?_ _ | refine blk_drew ?_ | refine blk_alloc ?_ _)); refine blk_far ?_ NB119_129.out _; (with_reducible repeat (first | refine blk_drewN ?_ _ | refine blk_drew ?_ | refine blk_alloc ?_ _)); refine blk_far ?_ NB119_129.out _; (with_reducible repeat (first | refine blk_drewN ?_ _ | refine blk_drew ?_ | refine blk_alloc ?_ _)); refine blk_far ?_ NB119_129.out _; (with_reducible repeat (first | refine blk_drewN ?_ _ | refine blk_drew ?_ | refine blk_alloc ?_ _)); exact BK119.out⟩, ⟨by (try simp only [hl4_4]); (with_reducible repeat (first | refine blk_drewN ?_ _ | refine blk_drew ?_ | refine blk_alloc ?_ _)); refine blk_put (cs := #[.int .i64 ((rd_T33 t112 x8_4).f0), .int .i64 ((rd_T33 t112 x8_4).f1), .bool false]) ?_ 2 _ rfl; (with_reducible repeat (first | refine blk_drewN ?_ _ | refine blk_drew ?_ | refine blk_alloc ?_ _)); refine blk_put (cs := #[.int .i64 ((rd_T33 t112 x8_4).f0), .int .i64 0, .bool false]) ?_ 1 _ rfl; (with_reducible repeat (first | refine blk_drewN ?_ _ | refine blk_drew ?_ | refine blk_alloc ?_ _)); refine blk_put (cs := #[.int .i64 0, .int .i64 0, .bool false]) ?_ 0 _ rfl; (with_reducible repeat (first | refine blk_drewN ?_ _ | refine blk_drew ?_ | refine blk_alloc ?_ _)); exact BK129.out⟩, ⟨by repeat (first | (with_reducible first | exact HB.out | apply below_alloc | apply pw_below_drewN | apply below_drew1 | refine below_set ?_ GE119.out | refine below_set ?_ GE129.out) | exact HB.out)⟩⟩
                                              · rw [if_neg c63] at H
                                                have c63b0 : decide (((rd_T33 t112 x5_1).f0) ≤ ((rd_T33 t112 x8_4).f0)) = false := decide_eq_false c63
                                                clear c63
                                                (first | rw [c63b0] | (simp only [i64_w, i32_w]; rw [c63b0]) | skip)
                                                by_cases c75 : ((rd_T33 t112 x5_1).f0) ≥ ((rd_T33 t112 x8_4).f0)
                                                · rw [if_pos c75] at H
                                                  have c75b0 : decide (((rd_T33 t112 x8_4).f0) ≤ ((rd_T33 t112 x5_1).f0)) = true := decide_eq_true c75
                                                  clear c75
                                                  have H' := Aside0.mk H
                                                  clear H
                                                  have hnb76 := NB129_119.out
                                                  have hnc76 := NB119_129.out
                                                  have hcz77_0 : w60.cell? ⟨gb129, 0, none⟩ = some (.int .i64 0) := (blk_cell BK129.out 0).trans rfl
                                                  have hcz77_1 : w60.cell? ⟨gb129, 1, none⟩ = some (.int .i64 0) := (blk_cell BK129.out 1).trans rfl
                                                  have hcz77_2 : w60.cell? ⟨gb129, 2, none⟩ = some (.bool false) := (blk_cell BK129.out 2).trans rfl
                                                  have hfz77_0 := blk_frozen BK129.out 0
                                                  have hfz77_1 := blk_frozen BK129.out 1
                                                  have hfz77_2 := blk_frozen BK129.out 2
                                                  have hcz78_0 : w60.cell? ⟨gb119, 0, none⟩ = some (.int .i64 ((rd_T33 t112 x5_1).f0)) := (blk_cell BK119.out 0).trans rfl
                                                  have hcz78_1 : w60.cell? ⟨gb119, 1, none⟩ = some (.int .i64 ((rd_T33 t112 x5_1).f1)) := (blk_cell BK119.out 1).trans rfl
                                                  have hcz78_2 : w60.cell? ⟨gb119, 2, none⟩ = some (.bool ((rd_T33 t112 x5_1).f2)) := (blk_cell BK119.out 2).trans rfl
                                                  have hfz78_0 := blk_frozen BK119.out 0
                                                  have hfz78_1 := blk_frozen BK119.out 1
                                                  have hfz78_2 := blk_frozen BK119.out 2
                                                  go_wp2
                                                  go_meet
                                                  case rel => exact ⟨_, (decide (((rd_T33 t112 x5_1).f1) ≤ ((rd_T33 t112 x8_4).f1))), (by first | rfl | (simp; done) | (simp [*]; done)), H', ⟨by have := HK1.out; have := HJ13.out; have := HJ40.out; have := HK4.out; first | omega | exact Nat.le_refl _⟩, ⟨by (try simp only [hl4_4]); (with_reducible repeat (first | apply Kd.R_alloc | apply Kd.R_drewN | apply Kd.R_drew)); exact Kd.R_mono (Kd.R_far (p := ⟨gb129, 2, none⟩) (Kd.R_far (p := ⟨gb129, 1, none⟩) (Kd.R_far (p := ⟨gb129, 0, none⟩) (Kd.R_mono HO_3.out (fun k_ hk => (⟨hk, hk.2⟩ : _ ∧ k_ ≠ gb129))) (fun _ hk => hk.2) (.int .i64 ((rd_T33 t112 x8_4).f0))) (fun _ hk => hk.2) (.int .i64 ((rd_T33 t112 x8_4).f1))) (fun _ hk => hk.2) (.bool ((rd_T33 t112 x8_4).f2))) (fun _ hk => ⟨hk.1.1, hk.1.2⟩)⟩, ⟨by (try simp only [hl4_4]); (with_reducible repeat (first | apply Kd.R_alloc | apply Kd.R_drewN | apply Kd.R_drew)); exact Kd.R_mono (Kd.R_far (p := ⟨gb129, 2, none⟩) (Kd.R_far (p := ⟨gb129, 1, none⟩) (Kd.R_far (p := ⟨gb129, 0, none⟩) (Kd.R_types HO_4.out BK129.out (by decide)) (fun _ hk => hk.2) (.int .i64 ((rd_T33 t112 x8_4).f0))) (fun _ hk => hk.2) (.int .i64 ((rd_T33 t112 x8_4).f1))) (fun _ hk => hk.2) (.bool ((rd_T33 t112 x8_4).f2))) (fun _ hk => trivial)⟩, ⟨by (try simp only [hl4_4]); (with_reducible repeat (first | refine blk_drewN ?_ _ | refine blk_drew ?_ | refine blk_alloc ?_ _)); refine blk_far ?_ NB119_129.out _; (with_reducible repeat (first | refine blk_drewN ?_ _ | refine blk_drew ?_ | refine blk_alloc ?_ _)); refine blk_far ?_ NB119_129.out _; (with_reducible repeat (first | refine blk_drewN ?_ _ | refine blk_drew ?_ | refine blk_alloc ?_ _)); refine blk_far ?_ NB119_129.out _; (with_reducible repeat (first | refine blk_drewN ?_ _ | refine blk_drew ?_ | refine blk_alloc ?_ _)); exact BK119.out⟩, ⟨by (try simp only [hl4_4]); (with_reducible repeat (first | refine blk_drewN ?_ _ | refine blk_drew ?_ | refine blk_alloc ?_ _)); refine blk_put (cs := #[.int .i64 ((rd_T33 t112 x8_4).f0), .int .i64 ((rd_T33 t112 x8_4).f1), .bool false]) ?_ 2 _ rfl; (with_reducible repeat (first | refine blk_drewN ?_ _ | refine blk_drew ?_ | refine blk_alloc ?_ _)); refine blk_put (cs := #[.int .i64 ((rd_T33 t112 x8_4).f0), .int .i64 0, .bool false]) ?_ 1 _ rfl; (with_reducible repeat (first | refine blk_drewN ?_ _ | refine blk_drew ?_ | refine blk_alloc ?_ _)); refine blk_put (cs := #[.int .i64 0, .int .i64 0, .bool false]) ?_ 0 _ rfl; (with_reducible repeat (first | refine blk_drewN ?_ _ | refine blk_drew ?_ | refine blk_alloc ?_ _)); exact BK129.out⟩, ⟨by repeat (first | (with_reducible first | exact HB.out | apply below_alloc | apply pw_below_drewN | apply below_drew1 | refine below_set ?_ GE119.out | refine below_set ?_ GE129.out) | exact HB.out)⟩⟩
                                                · rw [if_neg c75] at H
                                                  have c75b0 : decide (((rd_T33 t112 x8_4).f0) ≤ ((rd_T33 t112 x5_1).f0)) = false := decide_eq_false c75
                                                  clear c75
                                                  have H' := Aside0.mk H
                                                  clear H
                                                  have hnb79 := NB129_119.out
                                                  have hnc79 := NB119_129.out
                                                  have hcz80_0 : w60.cell? ⟨gb129, 0, none⟩ = some (.int .i64 0) := (blk_cell BK129.out 0).trans rfl
                                                  have hcz80_1 : w60.cell? ⟨gb129, 1, none⟩ = some (.int .i64 0) := (blk_cell BK129.out 1).trans rfl
                                                  have hcz80_2 : w60.cell? ⟨gb129, 2, none⟩ = some (.bool false) := (blk_cell BK129.out 2).trans rfl
                                                  have hfz80_0 := blk_frozen BK129.out 0
                                                  have hfz80_1 := blk_frozen BK129.out 1
                                                  have hfz80_2 := blk_frozen BK129.out 2
                                                  have hcz81_0 : w60.cell? ⟨gb119, 0, none⟩ = some (.int .i64 ((rd_T33 t112 x5_1).f0)) := (blk_cell BK119.out 0).trans rfl
                                                  have hcz81_1 : w60.cell? ⟨gb119, 1, none⟩ = some (.int .i64 ((rd_T33 t112 x5_1).f1)) := (blk_cell BK119.out 1).trans rfl
                                                  have hcz81_2 : w60.cell? ⟨gb119, 2, none⟩ = some (.bool ((rd_T33 t112 x5_1).f2)) := (blk_cell BK119.out 2).trans rfl
                                                  have hfz81_0 := blk_frozen BK119.out 0
                                                  have hfz81_1 := blk_frozen BK119.out 1
                                                  have hfz81_2 := blk_frozen BK119.out 2
                                                  go_wp2
                                                  go_meet
                                                  case rel => exact ⟨_, (false), (by first | rfl | (simp; done) | (simp [*]; done)), H', ⟨by have := HK1.out; have := HJ13.out; have := HJ40.out; have := HK4.out; first | omega | exact Nat.le_refl _⟩, ⟨by (try simp only [hl4_4]); (with_reducible repeat (first | apply Kd.R_alloc | apply Kd.R_drewN | apply Kd.R_drew)); exact Kd.R_mono (Kd.R_far (p := ⟨gb129, 2, none⟩) (Kd.R_far (p := ⟨gb129, 1, none⟩) (Kd.R_far (p := ⟨gb129, 0, none⟩) (Kd.R_mono HO_3.out (fun k_ hk => (⟨hk, hk.2⟩ : _ ∧ k_ ≠ gb129))) (fun _ hk => hk.2) (.int .i64 ((rd_T33 t112 x8_4).f0))) (fun _ hk => hk.2) (.int .i64 ((rd_T33 t112 x8_4).f1))) (fun _ hk => hk.2) (.bool ((rd_T33 t112 x8_4).f2))) (fun _ hk => ⟨hk.1.1, hk.1.2⟩)⟩, ⟨by (try simp only [hl4_4]); (with_reducible repeat (first | apply Kd.R_alloc | apply Kd.R_drewN | apply Kd.R_drew)); exact Kd.R_mono (Kd.R_far (p := ⟨gb129, 2, none⟩) (Kd.R_far (p := ⟨gb129, 1, none⟩) (Kd.R_far (p := ⟨gb129, 0, none⟩) (Kd.R_types HO_4.out BK129.out (by decide)) (fun _ hk => hk.2) (.int .i64 ((rd_T33 t112 x8_4).f0))) (fun _ hk => hk.2) (.int .i64 ((rd_T33 t112 x8_4).f1))) (fun _ hk => hk.2) (.bool ((rd_T33 t112 x8_4).f2))) (fun _ hk => trivial)⟩, ⟨by (try simp only [hl4_4]); (with_reducible repeat (first | refine blk_drewN ?_ _ | refine blk_drew ?_ | refine blk_alloc ?_ _)); refine blk_far ?_ NB119_129.out _; (with_reducible repeat (first | refine blk_drewN ?_ _ | refine blk_drew ?_ | refine blk_alloc ?_ _)); refine blk_far ?_ NB119_129.out _; (with_reducible repeat (first | refine blk_drewN ?_ _ | refine blk_drew ?_ | refine blk_alloc ?_ _)); refine blk_far ?_ NB119_129.out _; (with_reducible repeat (first | refine blk_drewN ?_ _ | refine blk_drew ?_ | refine blk_alloc ?_ _)); exact BK119.out⟩, ⟨by (try simp only [hl4_4]); (with_reducible repeat (first | refine blk_drewN ?_ _ | refine blk_drew ?_ | refine blk_alloc ?_ _)); refine blk_put (cs := #[.int .i64 ((rd_T33 t112 x8_4).f0), .int .i64 ((rd_T33 t112 x8_4).f1), .bool false]) ?_ 2 _ rfl; (with_reducible repeat (first | refine blk_drewN ?_ _ | refine blk_drew ?_ | refine blk_alloc ?_ _)); refine blk_put (cs := #[.int .i64 ((rd_T33 t112 x8_4).f0), .int .i64 0, .bool false]) ?_ 1 _ rfl; (with_reducible repeat (first | refine blk_drewN ?_ _ | refine blk_drew ?_ | refine blk_alloc ?_ _)); refine blk_put (cs := #[.int .i64 0, .int .i64 0, .bool false]) ?_ 0 _ rfl; (with_reducible repeat (first | refine blk_drewN ?_ _ | refine blk_drew ?_ | refine blk_alloc ?_ _)); exact BK129.out⟩, ⟨by repeat (first | (with_reducible first | exact HB.out | apply below_alloc | apply pw_below_drewN | apply below_drew1 | refine below_set ?_ GE119.out | refine below_set ?_ GE129.out) | exact HB.out)⟩⟩
                                            case rest =>
                                              clear HC59
                                              try clear p1
                                              try clear q1
                                              try clear hx1
                                              try clear c2
                                              try clear p2
                                              try clear c3
                                              try clear c4
                                              try clear p4
                                              try clear q4
                                              try clear hx4
                                              try clear hf4
                                              try clear c5
                                              try clear c6
                                              try clear p6
                                              try clear c7
                                              try clear p12
                                              try clear q12
                                              try clear hx12
                                              try clear c27
                                              try clear c28
                                              try clear c29
                                              try clear c30
                                              try clear c31
                                              try clear c31b0
                                              try clear c31b1
                                              try clear c40
                                              try clear c43
                                              try clear c43b0
                                              try clear c44
                                              try clear c44b0
                                              try clear c45
                                              try clear c45b0
                                              try clear p46
                                              try clear q46
                                              try clear hx46
                                              try clear hf46
                                              try clear c47
                                              try clear c47b0
                                              try clear c48
                                              try clear c48b0
                                              try clear p49
                                              try clear q49
                                              try clear hx49
                                              try clear hf49
                                              try clear c56
                                              try clear c56b0
                                              try clear c57
                                              try clear c57b0
                                              try clear c58
                                              try clear c58b0
                                              try clear c61
                                              try clear c63
                                              try clear c63b0
                                              try clear c64
                                              try clear c64b0
                                              try clear p64
                                              try clear c65
                                              try clear c68
                                              try clear c68b0
                                              try clear c69
                                              try clear c72
                                              try clear c75
                                              try clear c75b0
                                              try clear c76
                                              try clear c79
                                              try clear hcz42_0
                                              try clear hcz42_1
                                              try clear hcz42_2
                                              try clear hcz62_0
                                              try clear hcz62_1
                                              try clear hcz62_2
                                              try clear hcz66_0
                                              try clear hcz66_1
                                              try clear hcz66_2
                                              try clear hcz67_0
                                              try clear hcz67_1
                                              try clear hcz67_2
                                              try clear hcz70_0
                                              try clear hcz70_1
                                              try clear hcz70_2
                                              try clear hcz71_0
                                              try clear hcz71_1
                                              try clear hcz71_2
                                              try clear hcz73_0
                                              try clear hcz73_1
                                              try clear hcz73_2
                                              try clear hcz74_0
                                              try clear hcz74_1
                                              try clear hcz74_2
                                              try clear hcz77_0
                                              try clear hcz77_1
                                              try clear hcz77_2
                                              try clear hcz78_0
                                              try clear hcz78_1
                                              try clear hcz78_2
                                              try clear hcz80_0
                                              try clear hcz80_1
                                              try clear hcz80_2
                                              try clear hcz81_0
                                              try clear hcz81_1
                                              try clear hcz81_2
                                              try clear hfz42_0
                                              try clear hfz42_1
                                              try clear hfz42_2
                                              try clear hfz62_0
                                              try clear hfz62_1
                                              try clear hfz62_2
                                              try clear hfz66_0
                                              try clear hfz66_1
                                              try clear hfz66_2
                                              try clear hfz67_0
                                              try clear hfz67_1
                                              try clear hfz67_2
                                              try clear hfz70_0
                                              try clear hfz70_1
                                              try clear hfz70_2
                                              try clear hfz71_0
                                              try clear hfz71_1
                                              try clear hfz71_2
                                              try clear hfz73_0
                                              try clear hfz73_1
                                              try clear hfz73_2
                                              try clear hfz74_0
                                              try clear hfz74_1
                                              try clear hfz74_2
                                              try clear hfz77_0
                                              try clear hfz77_1
                                              try clear hfz77_2
                                              try clear hfz78_0
                                              try clear hfz78_1
                                              try clear hfz78_2
                                              try clear hfz80_0
                                              try clear hfz80_1
                                              try clear hfz80_2
                                              try clear hfz81_0
                                              try clear hfz81_1
                                              try clear hfz81_2
                                              try clear hx120_0
                                              try clear hx120_1
                                              try clear hx120_2
                                              try clear hx120_3
                                              try clear hx121_0
                                              try clear hx121_1
                                              try clear hx121_2
                                              try clear hx121_3
                                              try clear hx124_0
                                              try clear hx126_0
                                              try clear hx128_0
                                              try clear hx128_1
                                              try clear hx128_2
                                              try clear hx46_0
                                              try clear hx49_0
                                              try clear p1
                                              try clear p12
                                              try clear p120
                                              try clear p121
                                              try clear p124
                                              try clear p126
                                              try clear p128
                                              try clear p2
                                              try clear p4
                                              try clear p46
                                              try clear p49
                                              try clear p6
                                              try clear q1
                                              try clear q12
                                              try clear q120
                                              try clear q121
                                              try clear q124
                                              try clear q126
                                              try clear q128
                                              try clear q4
                                              try clear q46
                                              try clear q49
                                              obtain ⟨kq, x10_58, rfl, HA, HJ58, HO_3, HO_4, BK119, BK129, HB⟩ := hcut
                                              cases kq with
                                              | zero => exact absurd HA.out (by simp [rubricatorlaw20_DelimNests.j4])
                                              | succ kj58 =>
                                                have H := HA.out
                                                clear HA
                                                simp only [rubricatorlaw20_DelimNests.j4] at H
                                                have HC82 := Aside0.mk H
                                                clear H
                                                go_upto_region 21 with (fail)
                                                go_cut [154] (fun v154 wc => ∃ (kq : Nat) (x154_81 : Bool), v154 = .bool x154_81 ∧ Aside0 (rubricatorlaw20_DelimNests.j5 kq l0 t112 y127 x5_1 x8_4 x154_81 ((rd_T33 t112 x5_1).f0) ((rd_T33 t112 x5_1).f1) ((rd_T33 t112 x5_1).f2) = some r) ∧ Aside0 (kq ≤ kj58) ∧ Aside0 (Kd.R k33 33 wc w.heap.size (fun k_ => k_ ≠ gb119 ∧ k_ ≠ gb129) (.slice (some ad118) t112.length co15) t112) ∧ Aside0 (Kd.R (Kd.int .i64) 3 wc w.heap.size (fun _ => True) (.slice (some ⟨go46, 0, none⟩) y127.length co51) y127) ∧ Aside0 (wc.heap[gb119]? = some (.cells #[.int .i64 ((rd_T33 t112 x5_1).f0), .int .i64 ((rd_T33 t112 x5_1).f1), .bool ((rd_T33 t112 x5_1).f2)] 33 (0, 0))) ∧ Aside0 (wc.heap[gb129]? = some (.cells #[.int .i64 ((rd_T33 t112 x8_4).f0), .int .i64 ((rd_T33 t112 x8_4).f1), .bool ((rd_T33 t112 x8_4).f2)] 33 (0, 0))) ∧ Aside0 (Below w.heap.size w wc))
                                                case first =>
                                                  have H := HC82.out
                                                  clear HC82
                                                  by_cases c83 : x10_58 = true
                                                  · subst c83
                                                    have H1 : (rubricatorlaw20_DelimNests.j5 kj58 l0 t112 y127 x5_1 x8_4 false ((rd_T33 t112 x5_1).f0) ((rd_T33 t112 x5_1).f1) ((rd_T33 t112 x5_1).f2)) = some r := by rw [if_pos rfl] at H; exact H
                                                    clear H
                                                    have H := H1
                                                    clear H1
                                                    have H' := Aside0.mk H
                                                    clear H
                                                    go_wp2
                                                    go_meet
                                                    case rel => exact ⟨_, (false), (by first | rfl | (simp; done) | (simp [*]; done)), H', ⟨by have := HK1.out; have := HJ13.out; have := HJ40.out; have := HK4.out; have := HJ58.out; first | omega | exact Nat.le_refl _⟩, ⟨by (try simp only [hl4_4]); (with_reducible repeat (first | apply Kd.R_alloc | apply Kd.R_drewN | apply Kd.R_drew)); exact HO_3.out⟩, ⟨by (try simp only [hl4_4]); (with_reducible repeat (first | apply Kd.R_alloc | apply Kd.R_drewN | apply Kd.R_drew)); exact HO_4.out⟩, ⟨by (try simp only [hl4_4]); (with_reducible repeat (first | refine blk_drewN ?_ _ | refine blk_drew ?_ | refine blk_alloc ?_ _)); exact BK119.out⟩, ⟨by (try simp only [hl4_4]); (with_reducible repeat (first | refine blk_drewN ?_ _ | refine blk_drew ?_ | refine blk_alloc ?_ _)); exact BK129.out⟩, ⟨by repeat (first | (with_reducible first | exact HB.out | apply below_alloc | apply pw_below_drewN | apply below_drew1 | refine below_set ?_ GE119.out | refine below_set ?_ GE129.out) | exact HB.out)⟩⟩
                                                  · replace c83 := Bool.eq_false_iff.mpr c83
                                                    subst c83
                                                    have H1 : (if ((rd_T33 t112 x8_4).f1) ≤ ((rd_T33 t112 x5_1).f0) then (rubricatorlaw20_DelimNests.j5 kj58 l0 t112 y127 x5_1 x8_4 (!true) ((rd_T33 t112 x5_1).f0) ((rd_T33 t112 x5_1).f1) ((rd_T33 t112 x5_1).f2)) else (rubricatorlaw20_DelimNests.j5 kj58 l0 t112 y127 x5_1 x8_4 (!(decide (((rd_T33 t112 x5_1).f1) ≤ ((rd_T33 t112 x8_4).f0)))) ((rd_T33 t112 x5_1).f0) ((rd_T33 t112 x5_1).f1) ((rd_T33 t112 x5_1).f2))) = some r := by rw [if_neg (show ¬ (false = true) by decide)] at H; exact H
                                                    clear H
                                                    have H := H1
                                                    clear H1
                                                    by_cases c84 : ((rd_T33 t112 x8_4).f1) ≤ ((rd_T33 t112 x5_1).f0)
                                                    · rw [if_pos c84] at H
                                                      have c84b0 : decide (((rd_T33 t112 x8_4).f1) ≤ ((rd_T33 t112 x5_1).f0)) = true := decide_eq_true c84
                                                      clear c84
                                                      (first | rw [c84b0] | (simp only [i64_w, i32_w]; rw [c84b0]) | skip)
                                                      have H' := Aside0.mk H
                                                      clear H
                                                      have hnb85 := NB129_119.out
                                                      have hnc85 := NB119_129.out
                                                      have hcz86_0 : wc.cell? ⟨gb129, 0, none⟩ = some (.int .i64 ((rd_T33 t112 x8_4).f0)) := (blk_cell BK129.out 0).trans rfl
                                                      have hcz86_1 : wc.cell? ⟨gb129, 1, none⟩ = some (.int .i64 ((rd_T33 t112 x8_4).f1)) := (blk_cell BK129.out 1).trans rfl
                                                      have hcz86_2 : wc.cell? ⟨gb129, 2, none⟩ = some (.bool ((rd_T33 t112 x8_4).f2)) := (blk_cell BK129.out 2).trans rfl
                                                      have hfz86_0 := blk_frozen BK129.out 0
                                                      have hfz86_1 := blk_frozen BK129.out 1
                                                      have hfz86_2 := blk_frozen BK129.out 2
                                                      have hcz87_0 : wc.cell? ⟨gb119, 0, none⟩ = some (.int .i64 ((rd_T33 t112 x5_1).f0)) := (blk_cell BK119.out 0).trans rfl
                                                      have hcz87_1 : wc.cell? ⟨gb119, 1, none⟩ = some (.int .i64 ((rd_T33 t112 x5_1).f1)) := (blk_cell BK119.out 1).trans rfl
                                                      have hcz87_2 : wc.cell? ⟨gb119, 2, none⟩ = some (.bool ((rd_T33 t112 x5_1).f2)) := (blk_cell BK119.out 2).trans rfl
                                                      have hfz87_0 := blk_frozen BK119.out 0
                                                      have hfz87_1 := blk_frozen BK119.out 1
                                                      have hfz87_2 := blk_frozen BK119.out 2
                                                      go_wp2
                                                      go_meet
                                                      case rel => exact ⟨_, (!true), (by first | rfl | (simp; done) | (simp [*]; done)), H', ⟨by have := HK1.out; have := HJ13.out; have := HJ40.out; have := HK4.out; have := HJ58.out; first | omega | exact Nat.le_refl _⟩, ⟨by (try simp only [hl4_4]); (with_reducible repeat (first | apply Kd.R_alloc | apply Kd.R_drewN | apply Kd.R_drew)); exact HO_3.out⟩, ⟨by (try simp only [hl4_4]); (with_reducible repeat (first | apply Kd.R_alloc | apply Kd.R_drewN | apply Kd.R_drew)); exact HO_4.out⟩, ⟨by (try simp only [hl4_4]); (with_reducible repeat (first | refine blk_drewN ?_ _ | refine blk_drew ?_ | refine blk_alloc ?_ _)); exact BK119.out⟩, ⟨by (try simp only [hl4_4]); (with_reducible repeat (first | refine blk_drewN ?_ _ | refine blk_drew ?_ | refine blk_alloc ?_ _)); exact BK129.out⟩, ⟨by repeat (first | (with_reducible first | exact HB.out | apply below_alloc | apply pw_below_drewN | apply below_drew1 | refine below_set ?_ GE119.out | refine below_set ?_ GE129.out) | exact HB.out)⟩⟩
                                                    · rw [if_neg c84] at H
                                                      have c84b0 : decide (((rd_T33 t112 x8_4).f1) ≤ ((rd_T33 t112 x5_1).f0)) = false := decide_eq_false c84
                                                      clear c84
                                                      (first | rw [c84b0] | (simp only [i64_w, i32_w]; rw [c84b0]) | skip)
                                                      have H' := Aside0.mk H
                                                      clear H
                                                      have hnb88 := NB129_119.out
                                                      have hnc88 := NB119_129.out
                                                      have hcz89_0 : wc.cell? ⟨gb129, 0, none⟩ = some (.int .i64 ((rd_T33 t112 x8_4).f0)) := (blk_cell BK129.out 0).trans rfl
                                                      have hcz89_1 : wc.cell? ⟨gb129, 1, none⟩ = some (.int .i64 ((rd_T33 t112 x8_4).f1)) := (blk_cell BK129.out 1).trans rfl
                                                      have hcz89_2 : wc.cell? ⟨gb129, 2, none⟩ = some (.bool ((rd_T33 t112 x8_4).f2)) := (blk_cell BK129.out 2).trans rfl
                                                      have hfz89_0 := blk_frozen BK129.out 0
                                                      have hfz89_1 := blk_frozen BK129.out 1
                                                      have hfz89_2 := blk_frozen BK129.out 2
                                                      have hcz90_0 : wc.cell? ⟨gb119, 0, none⟩ = some (.int .i64 ((rd_T33 t112 x5_1).f0)) := (blk_cell BK119.out 0).trans rfl
                                                      have hcz90_1 : wc.cell? ⟨gb119, 1, none⟩ = some (.int .i64 ((rd_T33 t112 x5_1).f1)) := (blk_cell BK119.out 1).trans rfl
                                                      have hcz90_2 : wc.cell? ⟨gb119, 2, none⟩ = some (.bool ((rd_T33 t112 x5_1).f2)) := (blk_cell BK119.out 2).trans rfl
                                                      have hfz90_0 := blk_frozen BK119.out 0
                                                      have hfz90_1 := blk_frozen BK119.out 1
                                                      have hfz90_2 := blk_frozen BK119.out 2
                                                      go_wp2
                                                      go_meet
                                                      case rel => exact ⟨_, (!(decide (((rd_T33 t112 x5_1).f1) ≤ ((rd_T33 t112 x8_4).f0)))), (by first | rfl | (simp; done) | (simp [*]; done)), H', ⟨by have := HK1.out; have := HJ13.out; have := HJ40.out; have := HK4.out; have := HJ58.out; first | omega | exact Nat.le_refl _⟩, ⟨by (try simp only [hl4_4]); (with_reducible repeat (first | apply Kd.R_alloc | apply Kd.R_drewN | apply Kd.R_drew)); exact HO_3.out⟩, ⟨by (try simp only [hl4_4]); (with_reducible repeat (first | apply Kd.R_alloc | apply Kd.R_drewN | apply Kd.R_drew)); exact HO_4.out⟩, ⟨by (try simp only [hl4_4]); (with_reducible repeat (first | refine blk_drewN ?_ _ | refine blk_drew ?_ | refine blk_alloc ?_ _)); exact BK119.out⟩, ⟨by (try simp only [hl4_4]); (with_reducible repeat (first | refine blk_drewN ?_ _ | refine blk_drew ?_ | refine blk_alloc ?_ _)); exact BK129.out⟩, ⟨by repeat (first | (with_reducible first | exact HB.out | apply below_alloc | apply pw_below_drewN | apply below_drew1 | refine below_set ?_ GE119.out | refine below_set ?_ GE129.out) | exact HB.out)⟩⟩
                                                case rest =>
                                                  clear HC82
                                                  try clear p1
                                                  try clear q1
                                                  try clear hx1
                                                  try clear c2
                                                  try clear p2
                                                  try clear c3
                                                  try clear c4
                                                  try clear p4
                                                  try clear q4
                                                  try clear hx4
                                                  try clear hf4
                                                  try clear c5
                                                  try clear c6
                                                  try clear p6
                                                  try clear c7
                                                  try clear c8
                                                  try clear p12
                                                  try clear q12
                                                  try clear hx12
                                                  try clear c27
                                                  try clear c28
                                                  try clear c29
                                                  try clear c30
                                                  try clear c31
                                                  try clear c31b0
                                                  try clear c31b1
                                                  try clear c40
                                                  try clear c43
                                                  try clear c43b0
                                                  try clear c44
                                                  try clear c44b0
                                                  try clear c45
                                                  try clear c45b0
                                                  try clear p46
                                                  try clear q46
                                                  try clear hx46
                                                  try clear hf46
                                                  try clear c47
                                                  try clear c47b0
                                                  try clear c48
                                                  try clear c48b0
                                                  try clear p49
                                                  try clear q49
                                                  try clear hx49
                                                  try clear hf49
                                                  try clear c56
                                                  try clear c56b0
                                                  try clear c57
                                                  try clear c57b0
                                                  try clear c58
                                                  try clear c58b0
                                                  try clear c61
                                                  try clear c63
                                                  try clear c63b0
                                                  try clear c64
                                                  try clear c64b0
                                                  try clear p64
                                                  try clear c65
                                                  try clear c68
                                                  try clear c68b0
                                                  try clear c69
                                                  try clear c72
                                                  try clear c75
                                                  try clear c75b0
                                                  try clear c76
                                                  try clear c79
                                                  try clear c83
                                                  try clear c84
                                                  try clear c84b0
                                                  try clear c85
                                                  try clear c88
                                                  try clear hcz42_0
                                                  try clear hcz42_1
                                                  try clear hcz42_2
                                                  try clear hcz62_0
                                                  try clear hcz62_1
                                                  try clear hcz62_2
                                                  try clear hcz66_0
                                                  try clear hcz66_1
                                                  try clear hcz66_2
                                                  try clear hcz67_0
                                                  try clear hcz67_1
                                                  try clear hcz67_2
                                                  try clear hcz70_0
                                                  try clear hcz70_1
                                                  try clear hcz70_2
                                                  try clear hcz71_0
                                                  try clear hcz71_1
                                                  try clear hcz71_2
                                                  try clear hcz73_0
                                                  try clear hcz73_1
                                                  try clear hcz73_2
                                                  try clear hcz74_0
                                                  try clear hcz74_1
                                                  try clear hcz74_2
                                                  try clear hcz77_0
                                                  try clear hcz77_1
                                                  try clear hcz77_2
                                                  try clear hcz78_0
                                                  try clear hcz78_1
                                                  try clear hcz78_2
                                                  try clear hcz80_0
                                                  try clear hcz80_1
                                                  try clear hcz80_2
                                                  try clear hcz81_0
                                                  try clear hcz81_1
                                                  try clear hcz81_2
                                                  try clear hcz86_0
                                                  try clear hcz86_1
                                                  try clear hcz86_2
                                                  try clear hcz87_0
                                                  try clear hcz87_1
                                                  try clear hcz87_2
                                                  try clear hcz89_0
                                                  try clear hcz89_1
                                                  try clear hcz89_2
                                                  try clear hcz90_0
                                                  try clear hcz90_1
                                                  try clear hcz90_2
                                                  try clear hfz42_0
                                                  try clear hfz42_1
                                                  try clear hfz42_2
                                                  try clear hfz62_0
                                                  try clear hfz62_1
                                                  try clear hfz62_2
                                                  try clear hfz66_0
                                                  try clear hfz66_1
                                                  try clear hfz66_2
                                                  try clear hfz67_0
                                                  try clear hfz67_1
                                                  try clear hfz67_2
                                                  try clear hfz70_0
                                                  try clear hfz70_1
                                                  try clear hfz70_2
                                                  try clear hfz71_0
                                                  try clear hfz71_1
                                                  try clear hfz71_2
                                                  try clear hfz73_0
                                                  try clear hfz73_1
                                                  try clear hfz73_2
                                                  try clear hfz74_0
                                                  try clear hfz74_1
                                                  try clear hfz74_2
                                                  try clear hfz77_0
                                                  try clear hfz77_1
                                                  try clear hfz77_2
                                                  try clear hfz78_0
                                                  try clear hfz78_1
                                                  try clear hfz78_2
                                                  try clear hfz80_0
                                                  try clear hfz80_1
                                                  try clear hfz80_2
                                                  try clear hfz81_0
                                                  try clear hfz81_1
                                                  try clear hfz81_2
                                                  try clear hfz86_0
                                                  try clear hfz86_1
                                                  try clear hfz86_2
                                                  try clear hfz87_0
                                                  try clear hfz87_1
                                                  try clear hfz87_2
                                                  try clear hfz89_0
                                                  try clear hfz89_1
                                                  try clear hfz89_2
                                                  try clear hfz90_0
                                                  try clear hfz90_1
                                                  try clear hfz90_2
                                                  try clear hx120_0
                                                  try clear hx120_1
                                                  try clear hx120_2
                                                  try clear hx120_3
                                                  try clear hx121_0
                                                  try clear hx121_1
                                                  try clear hx121_2
                                                  try clear hx121_3
                                                  try clear hx124_0
                                                  try clear hx126_0
                                                  try clear hx128_0
                                                  try clear hx128_1
                                                  try clear hx128_2
                                                  try clear hx46_0
                                                  try clear hx49_0
                                                  try clear p1
                                                  try clear p12
                                                  try clear p120
                                                  try clear p121
                                                  try clear p124
                                                  try clear p126
                                                  try clear p128
                                                  try clear p2
                                                  try clear p4
                                                  try clear p46
                                                  try clear p49
                                                  try clear p6
                                                  try clear p64
                                                  try clear q1
                                                  try clear q12
                                                  try clear q120
                                                  try clear q121
                                                  try clear q124
                                                  try clear q126
                                                  try clear q128
                                                  try clear q4
                                                  try clear q46
                                                  try clear q49
                                                  obtain ⟨kq, x154_81, rfl, HA, HJ81, HO_3, HO_4, BK119, BK129, HB⟩ := hcut
                                                  cases kq with
                                                  | zero => exact absurd HA.out (by simp [rubricatorlaw20_DelimNests.j5])
                                                  | succ kj81 =>
                                                    have H := HA.out
                                                    clear HA
                                                    simp only [rubricatorlaw20_DelimNests.j5] at H
                                                    by_cases c91 : x154_81 = true
                                                    · subst c91
                                                      have H1 : (some false) = some r := by rw [if_pos rfl] at H; exact H
                                                      clear H
                                                      have H := H1
                                                      clear H1
                                                      obtain rfl := Option.some.inj H
                                                      go_wp2
                                                      go_ret
                                                      exact ⟨by first | rfl | (simp [errW_none, errW_some] <;> rfl) | (simp [*, errW_none, errW_some] <;> rfl), by repeat (first | (with_reducible first | exact HB.out | apply below_alloc | apply pw_below_drewN | apply below_drew1 | refine below_set ?_ GE119.out | refine below_set ?_ GE129.out) | exact HB.out)⟩
                                                    · replace c91 := Bool.eq_false_iff.mpr c91
                                                      subst c91
                                                      have H1 : (rubricatorlaw20_DelimNests.l1 kj81 l0 t112 y127 x5_1 (wrap64 (x8_4 + 1)) ((rd_T33 t112 x5_1).f0) ((rd_T33 t112 x5_1).f1) ((rd_T33 t112 x5_1).f2)) = some r := by rw [if_neg (show ¬ (false = true) by decide)] at H; exact H
                                                      clear H
                                                      have H := H1
                                                      clear H1
                                                      have H' := Aside0.mk H
                                                      clear H
                                                      go_wp2
                                                      (try simp only [← hl4_4])
                                                      go_roundg kj81
                                                      case measure => have := HK1.out; have := HJ13.out; have := HJ40.out; have := HK4.out; have := HJ58.out; have := HJ81.out; omega
                                                      case rel => exact ⟨(wrap64 (x8_4 + 1)), (by first | rfl | (simp; done) | (simp [*]; done)), H', ⟨by have := HK1.out; have := HJ13.out; have := HJ40.out; have := HK4.out; have := HJ58.out; have := HJ81.out; omega⟩, ⟨by (try simp only [hl4_4]); (with_reducible repeat (first | apply Kd.R_alloc | apply Kd.R_drewN | apply Kd.R_drew)); exact Kd.R_mono HO_3.out (fun _ hk => hk.1)⟩, ⟨by (try simp only [hl4_4]); (with_reducible repeat (first | apply Kd.R_alloc | apply Kd.R_drewN | apply Kd.R_drew)); exact HO_4.out⟩, ⟨by (try simp only [hl4_4]); (with_reducible repeat (first | refine blk_drewN ?_ _ | refine blk_drew ?_ | refine blk_alloc ?_ _)); exact BK119.out⟩, ⟨by repeat (first | (with_reducible first | exact HB.out | apply below_alloc | apply pw_below_drewN | apply below_drew1 | refine below_set ?_ GE119.out | refine below_set ?_ GE129.out) | exact HB.out)⟩⟩
                                          · rw [if_neg c58] at H
                                            exact absurd H (by simp)
                                        · rw [if_neg c57] at H
                                          exact absurd H (by simp)
                                      · rw [if_neg c56] at H
                                        have c56b0 : decide (x8_4 < x5_1) = false := decide_eq_false c56
                                        clear c56
                                        have H' := Aside0.mk H
                                        clear H
                                        go_wp2
                                        (try simp only [← hl4_4])
                                        go_roundg k4
                                        case measure => have := HK1.out; have := HJ13.out; have := HJ40.out; have := HK4.out; omega
                                        case rel => exact ⟨(y127), (wrap64 (x5_1 + 1)), (by first | rfl | (simp; done) | (simp [*]; done)), H', ⟨by have := HK1.out; have := HJ13.out; have := HJ40.out; have := HK4.out; omega⟩, ⟨by (try simp only [hl4_4]); (with_reducible repeat (first | apply Kd.R_alloc | apply Kd.R_drewN | apply Kd.R_drew)); exact Kd.R_mono HO_3.out (fun _ hk => trivial)⟩, ⟨by (try simp only [hl4_4]); (with_reducible repeat (first | apply Kd.R_alloc | apply Kd.R_drewN | apply Kd.R_drew)); exact HO_4.out⟩, ⟨by repeat (first | (with_reducible first | exact HB.out | apply below_alloc | apply pw_below_drewN | apply below_drew1 | refine below_set ?_ GE119.out) | exact HB.out)⟩⟩
                                · rw [if_neg c48] at H
                                  exact absurd H (by simp)
                              · rw [if_neg c47] at H
                                exact absurd H (by simp)
                            · rw [if_neg c45] at H
                              exact absurd H (by simp)
                          · rw [if_neg c44] at H
                            exact absurd H (by simp)
              · rw [if_neg c13] at H
                exact absurd H (by simp)
            · rw [if_neg c12] at H
              have c12b0 : decide (x5_1 < (t112.length : Int)) = false := decide_eq_false c12
              clear c12
              have H' := Aside0.mk H
              clear H
              obtain ⟨Ao92, co92, eo92⟩ := Kd.R_slice HO_3.out
              subst eo92
              go_wp2
              go_loopg [11] k1 (fun kq v11 w' => ∃ (x11_2 : Int), v11 = .int .i64 x11_2 ∧ Aside0 (rubricatorlaw20_DelimNests.l2 kq l0 x4_1 x11_2 = some r) ∧ Aside0 (kq ≤ k1) ∧ Aside0 (Kd.R (Kd.int .i64) 3 w' w.heap.size (fun _ => True) v116 x4_1) ∧ Aside0 (Below w.heap.size w w'))
              case atStart => exact ⟨(0), (by first | rfl | (simp; done) | (simp [*]; done)), H', ⟨Nat.le_refl _⟩, ⟨by (with_reducible repeat (first | apply Kd.R_alloc | apply Kd.R_drewN | apply Kd.R_drew)); exact HO_4.out⟩, ⟨by repeat (first | (with_reducible first | exact HB.out | apply below_alloc | apply pw_below_drewN | apply below_drew1) | exact HB.out)⟩⟩
              case round =>
                clear H'
                try clear c1
                try clear p1
                try clear q1
                try clear hx1
                try clear c2
                try clear p2
                try clear c3
                try clear c4
                try clear p4
                try clear q4
                try clear hx4
                try clear hf4
                try clear c5
                try clear c6
                try clear p6
                try clear c7
                try clear c8
                try clear c9
                try clear c12
                try clear c12b0
                try clear p12
                try clear q12
                try clear hx12
                try clear c13
                try clear c27
                try clear c28
                try clear c29
                try clear c30
                try clear c31
                try clear c31b0
                try clear c31b1
                try clear c40
                try clear c43
                try clear c43b0
                try clear c44
                try clear c44b0
                try clear c45
                try clear c45b0
                try clear p46
                try clear q46
                try clear hx46
                try clear hf46
                try clear c47
                try clear c47b0
                try clear c48
                try clear c48b0
                try clear p49
                try clear q49
                try clear hx49
                try clear hf49
                try clear c56
                try clear c56b0
                try clear c57
                try clear c57b0
                try clear c58
                try clear c58b0
                try clear c61
                try clear c63
                try clear c63b0
                try clear c64
                try clear c64b0
                try clear p64
                try clear c65
                try clear c68
                try clear c68b0
                try clear c69
                try clear c72
                try clear c75
                try clear c75b0
                try clear c76
                try clear c79
                try clear c83
                try clear c84
                try clear c84b0
                try clear c85
                try clear c88
                try clear c91
                try clear hcz42_0
                try clear hcz42_1
                try clear hcz42_2
                try clear hcz62_0
                try clear hcz62_1
                try clear hcz62_2
                try clear hcz66_0
                try clear hcz66_1
                try clear hcz66_2
                try clear hcz67_0
                try clear hcz67_1
                try clear hcz67_2
                try clear hcz70_0
                try clear hcz70_1
                try clear hcz70_2
                try clear hcz71_0
                try clear hcz71_1
                try clear hcz71_2
                try clear hcz73_0
                try clear hcz73_1
                try clear hcz73_2
                try clear hcz74_0
                try clear hcz74_1
                try clear hcz74_2
                try clear hcz77_0
                try clear hcz77_1
                try clear hcz77_2
                try clear hcz78_0
                try clear hcz78_1
                try clear hcz78_2
                try clear hcz80_0
                try clear hcz80_1
                try clear hcz80_2
                try clear hcz81_0
                try clear hcz81_1
                try clear hcz81_2
                try clear hcz86_0
                try clear hcz86_1
                try clear hcz86_2
                try clear hcz87_0
                try clear hcz87_1
                try clear hcz87_2
                try clear hcz89_0
                try clear hcz89_1
                try clear hcz89_2
                try clear hcz90_0
                try clear hcz90_1
                try clear hcz90_2
                try clear hfz42_0
                try clear hfz42_1
                try clear hfz42_2
                try clear hfz62_0
                try clear hfz62_1
                try clear hfz62_2
                try clear hfz66_0
                try clear hfz66_1
                try clear hfz66_2
                try clear hfz67_0
                try clear hfz67_1
                try clear hfz67_2
                try clear hfz70_0
                try clear hfz70_1
                try clear hfz70_2
                try clear hfz71_0
                try clear hfz71_1
                try clear hfz71_2
                try clear hfz73_0
                try clear hfz73_1
                try clear hfz73_2
                try clear hfz74_0
                try clear hfz74_1
                try clear hfz74_2
                try clear hfz77_0
                try clear hfz77_1
                try clear hfz77_2
                try clear hfz78_0
                try clear hfz78_1
                try clear hfz78_2
                try clear hfz80_0
                try clear hfz80_1
                try clear hfz80_2
                try clear hfz81_0
                try clear hfz81_1
                try clear hfz81_2
                try clear hfz86_0
                try clear hfz86_1
                try clear hfz86_2
                try clear hfz87_0
                try clear hfz87_1
                try clear hfz87_2
                try clear hfz89_0
                try clear hfz89_1
                try clear hfz89_2
                try clear hfz90_0
                try clear hfz90_1
                try clear hfz90_2
                try clear hx120_0
                try clear hx120_1
                try clear hx120_2
                try clear hx120_3
                try clear hx121_0
                try clear hx121_1
                try clear hx121_2
                try clear hx121_3
                try clear hx124_0
                try clear hx126_0
                try clear hx128_0
                try clear hx128_1
                try clear hx128_2
                try clear hx46_0
                try clear hx49_0
                try clear p1
                try clear p12
                try clear p120
                try clear p121
                try clear p124
                try clear p126
                try clear p128
                try clear p2
                try clear p4
                try clear p46
                try clear p49
                try clear p6
                try clear p64
                try clear q1
                try clear q12
                try clear q120
                try clear q121
                try clear q124
                try clear q126
                try clear q128
                try clear q4
                try clear q46
                try clear q49
                obtain ⟨x11_2, rfl, HA, HK2, HO_4, HB⟩ := hrel
                cases gk with
                | zero => exact absurd HA.out (by simp [rubricatorlaw20_DelimNests.l2])
                | succ k2 =>
                  have H := HA.out
                  clear HA
                  simp only [rubricatorlaw20_DelimNests.l2] at H
                  by_cases c93 : x11_2 < (l0.length : Int)
                  · rw [if_pos c93] at H
                    have c93b0 : decide (x11_2 < (l0.length : Int)) = true := decide_eq_true c93
                    clear c93
                    by_cases c94 : 0 ≤ x11_2
                    · rw [if_pos c94] at H
                      have c94b0 : decide (0 ≤ x11_2) = true := decide_eq_true c94
                      clear c94
                      by_cases c95 : x11_2 < (x4_1.length : Int)
                      · rw [if_pos c95] at H
                        have c95b0 : decide (x11_2 < (x4_1.length : Int)) = true := decide_eq_true c95
                        clear c95
                        obtain ⟨ji96, hji96⟩ : ∃ j_ : Int, (mx 0 ((rd_T27 l0 x11_2).f1)) = j_ := ⟨_, rfl⟩
                        replace H : (if (rd x4_1 x11_2) > (ji96) then (some false) else (rubricatorlaw20_DelimNests.l2 k2 l0 x4_1 (wrap64 (x11_2 + 1)))) = some r := by first | (rw [hji96] at H; exact H) | (simp only [hji96] at H ⊢; exact H)
                        have hji96_ : (if 0 < ((rd_T27 l0 x11_2).f1) then ((rd_T27 l0 x11_2).f1) else 0) = ji96 := hji96
                        by_cases c97 : (rd x4_1 x11_2) > (ji96)
                        · rw [if_pos c97] at H
                          have c97b0 : decide ((ji96) < (rd x4_1 x11_2)) = true := decide_eq_true c97
                          clear c97
                          obtain rfl := Option.some.inj H
                          try go_wp2
                          have n0_ := Aside0.mk (Kd.R_drew HO_4.out)
                          have n1_ := Aside0.mk (below_drew1 HB.out)
                          clear HO_4
                          clear HB
                          have HO_4 := n0_
                          have HB := n1_
                          clear n0_ n1_
                          obtain ⟨Ao99, co99, eo99⟩ := Kd.R_slice HO_4.out
                          (first | subst eo99 | (injection eo99 with f1_ f2_ f3_; have f4_ := f1_.symm; have f5_ := f3_.symm; clear f1_ f2_ f3_; subst f4_; subst f5_))
                          have p130 : 0 ≤ (x11_2 : Int) := of_decide_eq_true (by first | (with_reducible assumption) | assumption)
                          have q130 : x11_2 < (x4_1.length : Int) := of_decide_eq_true (by first | (with_reducible assumption) | assumption)
                          obtain ⟨ad130, e130, hx130_0⟩ := Kd.at_int (Kd.R_reads' HO_4.out).2.2 x11_2 p130 q130
                          cases e130
                          replace p130 := eq_true p130
                          replace q130 := eq_true q130
                          have p131 : 0 ≤ (x11_2 : Int) := of_decide_eq_true (by first | (with_reducible assumption) | assumption)
                          have q131 : x11_2 < (l0.length : Int) := of_decide_eq_true (by first | (with_reducible assumption) | assumption)
                          obtain ⟨ad131, e131, hx131_0, hx131_1, hx131_2, hx131_3⟩ := at_T27 HR0.out x11_2 p131 q131
                          have hw131_3 := hx131_3
                          have hw131_2 := hx131_2
                          have hw131_1 := hx131_1
                          have hw131_0 := hx131_0
                          cases e131
                          replace hx131_0 := (HB.out.cell (World.block_lt_of_cell? w _ hx131_0)).trans hx131_0
                          replace hx131_1 := (HB.out.cell (World.block_lt_of_cell? w _ hx131_1)).trans hx131_1
                          replace hx131_2 := (HB.out.cell (World.block_lt_of_cell? w _ hx131_2)).trans hx131_2
                          replace hx131_3 := (HB.out.cell (World.block_lt_of_cell? w _ hx131_3)).trans hx131_3
                          replace p131 := eq_true p131
                          replace q131 := eq_true q131
                          refine start_ (n := 11) (S := fun w' => w'.cell? (ad130.add (x11_2).toNat) = some (.int .i64 (rd x4_1 x11_2)) ∧ w'.cell? (ad131.add ((x11_2).toNat * 4)) = some (.int .u8 ((rd_T27 l0 x11_2).f0)) ∧ w'.cell? ⟨(ad131.add ((x11_2).toNat * 4)).block, (ad131.add ((x11_2).toNat * 4)).off + 1, none⟩ = some (.int .i64 ((rd_T27 l0 x11_2).f1)) ∧ w'.cell? ⟨(ad131.add ((x11_2).toNat * 4)).block, (ad131.add ((x11_2).toNat * 4)).off + 2, none⟩ = some (.bool ((rd_T27 l0 x11_2).f2)) ∧ w'.cell? ⟨(ad131.add ((x11_2).toNat * 4)).block, (ad131.add ((x11_2).toNat * 4)).off + 3, none⟩ = some (.bool ((rd_T27 l0 x11_2).f3))) (ds := []) #[false, false, false, false, false, false, false, false, false, false, false] (by kernel_rfl) rfl rfl ⟨hx130_0, ((HB.out.cell (World.block_lt_of_cell? w _ hw131_0)).trans hw131_0), ((HB.out.cell (World.block_lt_of_cell? w _ hw131_1)).trans hw131_1), ((HB.out.cell (World.block_lt_of_cell? w _ hw131_2)).trans hw131_2), ((HB.out.cell (World.block_lt_of_cell? w _ hw131_3)).trans hw131_3)⟩ (fun hHeld => ?_); refine with_tabW rubricatorlaw20_DelimNests.tab26 rubricatorlaw20_DelimNests.bits26 (fun HT_ HW_ => ?_)
                          generalize wr.drew = w98 at HO_4 HB hx130_0 hx131_0 hx131_1 hx131_2 hx131_3 hHeld ⊢
                          refine pure_ (i := 0) (N := some 161) (v := ?_) (a' := ?_) #[true, false, false, false, false, false, false, false, false, false, false] rfl rfl (any_of HT_.out (by kernel_rfl)) (fun _ _ _ h => h) (Or.inl ⟨by rfl, ?_⟩) ?_ ?_
                          rotate_left
                          · intro w'
                            go_simp
                            with_reducible rfl
                          rotate_left
                          · simp only [Act.put, List.setIfInBounds_toArray, List.set_cons_zero, List.set_cons_succ, i64_w, i32_w]
                            rfl
                          refine pure_ (i := 1) (N := some 162) (v := ?_) (a' := ?_) #[true, true, false, false, false, false, false, false, false, false, false] rfl rfl (any_of HT_.out (by kernel_rfl)) (fun _ _ _ h => h) (Or.inl ⟨by rfl, ?_⟩) ?_ ?_
                          rotate_left
                          · intro w'
                            go_simp
                            with_reducible rfl
                          rotate_left
                          · simp only [Act.put, List.setIfInBounds_toArray, List.set_cons_zero, List.set_cons_succ, i64_w, i32_w]
                            rfl
                          refine pure_ (i := 2) (N := some 163) (v := ?_) (a' := ?_) #[true, true, true, false, false, false, false, false, false, false, false] rfl rfl (any_of HT_.out (by kernel_rfl)) (fun _ _ _ h => h) (Or.inl ⟨by rfl, ?_⟩) ?_ ?_
                          rotate_left
                          · intro w'
                            go_simp
                            with_reducible rfl
                          rotate_left
                          · simp only [Act.put, List.setIfInBounds_toArray, List.set_cons_zero, List.set_cons_succ, i64_w, i32_w]
                            rfl
                          refine pure_ (i := 4) (N := some 165) (v := ?_) (a' := ?_) #[true, true, true, false, true, false, false, false, false, false, false] rfl rfl (any_of HT_.out (by kernel_rfl)) (fun _ _ _ h => h) (Or.inl ⟨by rfl, ?_⟩) ?_ ?_
                          rotate_left
                          · intro w'
                            go_simp
                            with_reducible rfl
                          rotate_left
                          · simp only [Act.put, List.setIfInBounds_toArray, List.set_cons_zero, List.set_cons_succ, i64_w, i32_w]
                            rfl
                          refine pure_ (i := 5) (N := some 166) (v := ?_) (a' := ?_) #[true, true, true, false, true, true, false, false, false, false, false] rfl rfl (any_of HT_.out (by kernel_rfl)) (fun _ _ _ h => h) (Or.inl ⟨by rfl, ?_⟩) ?_ ?_
                          rotate_left
                          · intro w'
                            go_simp
                            with_reducible rfl
                          rotate_left
                          · simp only [Act.put, List.setIfInBounds_toArray, List.set_cons_zero, List.set_cons_succ, i64_w, i32_w]
                            rfl
                          refine pure_ (i := 6) (N := some 167) (v := ?_) (a' := ?_) #[true, true, true, false, true, true, true, false, false, false, false] rfl rfl (any_of HT_.out (by kernel_rfl)) (fun _ _ _ h => h) (Or.inl ⟨by rfl, ?_⟩) ?_ ?_
                          rotate_left
                          · intro w'
                            go_simp
                            with_reducible rfl
                          rotate_left
                          · simp only [Act.put, List.setIfInBounds_toArray, List.set_cons_zero, List.set_cons_succ, i64_w, i32_w]
                            rfl
                          refine pure_ (i := 7) (N := some 168) (v := ?_) (a' := ?_) #[true, true, true, false, true, true, true, true, false, false, false] rfl rfl (any_of HT_.out (by kernel_rfl)) (fun _ _ _ h => h) (Or.inl ⟨by rfl, ?_⟩) ?_ ?_
                          rotate_left
                          · intro w'
                            go_simp
                            with_reducible rfl
                          rotate_left
                          · simp only [Act.put, List.setIfInBounds_toArray, List.set_cons_zero, List.set_cons_succ, i64_w, i32_w]
                            rfl
                          refine take_ (i := 3) (N := some 164) (v := ?_) (a' := ?_) #[true, true, true, true, true, true, true, true, false, false, false] rfl rfl (take_ofW HT_.out HW_.out (by kernel_rfl)) (fun _ _ _ h => h) (Or.inl ⟨by rfl, ?_⟩) hHeld ?_ ?_
                          rotate_left
                          · rintro w' ⟨s0, s1, s2, s3, s4⟩
                            go_simp
                            with_reducible rfl
                          rotate_left
                          · simp only [Act.put, List.setIfInBounds_toArray, List.set_cons_zero, List.set_cons_succ, i64_w, i32_w]
                            rfl
                          refine take_ (i := 8) (N := some 169) (v := ?_) (a' := ?_) #[true, true, true, true, true, true, true, true, true, false, false] rfl rfl (take_ofW HT_.out HW_.out (by kernel_rfl)) (fun _ _ _ h => h) (Or.inl ⟨by rfl, ?_⟩) hHeld ?_ ?_
                          rotate_left
                          · rintro w' ⟨s0, s1, s2, s3, s4⟩
                            go_simp
                            with_reducible rfl
                          rotate_left
                          · simp only [Act.put, List.setIfInBounds_toArray, List.set_cons_zero, List.set_cons_succ, i64_w, i32_w]
                            rfl
                          refine pure_ (i := 9) (N := some 170) (v := ?_) (a' := ?_) #[true, true, true, true, true, true, true, true, true, true, false] rfl rfl (any_of HT_.out (by kernel_rfl)) (fun _ _ _ h => h) (Or.inl ⟨by rfl, ?_⟩) ?_ ?_
                          rotate_left
                          · intro w'
                            go_simp
                            with_reducible rfl
                          rotate_left
                          · simp only [Act.put, List.setIfInBounds_toArray, List.set_cons_zero, List.set_cons_succ, i64_w, i32_w]
                            rfl
                          refine pure_ (i := 10) (N := some 171) (v := ?_) (a' := ?_) #[true, true, true, true, true, true, true, true, true, true, true] rfl rfl (any_of HT_.out (by kernel_rfl)) (fun _ _ _ h => h) (Or.inl ⟨by rfl, ?_⟩) ?_ ?_
                          rotate_left
                          · intro w'
                            go_simp
                            with_reducible rfl
                          rotate_left
                          · simp only [Act.put, List.setIfInBounds_toArray, List.set_cons_zero, List.set_cons_succ, i64_w, i32_w]
                            rfl
                          refine done_ (done_of HT_.out (by kernel_rfl)) ?_
                          try go_wp2
                          go_ret
                          exact ⟨by first | rfl | (simp [errW_none, errW_some] <;> rfl) | (simp only [← hji96]; first | rfl | (simp [errW_none, errW_some] <;> rfl)) | (simp [*, errW_none, errW_some] <;> rfl), by repeat (first | (with_reducible first | exact HB.out | apply below_alloc | apply pw_below_drewN | apply below_drew1) | exact HB.out)⟩
                        · rw [if_neg c97] at H
                          have c97b0 : decide ((ji96) < (rd x4_1 x11_2)) = false := decide_eq_false c97
                          clear c97
                          have H' := Aside0.mk H
                          clear H
                          try go_wp2
                          have n0_ := Aside0.mk (Kd.R_drew HO_4.out)
                          have n1_ := Aside0.mk (below_drew1 HB.out)
                          clear HO_4
                          clear HB
                          have HO_4 := n0_
                          have HB := n1_
                          clear n0_ n1_
                          obtain ⟨Ao101, co101, eo101⟩ := Kd.R_slice HO_4.out
                          (first | subst eo101 | (injection eo101 with f1_ f2_ f3_; have f4_ := f1_.symm; have f5_ := f3_.symm; clear f1_ f2_ f3_; subst f4_; subst f5_))
                          have p130 : 0 ≤ (x11_2 : Int) := of_decide_eq_true (by first | (with_reducible assumption) | assumption)
                          have q130 : x11_2 < (x4_1.length : Int) := of_decide_eq_true (by first | (with_reducible assumption) | assumption)
                          obtain ⟨ad130, e130, hx130_0⟩ := Kd.at_int (Kd.R_reads' HO_4.out).2.2 x11_2 p130 q130
                          cases e130
                          replace p130 := eq_true p130
                          replace q130 := eq_true q130
                          have p131 : 0 ≤ (x11_2 : Int) := of_decide_eq_true (by first | (with_reducible assumption) | assumption)
                          have q131 : x11_2 < (l0.length : Int) := of_decide_eq_true (by first | (with_reducible assumption) | assumption)
                          obtain ⟨ad131, e131, hx131_0, hx131_1, hx131_2, hx131_3⟩ := at_T27 HR0.out x11_2 p131 q131
                          have hw131_3 := hx131_3
                          have hw131_2 := hx131_2
                          have hw131_1 := hx131_1
                          have hw131_0 := hx131_0
                          cases e131
                          replace hx131_0 := (HB.out.cell (World.block_lt_of_cell? w _ hx131_0)).trans hx131_0
                          replace hx131_1 := (HB.out.cell (World.block_lt_of_cell? w _ hx131_1)).trans hx131_1
                          replace hx131_2 := (HB.out.cell (World.block_lt_of_cell? w _ hx131_2)).trans hx131_2
                          replace hx131_3 := (HB.out.cell (World.block_lt_of_cell? w _ hx131_3)).trans hx131_3
                          replace p131 := eq_true p131
                          replace q131 := eq_true q131
                          refine start_ (n := 11) (S := fun w' => w'.cell? (ad130.add (x11_2).toNat) = some (.int .i64 (rd x4_1 x11_2)) ∧ w'.cell? (ad131.add ((x11_2).toNat * 4)) = some (.int .u8 ((rd_T27 l0 x11_2).f0)) ∧ w'.cell? ⟨(ad131.add ((x11_2).toNat * 4)).block, (ad131.add ((x11_2).toNat * 4)).off + 1, none⟩ = some (.int .i64 ((rd_T27 l0 x11_2).f1)) ∧ w'.cell? ⟨(ad131.add ((x11_2).toNat * 4)).block, (ad131.add ((x11_2).toNat * 4)).off + 2, none⟩ = some (.bool ((rd_T27 l0 x11_2).f2)) ∧ w'.cell? ⟨(ad131.add ((x11_2).toNat * 4)).block, (ad131.add ((x11_2).toNat * 4)).off + 3, none⟩ = some (.bool ((rd_T27 l0 x11_2).f3))) (ds := []) #[false, false, false, false, false, false, false, false, false, false, false] (by kernel_rfl) rfl rfl ⟨hx130_0, ((HB.out.cell (World.block_lt_of_cell? w _ hw131_0)).trans hw131_0), ((HB.out.cell (World.block_lt_of_cell? w _ hw131_1)).trans hw131_1), ((HB.out.cell (World.block_lt_of_cell? w _ hw131_2)).trans hw131_2), ((HB.out.cell (World.block_lt_of_cell? w _ hw131_3)).trans hw131_3)⟩ (fun hHeld => ?_); refine with_tabW rubricatorlaw20_DelimNests.tab26 rubricatorlaw20_DelimNests.bits26 (fun HT_ HW_ => ?_)
                          generalize wr.drew = w100 at HO_4 HB hx130_0 hx131_0 hx131_1 hx131_2 hx131_3 hHeld ⊢
                          refine pure_ (i := 0) (N := some 161) (v := ?_) (a' := ?_) #[true, false, false, false, false, false, false, false, false, false, false] rfl rfl (any_of HT_.out (by kernel_rfl)) (fun _ _ _ h => h) (Or.inl ⟨by rfl, ?_⟩) ?_ ?_
                          rotate_left
                          · intro w'
                            go_simp
                            with_reducible rfl
                          rotate_left
                          · simp only [Act.put, List.setIfInBounds_toArray, List.set_cons_zero, List.set_cons_succ, i64_w, i32_w]
                            rfl
                          refine pure_ (i := 1) (N := some 162) (v := ?_) (a' := ?_) #[true, true, false, false, false, false, false, false, false, false, false] rfl rfl (any_of HT_.out (by kernel_rfl)) (fun _ _ _ h => h) (Or.inl ⟨by rfl, ?_⟩) ?_ ?_
                          rotate_left
                          · intro w'
                            go_simp
                            with_reducible rfl
                          rotate_left
                          · simp only [Act.put, List.setIfInBounds_toArray, List.set_cons_zero, List.set_cons_succ, i64_w, i32_w]
                            rfl
                          refine pure_ (i := 2) (N := some 163) (v := ?_) (a' := ?_) #[true, true, true, false, false, false, false, false, false, false, false] rfl rfl (any_of HT_.out (by kernel_rfl)) (fun _ _ _ h => h) (Or.inl ⟨by rfl, ?_⟩) ?_ ?_
                          rotate_left
                          · intro w'
                            go_simp
                            with_reducible rfl
                          rotate_left
                          · simp only [Act.put, List.setIfInBounds_toArray, List.set_cons_zero, List.set_cons_succ, i64_w, i32_w]
                            rfl
                          refine pure_ (i := 4) (N := some 165) (v := ?_) (a' := ?_) #[true, true, true, false, true, false, false, false, false, false, false] rfl rfl (any_of HT_.out (by kernel_rfl)) (fun _ _ _ h => h) (Or.inl ⟨by rfl, ?_⟩) ?_ ?_
                          rotate_left
                          · intro w'
                            go_simp
                            with_reducible rfl
                          rotate_left
                          · simp only [Act.put, List.setIfInBounds_toArray, List.set_cons_zero, List.set_cons_succ, i64_w, i32_w]
                            rfl
                          refine pure_ (i := 5) (N := some 166) (v := ?_) (a' := ?_) #[true, true, true, false, true, true, false, false, false, false, false] rfl rfl (any_of HT_.out (by kernel_rfl)) (fun _ _ _ h => h) (Or.inl ⟨by rfl, ?_⟩) ?_ ?_
                          rotate_left
                          · intro w'
                            go_simp
                            with_reducible rfl
                          rotate_left
                          · simp only [Act.put, List.setIfInBounds_toArray, List.set_cons_zero, List.set_cons_succ, i64_w, i32_w]
                            rfl
                          refine pure_ (i := 6) (N := some 167) (v := ?_) (a' := ?_) #[true, true, true, false, true, true, true, false, false, false, false] rfl rfl (any_of HT_.out (by kernel_rfl)) (fun _ _ _ h => h) (Or.inl ⟨by rfl, ?_⟩) ?_ ?_
                          rotate_left
                          · intro w'
                            go_simp
                            with_reducible rfl
                          rotate_left
                          · simp only [Act.put, List.setIfInBounds_toArray, List.set_cons_zero, List.set_cons_succ, i64_w, i32_w]
                            rfl
                          refine pure_ (i := 7) (N := some 168) (v := ?_) (a' := ?_) #[true, true, true, false, true, true, true, true, false, false, false] rfl rfl (any_of HT_.out (by kernel_rfl)) (fun _ _ _ h => h) (Or.inl ⟨by rfl, ?_⟩) ?_ ?_
                          rotate_left
                          · intro w'
                            go_simp
                            with_reducible rfl
                          rotate_left
                          · simp only [Act.put, List.setIfInBounds_toArray, List.set_cons_zero, List.set_cons_succ, i64_w, i32_w]
                            rfl
                          refine take_ (i := 3) (N := some 164) (v := ?_) (a' := ?_) #[true, true, true, true, true, true, true, true, false, false, false] rfl rfl (take_ofW HT_.out HW_.out (by kernel_rfl)) (fun _ _ _ h => h) (Or.inl ⟨by rfl, ?_⟩) hHeld ?_ ?_
                          rotate_left
                          · rintro w' ⟨s0, s1, s2, s3, s4⟩
                            go_simp
                            with_reducible rfl
                          rotate_left
                          · simp only [Act.put, List.setIfInBounds_toArray, List.set_cons_zero, List.set_cons_succ, i64_w, i32_w]
                            rfl
                          refine take_ (i := 8) (N := some 169) (v := ?_) (a' := ?_) #[true, true, true, true, true, true, true, true, true, false, false] rfl rfl (take_ofW HT_.out HW_.out (by kernel_rfl)) (fun _ _ _ h => h) (Or.inl ⟨by rfl, ?_⟩) hHeld ?_ ?_
                          rotate_left
                          · rintro w' ⟨s0, s1, s2, s3, s4⟩
                            go_simp
                            with_reducible rfl
                          rotate_left
                          · simp only [Act.put, List.setIfInBounds_toArray, List.set_cons_zero, List.set_cons_succ, i64_w, i32_w]
                            rfl
                          refine pure_ (i := 9) (N := some 170) (v := ?_) (a' := ?_) #[true, true, true, true, true, true, true, true, true, true, false] rfl rfl (any_of HT_.out (by kernel_rfl)) (fun _ _ _ h => h) (Or.inl ⟨by rfl, ?_⟩) ?_ ?_
                          rotate_left
                          · intro w'
                            go_simp
                            with_reducible rfl
                          rotate_left
                          · simp only [Act.put, List.setIfInBounds_toArray, List.set_cons_zero, List.set_cons_succ, i64_w, i32_w]
                            rfl
                          refine pure_ (i := 10) (N := some 171) (v := ?_) (a' := ?_) #[true, true, true, true, true, true, true, true, true, true, true] rfl rfl (any_of HT_.out (by kernel_rfl)) (fun _ _ _ h => h) (Or.inl ⟨by rfl, ?_⟩) ?_ ?_
                          rotate_left
                          · intro w'
                            go_simp
                            with_reducible rfl
                          rotate_left
                          · simp only [Act.put, List.setIfInBounds_toArray, List.set_cons_zero, List.set_cons_succ, i64_w, i32_w]
                            rfl
                          refine done_ (done_of HT_.out (by kernel_rfl)) ?_
                          try go_wp2
                          go_roundg k2
                          case measure => have := HK1.out; have := HK2.out; omega
                          case rel => exact ⟨(wrap64 (x11_2 + 1)), (by first | rfl | (simp; done) | (simp [*]; done)), H', ⟨by have := HK1.out; have := HK2.out; omega⟩, ⟨by (with_reducible repeat (first | apply Kd.R_alloc | apply Kd.R_drewN | apply Kd.R_drew)); exact HO_4.out⟩, ⟨by repeat (first | (with_reducible first | exact HB.out | apply below_alloc | apply pw_below_drewN | apply below_drew1) | exact HB.out)⟩⟩
                      · rw [if_neg c95] at H
                        exact absurd H (by simp)
                    · rw [if_neg c94] at H
                      exact absurd H (by simp)
                  · rw [if_neg c93] at H
                    have c93b0 : decide (x11_2 < (l0.length : Int)) = false := decide_eq_false c93
                    clear c93
                    replace H := Option.bind_eq_some_iff.mp H
                    obtain ⟨t132, A1020, H⟩ := H
                    replace H : (some t132) = some r := H
                    have A102 := Aside0.mk A1020
                    clear A1020
                    obtain rfl := Option.some.inj H
                    go_wp2_with (first | ((with_reducible refine gate_callee (f := 12) rfl ?_); refine goesL_ (some 172) rfl rfl Try.func12 (by kernel_rfl) rfl #[] rfl (by (try simp only [List.map_toArray, List.map_cons, List.map_nil]); first | done | rfl | (simp only [List.length_drop, List.length_take]; rfl)) ?_; (with_reducible refine (rubricatorlaw20_known.calls k2  t132 _ A102.out).mono ?_); rintro e w103 ⟨rfl, hb⟩; refine ⟨_, rfl, ?_⟩; have n0_ := Aside0.mk (Kd.R_below (by (with_reducible repeat (first | apply Kd.R_alloc | apply Kd.R_drewN | apply Kd.R_drew)); exact HO_4.out) hb); have n1_ := Aside0.mk (below_step (by repeat (first | (with_reducible first | exact HB.out | apply below_alloc | apply pw_below_drewN | apply below_drew1) | exact HB.out)) hb); clear HO_4; clear HB; have HO_4 := n0_; have HB := n1_; clear n0_ n1_; (try clear hb); (try clear hb2); (try clear hk); (try clear hi)))
                    go_ret
                    exact ⟨by first | rfl | (simp [errW_none, errW_some] <;> rfl) | (simp [*, errW_none, errW_some] <;> rfl), by repeat (first | (with_reducible first | exact HB.out | apply below_alloc | apply pw_below_drewN | apply below_drew1) | exact HB.out)⟩
      · rw [if_neg c7] at H
        exact absurd H (by simp)
    · rw [if_neg c6] at H
      exact absurd H (by simp)

/-- THE ONE PURE STATEMENT of rubricatorlaw20_DelimNests: yours. -/
def rubricatorlaw20_DelimNests.W27 (x : S27) : Prop := ((Lit.int .u8 x.f0).wf = true) ∧ (((Lit.int .i64 x.f1).wf = true) ∧ ((True) ∧ (True)))
theorem rubricatorlaw20_DelimNests.opens27 {H : Type} {enc : TypeId × Value → H} {W : World} : Go.Proofs.YtojmhdooglihaaaOpen.Opens Try.prog H enc W k27 27 rubricatorlaw20_DelimNests.W27 := by
  have h := Go.Proofs.YtojmhdooglihaaaOpen.opens_struct (H := H) (enc := enc) (W := W) Try.underlying27 (by kernel_rfl) (Go.Proofs.YtojmhdooglihaaaOpen.fields_cons (wf := (fun x => (Lit.int .u8 x).wf = true)) rfl (by kernel_rfl) (Go.Proofs.YtojmhdooglihaaaOpen.opens_int Try.underlying5) (Go.Proofs.YtojmhdooglihaaaOpen.fields_cons (wf := (fun x => (Lit.int .i64 x).wf = true)) rfl (by kernel_rfl) (Go.Proofs.YtojmhdooglihaaaOpen.opens_int Try.underlying3) (Go.Proofs.YtojmhdooglihaaaOpen.fields_cons (wf := (fun x => True)) rfl (by kernel_rfl) (Go.Proofs.YtojmhdooglihaaaOpen.opens_bool Try.underlying4) (Go.Proofs.YtojmhdooglihaaaOpen.fields_last (wf := (fun x => True)) rfl (by kernel_rfl) (Go.Proofs.YtojmhdooglihaaaOpen.opens_bool Try.underlying4)))))
  exact Go.Proofs.YtojmhdooglihaaaOpen.opens_iso (fun x : S27 => (x.f0, x.f1, x.f2, x.f3)) (fun a => ⟨⟨a.1, a.2.1, a.2.2.1, a.2.2.2⟩, rfl⟩) h
def rubricatorlaw20_DelimNests.Pure : Prop := ∀ (l0 : List (S27)), (l0.length ≤ maxLen ∧ l0.length * 24 ≤ 140737488351232 ∧ ∀ y0_ ∈ l0, rubricatorlaw20_DelimNests.W27 y0_) → ∃ k, rubricatorlaw20_DelimNests.f k l0 = some true
theorem rubricatorlaw20_DelimNests.walk (P : rubricatorlaw20_DelimNests.Pure) (a0 : Option Addr) (c0 : Nat) (l0 : List (S27)) (w : World) (hr0 : Kd.C k27 w a0 l0.length l0) (hc0 : l0.length ≤ c0) (hw0 : l0.length ≤ maxLen ∧ l0.length * 24 ≤ 140737488351232 ∧ ∀ y0_ ∈ l0, rubricatorlaw20_DelimNests.W27 y0_) :
    Calls Try.prog 4 #[.slice a0 l0.length c0] w fun e w' => e = .returned (.bool true) ∧ Below w.heap.size w w' := by
  obtain ⟨k, h⟩ := P l0 hw0
  refine (rubricatorlaw20_DelimNests.calls k _ _ l0 true w hr0 hc0 h).mono ?_
  rintro e w' ⟨rfl, hd⟩
  exact ⟨rfl, hd⟩

end Go.Proofs.Ytojmhdooglihaaa.PA
