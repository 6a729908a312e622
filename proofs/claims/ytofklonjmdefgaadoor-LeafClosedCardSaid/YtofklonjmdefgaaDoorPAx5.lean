-- Printed by a program of this workplace (a turned printer): functions, and proofs that the calls come to them.
import Derived.Test.YtofklonjmdefgaaDoorPAx0
import Derived.Test.YtofklonjmdefgaaDoorPAx3
namespace Go.Proofs.YtofklonjmdefgaaDoor.PA
open Go.RowKit Go.Proofs.YtofklonjmdefgaaDoorW.PrintWords Go.Proofs.YtofklonjmdefgaaDoorW.PrintLast Go.Proofs.YtofklonjmdefgaaDoorW.PrintMore
attribute [local go_sem] max2_int min2_int max_two min_two max_three min_three max_four min_four   -- for this text's walks alone
set_option linter.unusedVariables false
set_option linter.unusedSimpArgs false

/-! ### rubricatorlaw18_LeafClosed: function 5 -/
mutual
def rubricatorlaw18_LeafClosed.j0 : Nat → Int → ByteArray → Int → Bool → Bool → Option (Bool)
  | 0, _, _, _, _, _ => none
  | k + 1, x0, x1, x2, x3, x40 => if x40 = true then ((rubricatorlaw18_known.f k).bind fun t142 => (some t142)) else (rubricatorlaw18_LeafClosed.l0 k x0 x1 x2 x3 0)
def rubricatorlaw18_LeafClosed.l0 : Nat → Int → ByteArray → Int → Bool → Int → Option (Bool)
  | 0, _, _, _, _, _ => none
  | k + 1, x0, x1, x2, x3, x9 => if x9 < (x1.size : Int) then (if 0 ≤ x9 then (if (bt x1 x9) < 97 then ((rubricatorlaw18_known.f k).bind fun t143 => (some t143)) else (if (bt x1 x9) > 122 then ((rubricatorlaw18_known.f k).bind fun t144 => (some t144)) else (rubricatorlaw18_LeafClosed.l0 k x0 x1 x2 x3 (wrap64 (x9 + 1))))) else (none)) else (rubricatorlaw18_LeafClosed.l1 k x0 x1 x2 x3 (⟨#[]⟩ : ByteArray) 0)
def rubricatorlaw18_LeafClosed.l1 : Nat → Int → ByteArray → Int → Bool → ByteArray → Int → Option (Bool)
  | 0, _, _, _, _, _, _ => none
  | k + 1, x0, x1, x2, x3, x10, x11 => if x11 < x0 then (if x10.size + 1 ≤ 9223372036854775807 then (rubricatorlaw18_LeafClosed.l1 k x0 x1 x2 x3 (x10 ++ (⟨#[35]⟩ : ByteArray)) (wrap64 (x11 + 1))) else (none)) else (rubricatorlaw18_LeafClosed.l2 k x0 x1 x2 x3 x10 (⟨#[]⟩ : ByteArray) 0)
def rubricatorlaw18_LeafClosed.l2 : Nat → Int → ByteArray → Int → Bool → ByteArray → ByteArray → Int → Option (Bool)
  | 0, _, _, _, _, _, _, _ => none
  | k + 1, x0, x1, x2, x3, x10, x12, x13 => if x13 < x2 then (if x12.size + 1 ≤ 9223372036854775807 then (rubricatorlaw18_LeafClosed.l2 k x0 x1 x2 x3 x10 (x12 ++ (⟨#[35]⟩ : ByteArray)) (wrap64 (x13 + 1))) else (none)) else (if x1.size + x12.size ≤ 9223372036854775807 then (if x3 = true then (rubricatorlaw18_LeafClosed.j4 k x0 x1 x10 x12 (⟨#[]⟩ : ByteArray) (x1 ++ x12) true) else (rubricatorlaw18_LeafClosed.j4 k x0 x1 x10 x12 (⟨#[]⟩ : ByteArray) (x1 ++ x12) (x2 == 0))) else (none))
def rubricatorlaw18_LeafClosed.j4 : Nat → Int → ByteArray → ByteArray → ByteArray → ByteArray → ByteArray → Bool → Option (Bool)
  | 0, _, _, _, _, _, _, _ => none
  | k + 1, x0, x1, x10, x12, x14, x15, x80 => if x80 = true then (rubricatorlaw18_LeafClosed.j5 k x0 x1 x10 x12 (⟨#[32]⟩ : ByteArray) x1) else (rubricatorlaw18_LeafClosed.j5 k x0 x1 x10 x12 x14 x15)
def rubricatorlaw18_LeafClosed.j5 : Nat → Int → ByteArray → ByteArray → ByteArray → ByteArray → ByteArray → Option (Bool)
  | 0, _, _, _, _, _, _ => none
  | k + 1, x0, x1, x10, x12, x14, x15 => if x10.size + 1 ≤ 9223372036854775807 then (if (x10 ++ (⟨#[32]⟩ : ByteArray)).size + x1.size ≤ 9223372036854775807 then (if ((x10 ++ (⟨#[32]⟩ : ByteArray)) ++ x1).size + x14.size ≤ 9223372036854775807 then (if (((x10 ++ (⟨#[32]⟩ : ByteArray)) ++ x1) ++ x14).size + x12.size ≤ 9223372036854775807 then (if ((((x10 ++ (⟨#[32]⟩ : ByteArray)) ++ x1) ++ x14) ++ x12).size + 2 ≤ 9223372036854775807 then ((leaf_Heading.f k (((((x10 ++ (⟨#[32]⟩ : ByteArray)) ++ x1) ++ x14) ++ x12) ++ (⟨#[32, 32]⟩ : ByteArray))).bind fun bt145 => (if x0 < 1 then (rubricatorlaw18_LeafClosed.j6 k x0 x15 bt145.1 bt145.2 true) else (rubricatorlaw18_LeafClosed.j6 k x0 x15 bt145.1 bt145.2 (decide (x0 > 6))))) else (none)) else (none)) else (none)) else (none)) else (none)
def rubricatorlaw18_LeafClosed.j6 : Nat → Int → ByteArray → Int → ByteArray → Bool → Option (Bool)
  | 0, _, _, _, _, _ => none
  | k + 1, x0, x15, x16, x17, x100 => if x100 = true then (if x16 = 0 then (if x17.toList = ([] : List UInt8) then ((rubricatorlaw18_known.f k).bind fun t147 => (some t147)) else (some false)) else (some false)) else (if x16 = x0 then (if x17.toList = x15.toList then ((rubricatorlaw18_known.f k).bind fun t148 => (some t148)) else (some false)) else (some false))
end
def rubricatorlaw18_LeafClosed.f (k : Nat) (a0 : Int) (a1 : ByteArray) (a2 : Int) (a3 : Bool) : Option (Bool) := if a0 < 0 then (rubricatorlaw18_LeafClosed.j0 k a0 a1 a2 a3 true) else (if a0 > 9 then (rubricatorlaw18_LeafClosed.j0 k a0 a1 a2 a3 true) else (if a2 < 0 then (rubricatorlaw18_LeafClosed.j0 k a0 a1 a2 a3 true) else (if a2 > 20 then (rubricatorlaw18_LeafClosed.j0 k a0 a1 a2 a3 true) else (if (a1.size : Int) > 100 then (rubricatorlaw18_LeafClosed.j0 k a0 a1 a2 a3 true) else (rubricatorlaw18_LeafClosed.j0 k a0 a1 a2 a3 (a1.toList == ([] : List UInt8)))))))
theorem rubricatorlaw18_LeafClosed.mono_l : ∀ k, (∀ y0 y1 y2 y3 y4, LeO (rubricatorlaw18_LeafClosed.j0 k y0 y1 y2 y3 y4) (rubricatorlaw18_LeafClosed.j0 (k + 1) y0 y1 y2 y3 y4)) ∧ (∀ y0 y1 y2 y3 y4, LeO (rubricatorlaw18_LeafClosed.l0 k y0 y1 y2 y3 y4) (rubricatorlaw18_LeafClosed.l0 (k + 1) y0 y1 y2 y3 y4)) ∧ (∀ y0 y1 y2 y3 y4 y5, LeO (rubricatorlaw18_LeafClosed.l1 k y0 y1 y2 y3 y4 y5) (rubricatorlaw18_LeafClosed.l1 (k + 1) y0 y1 y2 y3 y4 y5)) ∧ (∀ y0 y1 y2 y3 y4 y5 y6, LeO (rubricatorlaw18_LeafClosed.l2 k y0 y1 y2 y3 y4 y5 y6) (rubricatorlaw18_LeafClosed.l2 (k + 1) y0 y1 y2 y3 y4 y5 y6)) ∧ (∀ y0 y1 y2 y3 y4 y5 y6, LeO (rubricatorlaw18_LeafClosed.j4 k y0 y1 y2 y3 y4 y5 y6) (rubricatorlaw18_LeafClosed.j4 (k + 1) y0 y1 y2 y3 y4 y5 y6)) ∧ (∀ y0 y1 y2 y3 y4 y5, LeO (rubricatorlaw18_LeafClosed.j5 k y0 y1 y2 y3 y4 y5) (rubricatorlaw18_LeafClosed.j5 (k + 1) y0 y1 y2 y3 y4 y5)) ∧ (∀ y0 y1 y2 y3 y4, LeO (rubricatorlaw18_LeafClosed.j6 k y0 y1 y2 y3 y4) (rubricatorlaw18_LeafClosed.j6 (k + 1) y0 y1 y2 y3 y4))
  | 0 => ⟨fun _ _ _ _ _ r h => by simp [rubricatorlaw18_LeafClosed.j0] at h, fun _ _ _ _ _ r h => by simp [rubricatorlaw18_LeafClosed.l0] at h, fun _ _ _ _ _ _ r h => by simp [rubricatorlaw18_LeafClosed.l1] at h, fun _ _ _ _ _ _ _ r h => by simp [rubricatorlaw18_LeafClosed.l2] at h, fun _ _ _ _ _ _ _ r h => by simp [rubricatorlaw18_LeafClosed.j4] at h, fun _ _ _ _ _ _ r h => by simp [rubricatorlaw18_LeafClosed.j5] at h, fun _ _ _ _ _ r h => by simp [rubricatorlaw18_LeafClosed.j6] at h⟩
  | k + 1 => by
    obtain ⟨ih0, ih1, ih2, ih3, ih4, ih5, ih6⟩ := rubricatorlaw18_LeafClosed.mono_l k
    refine ⟨?_, ?_, ?_, ?_, ?_, ?_, ?_⟩
    · intro y0 y1 y2 y3 y4
      unfold rubricatorlaw18_LeafClosed.j0
      repeat' first
      | (with_reducible exact ih0 _ _ _ _ _)
      | (with_reducible exact ih1 _ _ _ _ _)
      | (with_reducible exact ih2 _ _ _ _ _ _)
      | (with_reducible exact ih3 _ _ _ _ _ _ _)
      | (with_reducible exact ih4 _ _ _ _ _ _ _)
      | (with_reducible exact ih5 _ _ _ _ _ _)
      | (with_reducible exact ih6 _ _ _ _ _)
      | (with_reducible exact leaf_Heading.mono _ _)
      | (with_reducible exact rubricatorlaw18_known.mono _)
      | (with_reducible exact LeO.refl _)
      | (with_reducible exact LeO.none _)
      | (with_reducible refine LeO.ite ?_ ?_)
      | (with_reducible refine LeO.bind ?_ (fun _ => ?_))
      | exact ih0 _ _ _ _ _
      | exact ih1 _ _ _ _ _
      | exact ih2 _ _ _ _ _ _
      | exact ih3 _ _ _ _ _ _ _
      | exact ih4 _ _ _ _ _ _ _
      | exact ih5 _ _ _ _ _ _
      | exact ih6 _ _ _ _ _
      | exact leaf_Heading.mono _ _
      | exact rubricatorlaw18_known.mono _
      | exact LeO.none _
      | refine LeO.ite ?_ ?_
      | refine LeO.bind ?_ (fun _ => ?_)
    · intro y0 y1 y2 y3 y4
      unfold rubricatorlaw18_LeafClosed.l0
      repeat' first
      | (with_reducible exact ih0 _ _ _ _ _)
      | (with_reducible exact ih1 _ _ _ _ _)
      | (with_reducible exact ih2 _ _ _ _ _ _)
      | (with_reducible exact ih3 _ _ _ _ _ _ _)
      | (with_reducible exact ih4 _ _ _ _ _ _ _)
      | (with_reducible exact ih5 _ _ _ _ _ _)
      | (with_reducible exact ih6 _ _ _ _ _)
      | (with_reducible exact leaf_Heading.mono _ _)
      | (with_reducible exact rubricatorlaw18_known.mono _)
      | (with_reducible exact LeO.refl _)
      | (with_reducible exact LeO.none _)
      | (with_reducible refine LeO.ite ?_ ?_)
      | (with_reducible refine LeO.bind ?_ (fun _ => ?_))
      | exact ih0 _ _ _ _ _
      | exact ih1 _ _ _ _ _
      | exact ih2 _ _ _ _ _ _
      | exact ih3 _ _ _ _ _ _ _
      | exact ih4 _ _ _ _ _ _ _
      | exact ih5 _ _ _ _ _ _
      | exact ih6 _ _ _ _ _
      | exact leaf_Heading.mono _ _
      | exact rubricatorlaw18_known.mono _
      | exact LeO.none _
      | refine LeO.ite ?_ ?_
      | refine LeO.bind ?_ (fun _ => ?_)
    · intro y0 y1 y2 y3 y4 y5
      unfold rubricatorlaw18_LeafClosed.l1
      repeat' first
      | (with_reducible exact ih0 _ _ _ _ _)
      | (with_reducible exact ih1 _ _ _ _ _)
      | (with_reducible exact ih2 _ _ _ _ _ _)
      | (with_reducible exact ih3 _ _ _ _ _ _ _)
      | (with_reducible exact ih4 _ _ _ _ _ _ _)
      | (with_reducible exact ih5 _ _ _ _ _ _)
      | (with_reducible exact ih6 _ _ _ _ _)
      | (with_reducible exact leaf_Heading.mono _ _)
      | (with_reducible exact rubricatorlaw18_known.mono _)
      | (with_reducible exact LeO.refl _)
      | (with_reducible exact LeO.none _)
      | (with_reducible refine LeO.ite ?_ ?_)
      | (with_reducible refine LeO.bind ?_ (fun _ => ?_))
      | exact ih0 _ _ _ _ _
      | exact ih1 _ _ _ _ _
      | exact ih2 _ _ _ _ _ _
      | exact ih3 _ _ _ _ _ _ _
      | exact ih4 _ _ _ _ _ _ _
      | exact ih5 _ _ _ _ _ _
      | exact ih6 _ _ _ _ _
      | exact leaf_Heading.mono _ _
      | exact rubricatorlaw18_known.mono _
      | exact LeO.none _
      | refine LeO.ite ?_ ?_
      | refine LeO.bind ?_ (fun _ => ?_)
    · intro y0 y1 y2 y3 y4 y5 y6
      unfold rubricatorlaw18_LeafClosed.l2
      repeat' first
      | (with_reducible exact ih0 _ _ _ _ _)
      | (with_reducible exact ih1 _ _ _ _ _)
      | (with_reducible exact ih2 _ _ _ _ _ _)
      | (with_reducible exact ih3 _ _ _ _ _ _ _)
      | (with_reducible exact ih4 _ _ _ _ _ _ _)
      | (with_reducible exact ih5 _ _ _ _ _ _)
      | (with_reducible exact ih6 _ _ _ _ _)
      | (with_reducible exact leaf_Heading.mono _ _)
      | (with_reducible exact rubricatorlaw18_known.mono _)
      | (with_reducible exact LeO.refl _)
      | (with_reducible exact LeO.none _)
      | (with_reducible refine LeO.ite ?_ ?_)
      | (with_reducible refine LeO.bind ?_ (fun _ => ?_))
      | exact ih0 _ _ _ _ _
      | exact ih1 _ _ _ _ _
      | exact ih2 _ _ _ _ _ _
      | exact ih3 _ _ _ _ _ _ _
      | exact ih4 _ _ _ _ _ _ _
      | exact ih5 _ _ _ _ _ _
      | exact ih6 _ _ _ _ _
      | exact leaf_Heading.mono _ _
      | exact rubricatorlaw18_known.mono _
      | exact LeO.none _
      | refine LeO.ite ?_ ?_
      | refine LeO.bind ?_ (fun _ => ?_)
    · intro y0 y1 y2 y3 y4 y5 y6
      unfold rubricatorlaw18_LeafClosed.j4
      repeat' first
      | (with_reducible exact ih0 _ _ _ _ _)
      | (with_reducible exact ih1 _ _ _ _ _)
      | (with_reducible exact ih2 _ _ _ _ _ _)
      | (with_reducible exact ih3 _ _ _ _ _ _ _)
      | (with_reducible exact ih4 _ _ _ _ _ _ _)
      | (with_reducible exact ih5 _ _ _ _ _ _)
      | (with_reducible exact ih6 _ _ _ _ _)
      | (with_reducible exact leaf_Heading.mono _ _)
      | (with_reducible exact rubricatorlaw18_known.mono _)
      | (with_reducible exact LeO.refl _)
      | (with_reducible exact LeO.none _)
      | (with_reducible refine LeO.ite ?_ ?_)
      | (with_reducible refine LeO.bind ?_ (fun _ => ?_))
      | exact ih0 _ _ _ _ _
      | exact ih1 _ _ _ _ _
      | exact ih2 _ _ _ _ _ _
      | exact ih3 _ _ _ _ _ _ _
      | exact ih4 _ _ _ _ _ _ _
      | exact ih5 _ _ _ _ _ _
      | exact ih6 _ _ _ _ _
      | exact leaf_Heading.mono _ _
      | exact rubricatorlaw18_known.mono _
      | exact LeO.none _
      | refine LeO.ite ?_ ?_
      | refine LeO.bind ?_ (fun _ => ?_)
    · intro y0 y1 y2 y3 y4 y5
      unfold rubricatorlaw18_LeafClosed.j5
      repeat' first
      | (with_reducible exact ih0 _ _ _ _ _)
      | (with_reducible exact ih1 _ _ _ _ _)
      | (with_reducible exact ih2 _ _ _ _ _ _)
      | (with_reducible exact ih3 _ _ _ _ _ _ _)
      | (with_reducible exact ih4 _ _ _ _ _ _ _)
      | (with_reducible exact ih5 _ _ _ _ _ _)
      | (with_reducible exact ih6 _ _ _ _ _)
      | (with_reducible exact leaf_Heading.mono _ _)
      | (with_reducible exact rubricatorlaw18_known.mono _)
      | (with_reducible exact LeO.refl _)
      | (with_reducible exact LeO.none _)
      | (with_reducible refine LeO.ite ?_ ?_)
      | (with_reducible refine LeO.bind ?_ (fun _ => ?_))
      | exact ih0 _ _ _ _ _
      | exact ih1 _ _ _ _ _
      | exact ih2 _ _ _ _ _ _
      | exact ih3 _ _ _ _ _ _ _
      | exact ih4 _ _ _ _ _ _ _
      | exact ih5 _ _ _ _ _ _
      | exact ih6 _ _ _ _ _
      | exact leaf_Heading.mono _ _
      | exact rubricatorlaw18_known.mono _
      | exact LeO.none _
      | refine LeO.ite ?_ ?_
      | refine LeO.bind ?_ (fun _ => ?_)
    · intro y0 y1 y2 y3 y4
      unfold rubricatorlaw18_LeafClosed.j6
      repeat' first
      | (with_reducible exact ih0 _ _ _ _ _)
      | (with_reducible exact ih1 _ _ _ _ _)
      | (with_reducible exact ih2 _ _ _ _ _ _)
      | (with_reducible exact ih3 _ _ _ _ _ _ _)
      | (with_reducible exact ih4 _ _ _ _ _ _ _)
      | (with_reducible exact ih5 _ _ _ _ _ _)
      | (with_reducible exact ih6 _ _ _ _ _)
      | (with_reducible exact leaf_Heading.mono _ _)
      | (with_reducible exact rubricatorlaw18_known.mono _)
      | (with_reducible exact LeO.refl _)
      | (with_reducible exact LeO.none _)
      | (with_reducible refine LeO.ite ?_ ?_)
      | (with_reducible refine LeO.bind ?_ (fun _ => ?_))
      | exact ih0 _ _ _ _ _
      | exact ih1 _ _ _ _ _
      | exact ih2 _ _ _ _ _ _
      | exact ih3 _ _ _ _ _ _ _
      | exact ih4 _ _ _ _ _ _ _
      | exact ih5 _ _ _ _ _ _
      | exact ih6 _ _ _ _ _
      | exact leaf_Heading.mono _ _
      | exact rubricatorlaw18_known.mono _
      | exact LeO.none _
      | refine LeO.ite ?_ ?_
      | refine LeO.bind ?_ (fun _ => ?_)
theorem rubricatorlaw18_LeafClosed.mono : ∀ a0 a1 a2 a3 k, LeO (rubricatorlaw18_LeafClosed.f k a0 a1 a2 a3) (rubricatorlaw18_LeafClosed.f (k + 1) a0 a1 a2 a3) := by
  intro a0 a1 a2 a3 k
  obtain ⟨ih0, ih1, ih2, ih3, ih4, ih5, ih6⟩ := rubricatorlaw18_LeafClosed.mono_l k
  unfold rubricatorlaw18_LeafClosed.f
  repeat' first
      | (with_reducible exact ih0 _ _ _ _ _)
      | (with_reducible exact ih1 _ _ _ _ _)
      | (with_reducible exact ih2 _ _ _ _ _ _)
      | (with_reducible exact ih3 _ _ _ _ _ _ _)
      | (with_reducible exact ih4 _ _ _ _ _ _ _)
      | (with_reducible exact ih5 _ _ _ _ _ _)
      | (with_reducible exact ih6 _ _ _ _ _)
      | (with_reducible exact leaf_Heading.mono _ _)
      | (with_reducible exact rubricatorlaw18_known.mono _)
      | (with_reducible exact LeO.refl _)
      | (with_reducible exact LeO.none _)
      | (with_reducible refine LeO.ite ?_ ?_)
      | (with_reducible refine LeO.bind ?_ (fun _ => ?_))
      | exact ih0 _ _ _ _ _
      | exact ih1 _ _ _ _ _
      | exact ih2 _ _ _ _ _ _
      | exact ih3 _ _ _ _ _ _ _
      | exact ih4 _ _ _ _ _ _ _
      | exact ih5 _ _ _ _ _ _
      | exact ih6 _ _ _ _ _
      | exact leaf_Heading.mono _ _
      | exact rubricatorlaw18_known.mono _
      | exact LeO.none _
      | refine LeO.ite ?_ ?_
      | refine LeO.bind ?_ (fun _ => ?_)
set_option maxHeartbeats 8000000 in
set_option maxRecDepth 100000 in
theorem rubricatorlaw18_LeafClosed.calls (k : Nat) (a0 : Int) (a1 : ByteArray) (a2 : Int) (a3 : Bool) (r : Bool) (w : World) (h : rubricatorlaw18_LeafClosed.f k a0 a1 a2 a3 = some r) :
    Calls Tryd.prog 5 #[.int .i64 a0, .string a1, .int .i64 a2, .bool a3] w fun e w' => e = .returned (.bool r) ∧ Below w.heap.size w w' := by
  have HB := Aside0.mk (Below.refl w.heap.size w)
  have H : (if a0 < 0 then (rubricatorlaw18_LeafClosed.j0 k a0 a1 a2 a3 true) else (if a0 > 9 then (rubricatorlaw18_LeafClosed.j0 k a0 a1 a2 a3 true) else (if a2 < 0 then (rubricatorlaw18_LeafClosed.j0 k a0 a1 a2 a3 true) else (if a2 > 20 then (rubricatorlaw18_LeafClosed.j0 k a0 a1 a2 a3 true) else (if (a1.size : Int) > 100 then (rubricatorlaw18_LeafClosed.j0 k a0 a1 a2 a3 true) else (rubricatorlaw18_LeafClosed.j0 k a0 a1 a2 a3 (a1.toList == ([] : List UInt8)))))))) = some r := h
  clear h
  have HC5 := Aside0.mk H
  clear H
  go_enter Tryd.func5, Tryd.ntmps5
  go_upto_region 1 with (fail)
  go_cut [40] (fun v40 wc => ∃ (kq : Nat) (x40_4 : Bool), v40 = .bool x40_4 ∧ Aside0 (rubricatorlaw18_LeafClosed.j0 kq a0 a1 a2 a3 x40_4 = some r) ∧ Aside0 (kq ≤ k) ∧ Aside0 (Below w.heap.size w wc))
  case first =>
    have H := HC5.out
    clear HC5
    by_cases c6 : a0 < 0
    · rw [if_pos c6] at H
      have c6b0 : decide (a0 < 0) = true := decide_eq_true c6
      clear c6
      (first | rw [c6b0] | (simp only [i64_w, i32_w]; rw [c6b0]) | skip)
      have H' := Aside0.mk H
      clear H
      go_wp2
      go_meet
      case rel => exact ⟨_, (true), (by first | rfl | (simp; done) | (simp [*]; done)), H', ⟨by first | omega | exact Nat.le_refl _⟩, ⟨by repeat (first | (with_reducible first | exact HB.out | apply below_alloc | apply pw_below_drewN | apply below_drew1) | exact HB.out)⟩⟩
    · rw [if_neg c6] at H
      have c6b0 : decide (a0 < 0) = false := decide_eq_false c6
      clear c6
      (first | rw [c6b0] | (simp only [i64_w, i32_w]; rw [c6b0]) | skip)
      by_cases c7 : a0 > 9
      · rw [if_pos c7] at H
        have c7b0 : decide (9 < a0) = true := decide_eq_true c7
        clear c7
        have H' := Aside0.mk H
        clear H
        go_wp2
        go_meet
        case rel => exact ⟨_, (true), (by first | rfl | (simp; done) | (simp [*]; done)), H', ⟨by first | omega | exact Nat.le_refl _⟩, ⟨by repeat (first | (with_reducible first | exact HB.out | apply below_alloc | apply pw_below_drewN | apply below_drew1) | exact HB.out)⟩⟩
      · rw [if_neg c7] at H
        have c7b0 : decide (9 < a0) = false := decide_eq_false c7
        clear c7
        by_cases c8 : a2 < 0
        · rw [if_pos c8] at H
          have c8b0 : decide (a2 < 0) = true := decide_eq_true c8
          clear c8
          have H' := Aside0.mk H
          clear H
          go_wp2
          go_meet
          case rel => exact ⟨_, (true), (by first | rfl | (simp; done) | (simp [*]; done)), H', ⟨by first | omega | exact Nat.le_refl _⟩, ⟨by repeat (first | (with_reducible first | exact HB.out | apply below_alloc | apply pw_below_drewN | apply below_drew1) | exact HB.out)⟩⟩
        · rw [if_neg c8] at H
          have c8b0 : decide (a2 < 0) = false := decide_eq_false c8
          clear c8
          by_cases c9 : a2 > 20
          · rw [if_pos c9] at H
            have c9b0 : decide (20 < a2) = true := decide_eq_true c9
            clear c9
            have H' := Aside0.mk H
            clear H
            go_wp2
            go_meet
            case rel => exact ⟨_, (true), (by first | rfl | (simp; done) | (simp [*]; done)), H', ⟨by first | omega | exact Nat.le_refl _⟩, ⟨by repeat (first | (with_reducible first | exact HB.out | apply below_alloc | apply pw_below_drewN | apply below_drew1) | exact HB.out)⟩⟩
          · rw [if_neg c9] at H
            have c9b0 : decide (20 < a2) = false := decide_eq_false c9
            clear c9
            by_cases c10 : (a1.size : Int) > 100
            · rw [if_pos c10] at H
              have c10b0 : decide (100 < (a1.size : Int)) = true := decide_eq_true c10
              have c10b1 : decide (100 < a1.size) = true := decide_eq_true (by omega)
              clear c10
              have H' := Aside0.mk H
              clear H
              go_wp2
              go_meet
              case rel => exact ⟨_, (true), (by first | rfl | (simp; done) | (simp [*]; done)), H', ⟨by first | omega | exact Nat.le_refl _⟩, ⟨by repeat (first | (with_reducible first | exact HB.out | apply below_alloc | apply pw_below_drewN | apply below_drew1) | exact HB.out)⟩⟩
            · rw [if_neg c10] at H
              have c10b0 : decide (100 < (a1.size : Int)) = false := decide_eq_false c10
              have c10b1 : decide (100 < a1.size) = false := decide_eq_false (by omega)
              clear c10
              have H' := Aside0.mk H
              clear H
              go_wp2
              go_meet
              case rel => exact ⟨_, ((a1.toList == ([] : List UInt8))), (by first | rfl | (simp; done) | (simp [*]; done)), H', ⟨by first | omega | exact Nat.le_refl _⟩, ⟨by repeat (first | (with_reducible first | exact HB.out | apply below_alloc | apply pw_below_drewN | apply below_drew1) | exact HB.out)⟩⟩
  case rest =>
    clear HC5
    try clear c1
    try clear p2
    try clear c5
    try clear c6
    try clear c6b0
    try clear c7
    try clear c7b0
    try clear c8
    try clear c8b0
    try clear c9
    try clear c9b0
    try clear c10
    try clear c10b0
    try clear c10b1
    obtain ⟨kq, x40_4, rfl, HA, HJ4, HB⟩ := hcut
    cases kq with
    | zero => exact absurd HA.out (by simp [rubricatorlaw18_LeafClosed.j0])
    | succ kj4 =>
      have H := HA.out
      clear HA
      simp only [rubricatorlaw18_LeafClosed.j0] at H
      by_cases c11 : x40_4 = true
      · subst c11
        have H1 : ((rubricatorlaw18_known.f kj4).bind fun t142 => (some t142)) = some r := by rw [if_pos rfl] at H; exact H
        clear H
        have H := H1
        clear H1
        replace H := Option.bind_eq_some_iff.mp H
        obtain ⟨t142, A120, H⟩ := H
        replace H : (some t142) = some r := H
        have A12 := Aside0.mk A120
        clear A120
        obtain rfl := Option.some.inj H
        go_wp2_with (first | ((with_reducible refine gate_callee (f := 8) rfl ?_); refine goesL_ (some 41) rfl rfl Tryd.func8 (by kernel_rfl) rfl #[] rfl (by (try simp only [List.map_toArray, List.map_cons, List.map_nil]); first | done | rfl | (simp only [List.length_drop, List.length_take]; rfl)) ?_; (with_reducible refine (rubricatorlaw18_known.calls kj4  t142 _ A12.out).mono ?_); rintro e w13 ⟨rfl, hb⟩; refine ⟨_, rfl, ?_⟩; have n0_ := Aside0.mk (below_step (by repeat (first | (with_reducible first | exact HB.out | apply below_alloc | apply pw_below_drewN | apply below_drew1) | exact HB.out)) hb); clear HB; have HB := n0_; clear n0_; (try clear hb); (try clear hb2); (try clear hk); (try clear hi)))
        go_ret
        exact ⟨by first | rfl | (simp [errW_none, errW_some] <;> rfl) | (simp [*, errW_none, errW_some] <;> rfl), by repeat (first | (with_reducible first | exact HB.out | apply below_alloc | apply pw_below_drewN | apply below_drew1) | exact HB.out)⟩
      · replace c11 := Bool.eq_false_iff.mpr c11
        subst c11
        have H1 : (rubricatorlaw18_LeafClosed.l0 kj4 a0 a1 a2 a3 0) = some r := by rw [if_neg (show ¬ (false = true) by decide)] at H; exact H
        clear H
        have H := H1
        clear H1
        have H' := Aside0.mk H
        clear H
        go_wp2
        go_loopg [9] kj4 (fun kq v9 w' => ∃ (x9_2 : Int), v9 = .int .i64 x9_2 ∧ Aside0 (rubricatorlaw18_LeafClosed.l0 kq a0 a1 a2 a3 x9_2 = some r) ∧ Aside0 (kq ≤ kj4) ∧ Aside0 (Below w.heap.size w w'))
        case atStart => exact ⟨(0), (by first | rfl | (simp; done) | (simp [*]; done)), H', ⟨Nat.le_refl _⟩, ⟨by repeat (first | (with_reducible first | exact HB.out | apply below_alloc | apply pw_below_drewN | apply below_drew1) | exact HB.out)⟩⟩
        case round =>
          clear H'
          try clear c1
          try clear p2
          try clear c5
          try clear c6
          try clear c6b0
          try clear c7
          try clear c7b0
          try clear c8
          try clear c8b0
          try clear c9
          try clear c9b0
          try clear c10
          try clear c10b0
          try clear c10b1
          try clear c11
          try clear p2
          obtain ⟨x9_2, rfl, HA, HK2, HB⟩ := hrel
          cases gk with
          | zero => exact absurd HA.out (by simp [rubricatorlaw18_LeafClosed.l0])
          | succ k2 =>
            have H := HA.out
            clear HA
            simp only [rubricatorlaw18_LeafClosed.l0] at H
            by_cases c14 : x9_2 < (a1.size : Int)
            · rw [if_pos c14] at H
              have c14b0 : decide (x9_2 < (a1.size : Int)) = true := decide_eq_true c14
              clear c14
              by_cases c15 : 0 ≤ x9_2
              · rw [if_pos c15] at H
                have c15b0 : decide (0 ≤ x9_2) = true := decide_eq_true c15
                clear c15
                by_cases c17 : (bt a1 x9_2) < 97
                · rw [if_pos c17] at H
                  have c17b0 : decide ((bt a1 x9_2) < 97) = true := decide_eq_true c17
                  clear c17
                  replace H := Option.bind_eq_some_iff.mp H
                  obtain ⟨t143, A180, H⟩ := H
                  replace H : (some t143) = some r := H
                  have A18 := Aside0.mk A180
                  clear A180
                  obtain rfl := Option.some.inj H
                  have p16 : 0 ≤ (x9_2 : Int) := of_decide_eq_true (by first | (with_reducible assumption) | assumption)
                  have q16 : x9_2 < (a1.size : Int) := of_decide_eq_true (by first | (with_reducible assumption) | assumption)
                  have hx16 := bt_at a1 x9_2
                  replace p16 := eq_true p16
                  replace q16 := eq_true q16
                  go_wp2_with (first | ((with_reducible refine gate_callee (f := 8) rfl ?_); refine goesL_ (some 58) rfl rfl Tryd.func8 (by kernel_rfl) rfl #[] rfl (by (try simp only [List.map_toArray, List.map_cons, List.map_nil]); first | done | rfl | (simp only [List.length_drop, List.length_take]; rfl)) ?_; (with_reducible refine (rubricatorlaw18_known.calls k2  t143 _ A18.out).mono ?_); rintro e w19 ⟨rfl, hb⟩; refine ⟨_, rfl, ?_⟩; have n0_ := Aside0.mk (below_step (by repeat (first | (with_reducible first | exact HB.out | apply below_alloc | apply pw_below_drewN | apply below_drew1) | exact HB.out)) hb); clear HB; have HB := n0_; clear n0_; (try clear hb); (try clear hb2); (try clear hk); (try clear hi)))
                  go_ret
                  exact ⟨by first | rfl | (simp [errW_none, errW_some] <;> rfl) | (simp [*, errW_none, errW_some] <;> rfl), by repeat (first | (with_reducible first | exact HB.out | apply below_alloc | apply pw_below_drewN | apply below_drew1) | exact HB.out)⟩
                · rw [if_neg c17] at H
                  have c17b0 : decide ((bt a1 x9_2) < 97) = false := decide_eq_false c17
                  clear c17
                  by_cases c21 : (bt a1 x9_2) > 122
                  · rw [if_pos c21] at H
                    have c21b0 : decide (122 < (bt a1 x9_2)) = true := decide_eq_true c21
                    clear c21
                    replace H := Option.bind_eq_some_iff.mp H
                    obtain ⟨t144, A220, H⟩ := H
                    replace H : (some t144) = some r := H
                    have A22 := Aside0.mk A220
                    clear A220
                    obtain rfl := Option.some.inj H
                    have p16 : 0 ≤ (x9_2 : Int) := of_decide_eq_true (by first | (with_reducible assumption) | assumption)
                    have q16 : x9_2 < (a1.size : Int) := of_decide_eq_true (by first | (with_reducible assumption) | assumption)
                    have hx16 := bt_at a1 x9_2
                    replace p16 := eq_true p16
                    replace q16 := eq_true q16
                    have p20 : 0 ≤ (x9_2 : Int) := of_decide_eq_true (by first | (with_reducible assumption) | assumption)
                    have q20 : x9_2 < (a1.size : Int) := of_decide_eq_true (by first | (with_reducible assumption) | assumption)
                    have hx20 := bt_at a1 x9_2
                    replace p20 := eq_true p20
                    replace q20 := eq_true q20
                    go_wp2_with (first | ((with_reducible refine gate_callee (f := 8) rfl ?_); refine goesL_ (some 58) rfl rfl Tryd.func8 (by kernel_rfl) rfl #[] rfl (by (try simp only [List.map_toArray, List.map_cons, List.map_nil]); first | done | rfl | (simp only [List.length_drop, List.length_take]; rfl)) ?_; (with_reducible refine (rubricatorlaw18_known.calls k2  t144 _ A22.out).mono ?_); rintro e w23 ⟨rfl, hb⟩; refine ⟨_, rfl, ?_⟩; have n0_ := Aside0.mk (below_step (by repeat (first | (with_reducible first | exact HB.out | apply below_alloc | apply pw_below_drewN | apply below_drew1) | exact HB.out)) hb); clear HB; have HB := n0_; clear n0_; (try clear hb); (try clear hb2); (try clear hk); (try clear hi)))
                    go_ret
                    exact ⟨by first | rfl | (simp [errW_none, errW_some] <;> rfl) | (simp [*, errW_none, errW_some] <;> rfl), by repeat (first | (with_reducible first | exact HB.out | apply below_alloc | apply pw_below_drewN | apply below_drew1) | exact HB.out)⟩
                  · rw [if_neg c21] at H
                    have c21b0 : decide (122 < (bt a1 x9_2)) = false := decide_eq_false c21
                    clear c21
                    have H' := Aside0.mk H
                    clear H
                    have p16 : 0 ≤ (x9_2 : Int) := of_decide_eq_true (by first | (with_reducible assumption) | assumption)
                    have q16 : x9_2 < (a1.size : Int) := of_decide_eq_true (by first | (with_reducible assumption) | assumption)
                    have hx16 := bt_at a1 x9_2
                    replace p16 := eq_true p16
                    replace q16 := eq_true q16
                    have p20 : 0 ≤ (x9_2 : Int) := of_decide_eq_true (by first | (with_reducible assumption) | assumption)
                    have q20 : x9_2 < (a1.size : Int) := of_decide_eq_true (by first | (with_reducible assumption) | assumption)
                    have hx20 := bt_at a1 x9_2
                    replace p20 := eq_true p20
                    replace q20 := eq_true q20
                    go_wp2
                    go_roundg k2
                    case measure => have := HJ4.out; have := HK2.out; omega
                    case rel => exact ⟨(wrap64 (x9_2 + 1)), (by first | rfl | (simp; done) | (simp [*]; done)), H', ⟨by have := HJ4.out; have := HK2.out; omega⟩, ⟨by repeat (first | (with_reducible first | exact HB.out | apply below_alloc | apply pw_below_drewN | apply below_drew1) | exact HB.out)⟩⟩
              · rw [if_neg c15] at H
                exact absurd H (by simp)
            · rw [if_neg c14] at H
              have c14b0 : decide (x9_2 < (a1.size : Int)) = false := decide_eq_false c14
              clear c14
              have H' := Aside0.mk H
              clear H
              go_wp2
              go_loopg [10, 11] k2 (fun kq v10 v11 w' => ∃ (x10_3 : ByteArray) (x11_3 : Int), v10 = .string x10_3 ∧ v11 = .int .i64 x11_3 ∧ Aside0 (rubricatorlaw18_LeafClosed.l1 kq a0 a1 a2 a3 x10_3 x11_3 = some r) ∧ Aside0 (kq ≤ k2) ∧ Aside0 (Below w.heap.size w w'))
              case atStart => exact ⟨((⟨#[]⟩ : ByteArray)), (0), (by first | rfl | (simp; done) | (simp [*]; done)), (by first | rfl | (simp; done) | (simp [*]; done)), H', ⟨Nat.le_refl _⟩, ⟨by repeat (first | (with_reducible first | exact HB.out | apply below_alloc | apply pw_below_drewN | apply below_drew1) | exact HB.out)⟩⟩
              case round =>
                clear H'
                try clear c1
                try clear p1
                try clear q1
                try clear hx1
                try clear c2
                try clear p2
                try clear q2
                try clear hx2
                try clear c5
                try clear c6
                try clear c6b0
                try clear p6
                try clear c7
                try clear c7b0
                try clear c8
                try clear c8b0
                try clear c9
                try clear c9b0
                try clear c10
                try clear c10b0
                try clear c10b1
                try clear c11
                try clear c14
                try clear c14b0
                try clear c15
                try clear c15b0
                try clear p16
                try clear q16
                try clear hx16
                try clear c17
                try clear c17b0
                try clear p20
                try clear q20
                try clear hx20
                try clear c21
                try clear c21b0
                try clear p16
                try clear p2
                try clear p20
                try clear q16
                try clear q20
                obtain ⟨x10_3, x11_3, rfl, rfl, HA, HK3, HB⟩ := hrel
                cases gk with
                | zero => exact absurd HA.out (by simp [rubricatorlaw18_LeafClosed.l1])
                | succ k3 =>
                  have H := HA.out
                  clear HA
                  simp only [rubricatorlaw18_LeafClosed.l1] at H
                  by_cases c24 : x11_3 < a0
                  · rw [if_pos c24] at H
                    have c24b0 : decide (x11_3 < a0) = true := decide_eq_true c24
                    clear c24
                    by_cases c25 : x10_3.size + 1 ≤ 9223372036854775807
                    · rw [if_pos c25] at H
                      have c25b0 := eq_true c25
                      have c25b1 : decide (x10_3.size + 1 ≤ 9223372036854775807) = true := decide_eq_true c25
                      try have c25b2 : (9223372036854775807 < x10_3.size + 1) = False := eq_false (Nat.not_lt.2 c25)
                      have H' := Aside0.mk H
                      clear H
                      go_wp2
                      go_roundg k3
                      case measure => have := HJ4.out; have := HK2.out; have := HK3.out; omega
                      case rel => exact ⟨(x10_3 ++ (⟨#[35]⟩ : ByteArray)), (wrap64 (x11_3 + 1)), (by first | rfl | (simp; done) | (simp [*]; done)), (by first | rfl | (simp; done) | (simp [*]; done)), H', ⟨by have := HJ4.out; have := HK2.out; have := HK3.out; omega⟩, ⟨by repeat (first | (with_reducible first | exact HB.out | apply below_alloc | apply pw_below_drewN | apply below_drew1) | exact HB.out)⟩⟩
                    · rw [if_neg c25] at H
                      exact absurd H (by simp)
                  · rw [if_neg c24] at H
                    have c24b0 : decide (x11_3 < a0) = false := decide_eq_false c24
                    clear c24
                    have H' := Aside0.mk H
                    clear H
                    go_wp2
                    go_loopg [12, 13] k3 (fun kq v12 v13 w' => ∃ (x12_4 : ByteArray) (x13_4 : Int), v12 = .string x12_4 ∧ v13 = .int .i64 x13_4 ∧ Aside0 (rubricatorlaw18_LeafClosed.l2 kq a0 a1 a2 a3 x10_3 x12_4 x13_4 = some r) ∧ Aside0 (kq ≤ k3) ∧ Aside0 (Below w.heap.size w w'))
                    case atStart => exact ⟨((⟨#[]⟩ : ByteArray)), (0), (by first | rfl | (simp; done) | (simp [*]; done)), (by first | rfl | (simp; done) | (simp [*]; done)), H', ⟨Nat.le_refl _⟩, ⟨by repeat (first | (with_reducible first | exact HB.out | apply below_alloc | apply pw_below_drewN | apply below_drew1) | exact HB.out)⟩⟩
                    case round =>
                      clear H'
                      try clear c1
                      try clear p1
                      try clear q1
                      try clear hx1
                      try clear c2
                      try clear p2
                      try clear q2
                      try clear hx2
                      try clear c5
                      try clear c6
                      try clear c6b0
                      try clear p6
                      try clear c7
                      try clear c7b0
                      try clear c8
                      try clear c8b0
                      try clear c9
                      try clear c9b0
                      try clear c10
                      try clear c10b0
                      try clear c10b1
                      try clear c11
                      try clear c14
                      try clear c14b0
                      try clear c15
                      try clear c15b0
                      try clear p16
                      try clear q16
                      try clear hx16
                      try clear c17
                      try clear c17b0
                      try clear p20
                      try clear q20
                      try clear hx20
                      try clear c21
                      try clear c21b0
                      try clear c24
                      try clear c24b0
                      try clear c25
                      try clear c25b0
                      try clear c25b1
                      try clear c25b2
                      try clear p1
                      try clear p16
                      try clear p2
                      try clear p20
                      try clear p6
                      try clear q1
                      try clear q16
                      try clear q2
                      try clear q20
                      obtain ⟨x12_4, x13_4, rfl, rfl, HA, HK4, HB⟩ := hrel
                      cases gk with
                      | zero => exact absurd HA.out (by simp [rubricatorlaw18_LeafClosed.l2])
                      | succ k4 =>
                        have H := HA.out
                        clear HA
                        simp only [rubricatorlaw18_LeafClosed.l2] at H
                        by_cases c26 : x13_4 < a2
                        · rw [if_pos c26] at H
                          have c26b0 : decide (x13_4 < a2) = true := decide_eq_true c26
                          clear c26
                          by_cases c27 : x12_4.size + 1 ≤ 9223372036854775807
                          · rw [if_pos c27] at H
                            have c27b0 := eq_true c27
                            have c27b1 : decide (x12_4.size + 1 ≤ 9223372036854775807) = true := decide_eq_true c27
                            try have c27b2 : (9223372036854775807 < x12_4.size + 1) = False := eq_false (Nat.not_lt.2 c27)
                            have H' := Aside0.mk H
                            clear H
                            go_wp2
                            go_roundg k4
                            case measure => have := HJ4.out; have := HK2.out; have := HK3.out; have := HK4.out; omega
                            case rel => exact ⟨(x12_4 ++ (⟨#[35]⟩ : ByteArray)), (wrap64 (x13_4 + 1)), (by first | rfl | (simp; done) | (simp [*]; done)), (by first | rfl | (simp; done) | (simp [*]; done)), H', ⟨by have := HJ4.out; have := HK2.out; have := HK3.out; have := HK4.out; omega⟩, ⟨by repeat (first | (with_reducible first | exact HB.out | apply below_alloc | apply pw_below_drewN | apply below_drew1) | exact HB.out)⟩⟩
                          · rw [if_neg c27] at H
                            exact absurd H (by simp)
                        · rw [if_neg c26] at H
                          have c26b0 : decide (x13_4 < a2) = false := decide_eq_false c26
                          clear c26
                          by_cases c28 : a1.size + x12_4.size ≤ 9223372036854775807
                          · rw [if_pos c28] at H
                            have c28b0 := eq_true c28
                            have c28b1 : decide (a1.size + x12_4.size ≤ 9223372036854775807) = true := decide_eq_true c28
                            try have c28b2 : (9223372036854775807 < a1.size + x12_4.size) = False := eq_false (Nat.not_lt.2 c28)
                            have HC29 := Aside0.mk H
                            clear H
                            go_upto_region 19 with (fail)
                            go_cut [80] (fun v80 wc => ∃ (kq : Nat) (x80_28 : Bool), v80 = .bool x80_28 ∧ Aside0 (rubricatorlaw18_LeafClosed.j4 kq a0 a1 x10_3 x12_4 (⟨#[]⟩ : ByteArray) (a1 ++ x12_4) x80_28 = some r) ∧ Aside0 (kq ≤ k4) ∧ Aside0 (Below w.heap.size w wc))
                            case first =>
                              have H := HC29.out
                              clear HC29
                              by_cases c30 : a3 = true
                              · subst c30
                                have H1 : (rubricatorlaw18_LeafClosed.j4 k4 a0 a1 x10_3 x12_4 (⟨#[]⟩ : ByteArray) (a1 ++ x12_4) true) = some r := by rw [if_pos rfl] at H; exact H
                                clear H
                                have H := H1
                                clear H1
                                have H' := Aside0.mk H
                                clear H
                                go_wp2
                                go_meet
                                case rel => exact ⟨_, (true), (by first | rfl | (simp; done) | (simp [*]; done)), H', ⟨by have := HJ4.out; have := HK2.out; have := HK3.out; have := HK4.out; first | omega | exact Nat.le_refl _⟩, ⟨by repeat (first | (with_reducible first | exact HB.out | apply below_alloc | apply pw_below_drewN | apply below_drew1) | exact HB.out)⟩⟩
                              · replace c30 := Bool.eq_false_iff.mpr c30
                                subst c30
                                have H1 : (rubricatorlaw18_LeafClosed.j4 k4 a0 a1 x10_3 x12_4 (⟨#[]⟩ : ByteArray) (a1 ++ x12_4) (a2 == 0)) = some r := by rw [if_neg (show ¬ (false = true) by decide)] at H; exact H
                                clear H
                                have H := H1
                                clear H1
                                have H' := Aside0.mk H
                                clear H
                                go_wp2
                                go_meet
                                case rel => exact ⟨_, ((a2 == 0)), (by first | rfl | (simp; done) | (simp [*]; done)), H', ⟨by have := HJ4.out; have := HK2.out; have := HK3.out; have := HK4.out; first | omega | exact Nat.le_refl _⟩, ⟨by repeat (first | (with_reducible first | exact HB.out | apply below_alloc | apply pw_below_drewN | apply below_drew1) | exact HB.out)⟩⟩
                            case rest =>
                              clear HC29
                              try clear c1
                              try clear p1
                              try clear q1
                              try clear hx1
                              try clear c2
                              try clear p2
                              try clear q2
                              try clear hx2
                              try clear c3
                              try clear c5
                              try clear c6
                              try clear c6b0
                              try clear p6
                              try clear c7
                              try clear c7b0
                              try clear c8
                              try clear c8b0
                              try clear c9
                              try clear c9b0
                              try clear c10
                              try clear c10b0
                              try clear c10b1
                              try clear c11
                              try clear c14
                              try clear c14b0
                              try clear c15
                              try clear c15b0
                              try clear p16
                              try clear q16
                              try clear hx16
                              try clear c17
                              try clear c17b0
                              try clear p20
                              try clear q20
                              try clear hx20
                              try clear c21
                              try clear c21b0
                              try clear c24
                              try clear c24b0
                              try clear c25
                              try clear c25b0
                              try clear c25b1
                              try clear c25b2
                              try clear c26
                              try clear c26b0
                              try clear c27
                              try clear c27b0
                              try clear c27b1
                              try clear c27b2
                              try clear c28
                              try clear c28b0
                              try clear c28b1
                              try clear c28b2
                              try clear c30
                              try clear p1
                              try clear p16
                              try clear p2
                              try clear p20
                              try clear p6
                              try clear q1
                              try clear q16
                              try clear q2
                              try clear q20
                              obtain ⟨kq, x80_28, rfl, HA, HJ28, HB⟩ := hcut
                              cases kq with
                              | zero => exact absurd HA.out (by simp [rubricatorlaw18_LeafClosed.j4])
                              | succ kj28 =>
                                have H := HA.out
                                clear HA
                                simp only [rubricatorlaw18_LeafClosed.j4] at H
                                have HC31 := Aside0.mk H
                                clear H
                                go_upto_if 80 with (fail)
                                go_cut [14, 15] (fun v14 v15 wc => ∃ (kq : Nat) (x14_30 : ByteArray) (x15_30 : ByteArray), v14 = .string x14_30 ∧ v15 = .string x15_30 ∧ Aside0 (rubricatorlaw18_LeafClosed.j5 kq a0 a1 x10_3 x12_4 x14_30 x15_30 = some r) ∧ Aside0 (kq ≤ kj28) ∧ Aside0 (Below w.heap.size w wc))
                                case first =>
                                  have H := HC31.out
                                  clear HC31
                                  by_cases c32 : x80_28 = true
                                  · subst c32
                                    have H1 : (rubricatorlaw18_LeafClosed.j5 kj28 a0 a1 x10_3 x12_4 (⟨#[32]⟩ : ByteArray) a1) = some r := by rw [if_pos rfl] at H; exact H
                                    clear H
                                    have H := H1
                                    clear H1
                                    have H' := Aside0.mk H
                                    clear H
                                    go_wp2
                                    go_meet
                                    case rel => exact ⟨_, ((⟨#[32]⟩ : ByteArray)), (a1), (by first | rfl | (simp; done) | (simp [*]; done)), (by first | rfl | (simp; done) | (simp [*]; done)), H', ⟨by have := HJ4.out; have := HK2.out; have := HK3.out; have := HK4.out; have := HJ28.out; first | omega | exact Nat.le_refl _⟩, ⟨by repeat (first | (with_reducible first | exact HB.out | apply below_alloc | apply pw_below_drewN | apply below_drew1) | exact HB.out)⟩⟩
                                  · replace c32 := Bool.eq_false_iff.mpr c32
                                    subst c32
                                    have H1 : (rubricatorlaw18_LeafClosed.j5 kj28 a0 a1 x10_3 x12_4 (⟨#[]⟩ : ByteArray) (a1 ++ x12_4)) = some r := by rw [if_neg (show ¬ (false = true) by decide)] at H; exact H
                                    clear H
                                    have H := H1
                                    clear H1
                                    have H' := Aside0.mk H
                                    clear H
                                    go_wp2
                                    go_meet
                                    case rel => exact ⟨_, ((⟨#[]⟩ : ByteArray)), ((a1 ++ x12_4)), (by first | rfl | (simp; done) | (simp [*]; done)), (by first | rfl | (simp; done) | (simp [*]; done)), H', ⟨by have := HJ4.out; have := HK2.out; have := HK3.out; have := HK4.out; have := HJ28.out; first | omega | exact Nat.le_refl _⟩, ⟨by repeat (first | (with_reducible first | exact HB.out | apply below_alloc | apply pw_below_drewN | apply below_drew1) | exact HB.out)⟩⟩
                                case rest =>
                                  clear HC31
                                  try clear c1
                                  try clear p1
                                  try clear q1
                                  try clear hx1
                                  try clear c2
                                  try clear p2
                                  try clear q2
                                  try clear hx2
                                  try clear c3
                                  try clear c5
                                  try clear c6
                                  try clear c6b0
                                  try clear p6
                                  try clear c7
                                  try clear c7b0
                                  try clear c8
                                  try clear c8b0
                                  try clear c9
                                  try clear c9b0
                                  try clear c10
                                  try clear c10b0
                                  try clear c10b1
                                  try clear c11
                                  try clear c14
                                  try clear c14b0
                                  try clear c15
                                  try clear c15b0
                                  try clear p16
                                  try clear q16
                                  try clear hx16
                                  try clear c17
                                  try clear c17b0
                                  try clear p20
                                  try clear q20
                                  try clear hx20
                                  try clear c21
                                  try clear c21b0
                                  try clear c24
                                  try clear c24b0
                                  try clear c25
                                  try clear c25b0
                                  try clear c25b1
                                  try clear c25b2
                                  try clear c26
                                  try clear c26b0
                                  try clear c27
                                  try clear c27b0
                                  try clear c27b1
                                  try clear c27b2
                                  try clear c28
                                  try clear c28b0
                                  try clear c28b1
                                  try clear c28b2
                                  try clear c30
                                  try clear c32
                                  try clear p1
                                  try clear p16
                                  try clear p2
                                  try clear p20
                                  try clear p6
                                  try clear q1
                                  try clear q16
                                  try clear q2
                                  try clear q20
                                  obtain ⟨kq, x14_30, x15_30, rfl, rfl, HA, HJ30, HB⟩ := hcut
                                  cases kq with
                                  | zero => exact absurd HA.out (by simp [rubricatorlaw18_LeafClosed.j5])
                                  | succ kj30 =>
                                    have H := HA.out
                                    clear HA
                                    simp only [rubricatorlaw18_LeafClosed.j5] at H
                                    by_cases c33 : x10_3.size + 1 ≤ 9223372036854775807
                                    · rw [if_pos c33] at H
                                      have c33b0 := eq_true c33
                                      have c33b1 : decide (x10_3.size + 1 ≤ 9223372036854775807) = true := decide_eq_true c33
                                      try have c33b2 : (9223372036854775807 < x10_3.size + 1) = False := eq_false (Nat.not_lt.2 c33)
                                      by_cases c34 : (x10_3 ++ (⟨#[32]⟩ : ByteArray)).size + a1.size ≤ 9223372036854775807
                                      · rw [if_pos c34] at H
                                        have c34b0 := eq_true c34
                                        have c34b1 : decide ((x10_3 ++ (⟨#[32]⟩ : ByteArray)).size + a1.size ≤ 9223372036854775807) = true := decide_eq_true c34
                                        try have c34b2 : (9223372036854775807 < (x10_3 ++ (⟨#[32]⟩ : ByteArray)).size + a1.size) = False := eq_false (Nat.not_lt.2 c34)
                                        have c34b3 := Nat.not_lt.2 c34
                                        try simp only [ByteArray.size_append, show (⟨#[32]⟩ : ByteArray).size = 1 from rfl] at c34b3
                                        replace c34b3 := eq_false c34b3
                                        by_cases c35 : ((x10_3 ++ (⟨#[32]⟩ : ByteArray)) ++ a1).size + x14_30.size ≤ 9223372036854775807
                                        · rw [if_pos c35] at H
                                          have c35b0 := eq_true c35
                                          have c35b1 : decide (((x10_3 ++ (⟨#[32]⟩ : ByteArray)) ++ a1).size + x14_30.size ≤ 9223372036854775807) = true := decide_eq_true c35
                                          try have c35b2 : (9223372036854775807 < ((x10_3 ++ (⟨#[32]⟩ : ByteArray)) ++ a1).size + x14_30.size) = False := eq_false (Nat.not_lt.2 c35)
                                          have c35b3 := Nat.not_lt.2 c35
                                          try simp only [ByteArray.size_append, show (⟨#[32]⟩ : ByteArray).size = 1 from rfl] at c35b3
                                          replace c35b3 := eq_false c35b3
                                          by_cases c36 : (((x10_3 ++ (⟨#[32]⟩ : ByteArray)) ++ a1) ++ x14_30).size + x12_4.size ≤ 9223372036854775807
                                          · rw [if_pos c36] at H
                                            have c36b0 := eq_true c36
                                            have c36b1 : decide ((((x10_3 ++ (⟨#[32]⟩ : ByteArray)) ++ a1) ++ x14_30).size + x12_4.size ≤ 9223372036854775807) = true := decide_eq_true c36
                                            try have c36b2 : (9223372036854775807 < (((x10_3 ++ (⟨#[32]⟩ : ByteArray)) ++ a1) ++ x14_30).size + x12_4.size) = False := eq_false (Nat.not_lt.2 c36)
                                            have c36b3 := Nat.not_lt.2 c36
                                            try simp only [ByteArray.size_append, show (⟨#[32]⟩ : ByteArray).size = 1 from rfl] at c36b3
                                            replace c36b3 := eq_false c36b3
                                            by_cases c37 : ((((x10_3 ++ (⟨#[32]⟩ : ByteArray)) ++ a1) ++ x14_30) ++ x12_4).size + 2 ≤ 9223372036854775807
                                            · rw [if_pos c37] at H
                                              have c37b0 := eq_true c37
                                              have c37b1 : decide (((((x10_3 ++ (⟨#[32]⟩ : ByteArray)) ++ a1) ++ x14_30) ++ x12_4).size + 2 ≤ 9223372036854775807) = true := decide_eq_true c37
                                              try have c37b2 : (9223372036854775807 < ((((x10_3 ++ (⟨#[32]⟩ : ByteArray)) ++ a1) ++ x14_30) ++ x12_4).size + 2) = False := eq_false (Nat.not_lt.2 c37)
                                              have c37b3 := Nat.not_lt.2 c37
                                              try simp only [ByteArray.size_append, show (⟨#[32]⟩ : ByteArray).size = 1 from rfl] at c37b3
                                              replace c37b3 := eq_false c37b3
                                              replace H := Option.bind_eq_some_iff.mp H
                                              obtain ⟨⟨t145, t146⟩, A380, H⟩ := H
                                              replace H : (if a0 < 1 then (rubricatorlaw18_LeafClosed.j6 kj30 a0 x15_30 t145 t146 true) else (rubricatorlaw18_LeafClosed.j6 kj30 a0 x15_30 t145 t146 (decide (a0 > 6)))) = some r := H
                                              have A38 := Aside0.mk A380
                                              clear A380
                                              have HC39 := Aside0.mk H
                                              clear H
                                              go_upto_region 22 with (first | ((with_reducible refine gate_callee (f := 9) rfl ?_); refine goesL_ (some 92) rfl rfl Tryd.func9 (by kernel_rfl) rfl #[.string (((((x10_3 ++ (⟨#[32]⟩ : ByteArray)) ++ a1) ++ x14_30) ++ x12_4) ++ (⟨#[32, 32]⟩ : ByteArray))] rfl (by (try simp only [List.map_toArray, List.map_cons, List.map_nil]); first | done | rfl | (simp only [List.length_drop, List.length_take]; rfl)) ?_; (with_reducible refine (leaf_Heading.calls kj30 (((((x10_3 ++ (⟨#[32]⟩ : ByteArray)) ++ a1) ++ x14_30) ++ x12_4) ++ (⟨#[32, 32]⟩ : ByteArray)) t145 t146 _ A38.out).mono ?_); rintro e w40 ⟨rfl, hb⟩; refine ⟨_, rfl, ?_⟩; have n0_ := Aside0.mk (below_step (by repeat (first | (with_reducible first | exact HB.out | apply below_alloc | apply pw_below_drewN | apply below_drew1) | exact HB.out)) hb); clear HB; have HB := n0_; clear n0_; (try clear hb); (try clear hb2); (try clear hk); (try clear hi)))
                                              (try simp only [Act.put, List.setIfInBounds_toArray, List.set_cons_zero, List.set_cons_succ])
                                              go_cut [100] (fun v100 wc => ∃ (kq : Nat) (x100_38 : Bool), v100 = .bool x100_38 ∧ Aside0 (rubricatorlaw18_LeafClosed.j6 kq a0 x15_30 t145 t146 x100_38 = some r) ∧ Aside0 (kq ≤ kj30) ∧ Aside0 (Below w.heap.size w wc))
                                              case first =>
                                                have H := HC39.out
                                                clear HC39
                                                by_cases c41 : a0 < 1
                                                · rw [if_pos c41] at H
                                                  have c41b0 : decide (a0 < 1) = true := decide_eq_true c41
                                                  clear c41
                                                  (first | rw [c41b0] | (simp only [i64_w, i32_w]; rw [c41b0]) | skip)
                                                  have H' := Aside0.mk H
                                                  clear H
                                                  go_wp2
                                                  go_meet
                                                  case rel => exact ⟨_, (true), (by first | rfl | (simp; done) | (simp [*]; done)), H', ⟨by have := HJ4.out; have := HK2.out; have := HK3.out; have := HK4.out; have := HJ28.out; have := HJ30.out; first | omega | exact Nat.le_refl _⟩, ⟨by repeat (first | (with_reducible first | exact HB.out | apply below_alloc | apply pw_below_drewN | apply below_drew1) | exact HB.out)⟩⟩
                                                · rw [if_neg c41] at H
                                                  have c41b0 : decide (a0 < 1) = false := decide_eq_false c41
                                                  clear c41
                                                  (first | rw [c41b0] | (simp only [i64_w, i32_w]; rw [c41b0]) | skip)
                                                  have H' := Aside0.mk H
                                                  clear H
                                                  go_wp2
                                                  go_meet
                                                  case rel => exact ⟨_, (decide (a0 > 6)), (by first | rfl | (simp; done) | (simp [*]; done)), H', ⟨by have := HJ4.out; have := HK2.out; have := HK3.out; have := HK4.out; have := HJ28.out; have := HJ30.out; first | omega | exact Nat.le_refl _⟩, ⟨by repeat (first | (with_reducible first | exact HB.out | apply below_alloc | apply pw_below_drewN | apply below_drew1) | exact HB.out)⟩⟩
                                              case rest =>
                                                clear HC39
                                                try clear c1
                                                try clear p1
                                                try clear q1
                                                try clear hx1
                                                try clear c2
                                                try clear p2
                                                try clear q2
                                                try clear hx2
                                                try clear c3
                                                try clear c4
                                                try clear c5
                                                try clear c6
                                                try clear c6b0
                                                try clear p6
                                                try clear c7
                                                try clear c7b0
                                                try clear c8
                                                try clear c8b0
                                                try clear c9
                                                try clear c9b0
                                                try clear c10
                                                try clear c10b0
                                                try clear c10b1
                                                try clear c11
                                                try clear c14
                                                try clear c14b0
                                                try clear c15
                                                try clear c15b0
                                                try clear p16
                                                try clear q16
                                                try clear hx16
                                                try clear c17
                                                try clear c17b0
                                                try clear p20
                                                try clear q20
                                                try clear hx20
                                                try clear c21
                                                try clear c21b0
                                                try clear c24
                                                try clear c24b0
                                                try clear c25
                                                try clear c25b0
                                                try clear c25b1
                                                try clear c25b2
                                                try clear c26
                                                try clear c26b0
                                                try clear c27
                                                try clear c27b0
                                                try clear c27b1
                                                try clear c27b2
                                                try clear c28
                                                try clear c28b0
                                                try clear c28b1
                                                try clear c28b2
                                                try clear c30
                                                try clear c32
                                                try clear c33
                                                try clear c33b0
                                                try clear c33b1
                                                try clear c33b2
                                                try clear c34
                                                try clear c34b0
                                                try clear c34b1
                                                try clear c34b2
                                                try clear c35
                                                try clear c35b0
                                                try clear c35b1
                                                try clear c35b2
                                                try clear c36
                                                try clear c36b0
                                                try clear c36b1
                                                try clear c36b2
                                                try clear c37
                                                try clear c37b0
                                                try clear c37b1
                                                try clear c37b2
                                                try clear c41
                                                try clear c41b0
                                                try clear p1
                                                try clear p16
                                                try clear p2
                                                try clear p20
                                                try clear p6
                                                try clear q1
                                                try clear q16
                                                try clear q2
                                                try clear q20
                                                obtain ⟨kq, x100_38, rfl, HA, HJ38, HB⟩ := hcut
                                                cases kq with
                                                | zero => exact absurd HA.out (by simp [rubricatorlaw18_LeafClosed.j6])
                                                | succ kj38 =>
                                                  have H := HA.out
                                                  clear HA
                                                  simp only [rubricatorlaw18_LeafClosed.j6] at H
                                                  by_cases c42 : x100_38 = true
                                                  · subst c42
                                                    have H1 : (if t145 = 0 then (if t146.toList = ([] : List UInt8) then ((rubricatorlaw18_known.f kj38).bind fun t147 => (some t147)) else (some false)) else (some false)) = some r := by rw [if_pos rfl] at H; exact H
                                                    clear H
                                                    have H := H1
                                                    clear H1
                                                    by_cases c43 : t145 = 0
                                                    · rw [if_pos c43] at H
                                                      have c43b0 : (t145 == 0) = true := beq_iff_eq.mpr c43
                                                      have c43b1 : (t145 != 0) = false := bne_eq_false_iff_eq.mpr c43
                                                      clear c43
                                                      by_cases c44 : t146.toList = ([] : List UInt8)
                                                      · rw [if_pos c44] at H
                                                        have c44b0 : (t146.toList == ([] : List UInt8)) = true := beq_iff_eq.mpr c44
                                                        have c44b1 : (t146.toList != ([] : List UInt8)) = false := bne_eq_false_iff_eq.mpr c44
                                                        clear c44
                                                        replace H := Option.bind_eq_some_iff.mp H
                                                        obtain ⟨t147, A450, H⟩ := H
                                                        replace H : (some t147) = some r := H
                                                        have A45 := Aside0.mk A450
                                                        clear A450
                                                        obtain rfl := Option.some.inj H
                                                        go_wp2_with (first | ((first | ((with_reducible refine gate_callee (f := 8) rfl ?_); (with_reducible refine gate_dst (N := 108) rfl ?_); refine gate_guard (by rfl) ?_; dsimp only; refine goesL_ (some 108) rfl rfl Tryd.func8 (by kernel_rfl) rfl #[] rfl (by (try simp only [List.map_toArray, List.map_cons, List.map_nil]); first | done | rfl | (simp only [List.length_drop, List.length_take]; rfl)) ?_; (with_reducible refine (rubricatorlaw18_known.calls kj38  t147 _ A45.out).mono ?_); rintro e w46 ⟨rfl, hb⟩; refine ⟨_, rfl, ?_⟩) | (go_at_call 8; (with_reducible refine (rubricatorlaw18_known.calls kj38  t147 _ A45.out).mono ?_); rintro e w46 ⟨rfl, hb⟩)); have n0_ := Aside0.mk (below_step (by repeat (first | (with_reducible first | exact HB.out | apply below_alloc | apply pw_below_drewN | apply below_drew1) | exact HB.out)) hb); clear HB; have HB := n0_; clear n0_; (try clear hb); (try clear hb2); (try clear hk); (try clear hi)))
                                                        go_ret
                                                        exact ⟨by first | rfl | (simp [errW_none, errW_some] <;> rfl) | (simp [*, errW_none, errW_some] <;> rfl), by repeat (first | (with_reducible first | exact HB.out | apply below_alloc | apply pw_below_drewN | apply below_drew1) | exact HB.out)⟩
                                                      · rw [if_neg c44] at H
                                                        have c44b0 : (t146.toList == ([] : List UInt8)) = false := beq_eq_false_iff_ne.mpr c44
                                                        have c44b1 : (t146.toList != ([] : List UInt8)) = true := bne_iff_ne.mpr c44
                                                        obtain rfl := Option.some.inj H
                                                        go_wp2
                                                        go_ret
                                                        exact ⟨by first | rfl | (simp [errW_none, errW_some] <;> rfl) | (simp [*, errW_none, errW_some] <;> rfl), by repeat (first | (with_reducible first | exact HB.out | apply below_alloc | apply pw_below_drewN | apply below_drew1) | exact HB.out)⟩
                                                    · rw [if_neg c43] at H
                                                      have c43b0 : (t145 == 0) = false := beq_eq_false_iff_ne.mpr c43
                                                      have c43b1 : (t145 != 0) = true := bne_iff_ne.mpr c43
                                                      obtain rfl := Option.some.inj H
                                                      go_wp2
                                                      go_ret
                                                      exact ⟨by first | rfl | (simp [errW_none, errW_some] <;> rfl) | (simp [*, errW_none, errW_some] <;> rfl), by repeat (first | (with_reducible first | exact HB.out | apply below_alloc | apply pw_below_drewN | apply below_drew1) | exact HB.out)⟩
                                                  · replace c42 := Bool.eq_false_iff.mpr c42
                                                    subst c42
                                                    have H1 : (if t145 = a0 then (if t146.toList = x15_30.toList then ((rubricatorlaw18_known.f kj38).bind fun t148 => (some t148)) else (some false)) else (some false)) = some r := by rw [if_neg (show ¬ (false = true) by decide)] at H; exact H
                                                    clear H
                                                    have H := H1
                                                    clear H1
                                                    by_cases c47 : t145 = a0
                                                    · rw [if_pos c47] at H
                                                      have c47b0 : (t145 == a0) = true := beq_iff_eq.mpr c47
                                                      have c47b1 : (t145 != a0) = false := bne_eq_false_iff_eq.mpr c47
                                                      clear c47
                                                      by_cases c48 : t146.toList = x15_30.toList
                                                      · rw [if_pos c48] at H
                                                        have c48b0 : (t146.toList == x15_30.toList) = true := beq_iff_eq.mpr c48
                                                        have c48b1 : (t146.toList != x15_30.toList) = false := bne_eq_false_iff_eq.mpr c48
                                                        clear c48
                                                        replace H := Option.bind_eq_some_iff.mp H
                                                        obtain ⟨t148, A490, H⟩ := H
                                                        replace H : (some t148) = some r := H
                                                        have A49 := Aside0.mk A490
                                                        clear A490
                                                        obtain rfl := Option.some.inj H
                                                        go_wp2_with (first | ((first | ((with_reducible refine gate_callee (f := 8) rfl ?_); (with_reducible refine gate_dst (N := 119) rfl ?_); refine gate_guard (by rfl) ?_; dsimp only; refine goesL_ (some 119) rfl rfl Tryd.func8 (by kernel_rfl) rfl #[] rfl (by (try simp only [List.map_toArray, List.map_cons, List.map_nil]); first | done | rfl | (simp only [List.length_drop, List.length_take]; rfl)) ?_; (with_reducible refine (rubricatorlaw18_known.calls kj38  t148 _ A49.out).mono ?_); rintro e w50 ⟨rfl, hb⟩; refine ⟨_, rfl, ?_⟩) | (go_at_call 8; (with_reducible refine (rubricatorlaw18_known.calls kj38  t148 _ A49.out).mono ?_); rintro e w50 ⟨rfl, hb⟩)); have n0_ := Aside0.mk (below_step (by repeat (first | (with_reducible first | exact HB.out | apply below_alloc | apply pw_below_drewN | apply below_drew1) | exact HB.out)) hb); clear HB; have HB := n0_; clear n0_; (try clear hb); (try clear hb2); (try clear hk); (try clear hi)))
                                                        go_ret
                                                        exact ⟨by first | rfl | (simp [errW_none, errW_some] <;> rfl) | (simp [*, errW_none, errW_some] <;> rfl), by repeat (first | (with_reducible first | exact HB.out | apply below_alloc | apply pw_below_drewN | apply below_drew1) | exact HB.out)⟩
                                                      · rw [if_neg c48] at H
                                                        have c48b0 : (t146.toList == x15_30.toList) = false := beq_eq_false_iff_ne.mpr c48
                                                        have c48b1 : (t146.toList != x15_30.toList) = true := bne_iff_ne.mpr c48
                                                        obtain rfl := Option.some.inj H
                                                        go_wp2
                                                        go_ret
                                                        exact ⟨by first | rfl | (simp [errW_none, errW_some] <;> rfl) | (simp [*, errW_none, errW_some] <;> rfl), by repeat (first | (with_reducible first | exact HB.out | apply below_alloc | apply pw_below_drewN | apply below_drew1) | exact HB.out)⟩
                                                    · rw [if_neg c47] at H
                                                      have c47b0 : (t145 == a0) = false := beq_eq_false_iff_ne.mpr c47
                                                      have c47b1 : (t145 != a0) = true := bne_iff_ne.mpr c47
                                                      obtain rfl := Option.some.inj H
                                                      go_wp2
                                                      go_ret
                                                      exact ⟨by first | rfl | (simp [errW_none, errW_some] <;> rfl) | (simp [*, errW_none, errW_some] <;> rfl), by repeat (first | (with_reducible first | exact HB.out | apply below_alloc | apply pw_below_drewN | apply below_drew1) | exact HB.out)⟩
                                            · rw [if_neg c37] at H
                                              exact absurd H (by simp)
                                          · rw [if_neg c36] at H
                                            exact absurd H (by simp)
                                        · rw [if_neg c35] at H
                                          exact absurd H (by simp)
                                      · rw [if_neg c34] at H
                                        exact absurd H (by simp)
                                    · rw [if_neg c33] at H
                                      exact absurd H (by simp)
                          · rw [if_neg c28] at H
                            exact absurd H (by simp)

/-- THE ONE PURE STATEMENT of rubricatorlaw18_LeafClosed: yours. -/
def rubricatorlaw18_LeafClosed.Pure : Prop := ∀ (a0 : Int) (a1 : ByteArray) (a2 : Int) (a3 : Bool), (Lit.int .i64 a0).wf = true → a1.size ≤ 140737488351232 → (Lit.int .i64 a2).wf = true → ∃ k, rubricatorlaw18_LeafClosed.f k a0 a1 a2 a3 = some true
theorem rubricatorlaw18_LeafClosed.walk (P : rubricatorlaw18_LeafClosed.Pure) (a0 : Int) (a1 : ByteArray) (a2 : Int) (a3 : Bool) (w : World) (w0 : (Lit.int .i64 a0).wf = true) (w1 : a1.size ≤ 140737488351232) (w2 : (Lit.int .i64 a2).wf = true) :
    Calls Tryd.prog 5 #[.int .i64 a0, .string a1, .int .i64 a2, .bool a3] w fun e w' => e = .returned (.bool true) ∧ Below w.heap.size w w' := by
  obtain ⟨k, h⟩ := P a0 a1 a2 a3 w0 w1 w2
  refine (rubricatorlaw18_LeafClosed.calls k a0 a1 a2 a3 true w h).mono ?_
  rintro e w' ⟨rfl, hd⟩
  exact ⟨rfl, hd⟩

end Go.Proofs.YtofklonjmdefgaaDoor.PA
