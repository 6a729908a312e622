-- Printed by a program of this workplace (a turned printer): functions, and proofs that the calls come to them.
import Derived.Test.YtahgfbficidjlaaDoorPAx0
import Derived.Test.YtahgfbficidjlaaDoorPAx2
import Derived.Test.YtahgfbficidjlaaDoorPAx4
import Derived.Test.YtahgfbficidjlaaDoorPAx5
namespace Go.Proofs.YtahgfbficidjlaaDoor.PA
open Go.RowKit Go.Proofs.YtahgfbficidjlaaDoorW.PrintWords Go.Proofs.YtahgfbficidjlaaDoorW.PrintLast Go.Proofs.YtahgfbficidjlaaDoorW.PrintMore
attribute [local go_sem] max2_int min2_int max_two min_two max_three min_three max_four min_four   -- for this text's walks alone
set_option linter.unusedVariables false
set_option linter.unusedSimpArgs false

/-! ### rubricatorlaw14_StyleRings: function 7 -/
mutual
def rubricatorlaw14_StyleRings.j0 : Nat → Int → Int → Int → Bool → Option (Bool)
  | 0, _, _, _, _ => none
  | k + 1, x0, x1, x2, x38 => if x38 = true then ((rubricatorlaw14_known.f k).bind fun t265 => (some t265)) else (rubricatorlaw14_StyleRings.l0 k x0 x1 x2 ([] : List (S35)) 0)
def rubricatorlaw14_StyleRings.l0 : Nat → Int → Int → Int → List (S35) → Int → Option (Bool)
  | 0, _, _, _, _, _ => none
  | k + 1, x0, x1, x2, x7, x8 => if x8 < x0 then ((some (([(wrap64 (97 + x8)) % 256] : List Int) : List Int)).bind fun y266 => (if (wrap64 (x8 + 1)) < x0 then (if x7.length < 2199023255552 then (rubricatorlaw14_StyleRings.l0 k x0 x1 x2 (x7 ++ [(⟨strOfNums y266, strOfNums (([(wrap64 ((wrap64 (97 + x8)) + 1)) % 256] : List Int)), false, 1, 0, 1⟩ : S35)]) (wrap64 (x8 + 1))) else (none)) else (if x7.length < 2199023255552 then (rubricatorlaw14_StyleRings.l0 k x0 x1 x2 (x7 ++ [(⟨strOfNums y266, (⟨#[]⟩ : ByteArray), false, 1, 0, 1⟩ : S35)]) (wrap64 (x8 + 1))) else (none)))) else ((style_Check.f x7).bind fun bt279 => (if bt279.1 = (-1) then (if bt279.2 = 0 then (if 0 ≤ x2 then (if x2 < (x7.length : Int) then ((style_Run.f x7 ((rd_T35 x7 x2).f0) (⟨#[]⟩ : ByteArray) 0 0).bind fun t282 => (if t282 = 1 then ((style_Level.f x7 ((rd_T35 x7 x2).f0)).bind fun t284 => (rubricatorlaw14_StyleRings.j2 k x0 x1 x2 x7 (t284 == 1))) else (rubricatorlaw14_StyleRings.j2 k x0 x1 x2 x7 false))) else (none)) else (none)) else (rubricatorlaw14_StyleRings.j2 k x0 x1 x2 x7 false)) else (rubricatorlaw14_StyleRings.j2 k x0 x1 x2 x7 false)))
def rubricatorlaw14_StyleRings.j2 : Nat → Int → Int → Int → List (S35) → Bool → Option (Bool)
  | 0, _, _, _, _, _ => none
  | k + 1, x0, x1, x2, x7, x12 => if 0 ≤ x1 then (if x1 < (x7.length : Int) then (if 0 ≤ (wrap64 (x0 - 1)) then (if (wrap64 (x0 - 1)) < (x7.length : Int) then ((some (x7.set ((wrap64 (x0 - 1)) : Int).toNat (⟨(rd_T35 x7 (wrap64 (x0 - 1))).f0, (rd_T35 x7 x1).f0, (rd_T35 x7 (wrap64 (x0 - 1))).f2, (rd_T35 x7 (wrap64 (x0 - 1))).f3, (rd_T35 x7 (wrap64 (x0 - 1))).f4, (rd_T35 x7 (wrap64 (x0 - 1))).f5⟩ : S35) : List (S35))).bind fun y286 => ((style_Check.f y286).bind fun bt287 => (if x12 = true then (if bt287.1 = x1 then (if bt287.2 = 16 then (if 0 ≤ x2 then (if x2 < (x7.length : Int) then ((style_Run.f y286 ((rd_T35 y286 x2).f0) (⟨#[]⟩ : ByteArray) 0 0).bind fun t290 => (if t290 = 0 then ((style_Level.f y286 ((rd_T35 y286 x2).f0)).bind fun t292 => (if t292 = 0 then ((rubricatorlaw14_known.f k).bind fun t293 => (some t293)) else (some false))) else (some false))) else (none)) else (none)) else (some false)) else (some false)) else (some false)))) else (none)) else (none)) else (none)) else (none)
end
def rubricatorlaw14_StyleRings.f (k : Nat) (a0 : Int) (a1 : Int) (a2 : Int) : Option (Bool) := if a0 < 1 then (rubricatorlaw14_StyleRings.j0 k a0 a1 a2 true) else (if a0 > 25 then (rubricatorlaw14_StyleRings.j0 k a0 a1 a2 true) else (if a1 < 0 then (rubricatorlaw14_StyleRings.j0 k a0 a1 a2 true) else (if a1 ≥ a0 then (rubricatorlaw14_StyleRings.j0 k a0 a1 a2 true) else (if a2 < 0 then (rubricatorlaw14_StyleRings.j0 k a0 a1 a2 true) else (rubricatorlaw14_StyleRings.j0 k a0 a1 a2 (decide (a2 ≥ a0)))))))
theorem rubricatorlaw14_StyleRings.mono_l : ∀ k, (∀ y0 y1 y2 y3, LeO (rubricatorlaw14_StyleRings.j0 k y0 y1 y2 y3) (rubricatorlaw14_StyleRings.j0 (k + 1) y0 y1 y2 y3)) ∧ (∀ y0 y1 y2 y3 y4, LeO (rubricatorlaw14_StyleRings.l0 k y0 y1 y2 y3 y4) (rubricatorlaw14_StyleRings.l0 (k + 1) y0 y1 y2 y3 y4)) ∧ (∀ y0 y1 y2 y3 y4, LeO (rubricatorlaw14_StyleRings.j2 k y0 y1 y2 y3 y4) (rubricatorlaw14_StyleRings.j2 (k + 1) y0 y1 y2 y3 y4))
  | 0 => ⟨fun _ _ _ _ r h => by simp [rubricatorlaw14_StyleRings.j0] at h, fun _ _ _ _ _ r h => by simp [rubricatorlaw14_StyleRings.l0] at h, fun _ _ _ _ _ r h => by simp [rubricatorlaw14_StyleRings.j2] at h⟩
  | k + 1 => by
    obtain ⟨ih0, ih1, ih2⟩ := rubricatorlaw14_StyleRings.mono_l k
    refine ⟨?_, ?_, ?_⟩
    · intro y0 y1 y2 y3
      unfold rubricatorlaw14_StyleRings.j0
      repeat' first
      | (with_reducible exact ih0 _ _ _ _)
      | (with_reducible exact ih1 _ _ _ _ _)
      | (with_reducible exact ih2 _ _ _ _ _)
      | (with_reducible exact rubricatorlaw14_known.mono _)
      | (with_reducible exact LeO.refl _)
      | (with_reducible exact LeO.none _)
      | (with_reducible refine LeO.ite ?_ ?_)
      | (with_reducible refine LeO.bind ?_ (fun _ => ?_))
      | exact ih0 _ _ _ _
      | exact ih1 _ _ _ _ _
      | exact ih2 _ _ _ _ _
      | exact rubricatorlaw14_known.mono _
      | exact LeO.none _
      | refine LeO.ite ?_ ?_
      | refine LeO.bind ?_ (fun _ => ?_)
    · intro y0 y1 y2 y3 y4
      unfold rubricatorlaw14_StyleRings.l0
      repeat' first
      | (with_reducible exact ih0 _ _ _ _)
      | (with_reducible exact ih1 _ _ _ _ _)
      | (with_reducible exact ih2 _ _ _ _ _)
      | (with_reducible exact rubricatorlaw14_known.mono _)
      | (with_reducible exact LeO.refl _)
      | (with_reducible exact LeO.none _)
      | (with_reducible refine LeO.ite ?_ ?_)
      | (with_reducible refine LeO.bind ?_ (fun _ => ?_))
      | exact ih0 _ _ _ _
      | exact ih1 _ _ _ _ _
      | exact ih2 _ _ _ _ _
      | exact rubricatorlaw14_known.mono _
      | exact LeO.none _
      | refine LeO.ite ?_ ?_
      | refine LeO.bind ?_ (fun _ => ?_)
    · intro y0 y1 y2 y3 y4
      unfold rubricatorlaw14_StyleRings.j2
      repeat' first
      | (with_reducible exact ih0 _ _ _ _)
      | (with_reducible exact ih1 _ _ _ _ _)
      | (with_reducible exact ih2 _ _ _ _ _)
      | (with_reducible exact rubricatorlaw14_known.mono _)
      | (with_reducible exact LeO.refl _)
      | (with_reducible exact LeO.none _)
      | (with_reducible refine LeO.ite ?_ ?_)
      | (with_reducible refine LeO.bind ?_ (fun _ => ?_))
      | exact ih0 _ _ _ _
      | exact ih1 _ _ _ _ _
      | exact ih2 _ _ _ _ _
      | exact rubricatorlaw14_known.mono _
      | exact LeO.none _
      | refine LeO.ite ?_ ?_
      | refine LeO.bind ?_ (fun _ => ?_)
theorem rubricatorlaw14_StyleRings.mono : ∀ a0 a1 a2 k, LeO (rubricatorlaw14_StyleRings.f k a0 a1 a2) (rubricatorlaw14_StyleRings.f (k + 1) a0 a1 a2) := by
  intro a0 a1 a2 k
  obtain ⟨ih0, ih1, ih2⟩ := rubricatorlaw14_StyleRings.mono_l k
  unfold rubricatorlaw14_StyleRings.f
  repeat' first
      | (with_reducible exact ih0 _ _ _ _)
      | (with_reducible exact ih1 _ _ _ _ _)
      | (with_reducible exact ih2 _ _ _ _ _)
      | (with_reducible exact rubricatorlaw14_known.mono _)
      | (with_reducible exact LeO.refl _)
      | (with_reducible exact LeO.none _)
      | (with_reducible refine LeO.ite ?_ ?_)
      | (with_reducible refine LeO.bind ?_ (fun _ => ?_))
      | exact ih0 _ _ _ _
      | exact ih1 _ _ _ _ _
      | exact ih2 _ _ _ _ _
      | exact rubricatorlaw14_known.mono _
      | exact LeO.none _
      | refine LeO.ite ?_ ?_
      | refine LeO.bind ?_ (fun _ => ?_)
set_option maxHeartbeats 8000000 in
set_option maxRecDepth 100000 in
theorem rubricatorlaw14_StyleRings.calls (k : Nat) (a0 : Int) (a1 : Int) (a2 : Int) (r : Bool) (w : World) (h : rubricatorlaw14_StyleRings.f k a0 a1 a2 = some r) :
    Calls Tryd.prog 7 #[.int .i64 a0, .int .i64 a1, .int .i64 a2] w fun e w' => e = .returned (.bool r) ∧ Below w.heap.size w w' := by
  have hu35 := Tryd.underlying35
  have HB := Aside0.mk (Below.refl w.heap.size w)
  have H : (if a0 < 1 then (rubricatorlaw14_StyleRings.j0 k a0 a1 a2 true) else (if a0 > 25 then (rubricatorlaw14_StyleRings.j0 k a0 a1 a2 true) else (if a1 < 0 then (rubricatorlaw14_StyleRings.j0 k a0 a1 a2 true) else (if a1 ≥ a0 then (rubricatorlaw14_StyleRings.j0 k a0 a1 a2 true) else (if a2 < 0 then (rubricatorlaw14_StyleRings.j0 k a0 a1 a2 true) else (rubricatorlaw14_StyleRings.j0 k a0 a1 a2 (decide (a2 ≥ a0)))))))) = some r := h
  clear h
  have HC4 := Aside0.mk H
  clear H
  go_enter Tryd.func7, Tryd.ntmps7
  go_upto_region 1 with (fail)
  go_cut [38] (fun v38 wc => ∃ (kq : Nat) (x38_3 : Bool), v38 = .bool x38_3 ∧ Aside0 (rubricatorlaw14_StyleRings.j0 kq a0 a1 a2 x38_3 = some r) ∧ Aside0 (kq ≤ k) ∧ Aside0 (Below w.heap.size w wc))
  case first =>
    have H := HC4.out
    clear HC4
    by_cases c5 : a0 < 1
    · rw [if_pos c5] at H
      have c5b0 : decide (a0 < 1) = true := decide_eq_true c5
      clear c5
      (first | rw [c5b0] | (simp only [i64_w, i32_w]; rw [c5b0]) | skip)
      have H' := Aside0.mk H
      clear H
      go_wp2
      go_meet
      case rel => exact ⟨_, (true), (by first | rfl | (simp; done) | (simp [*]; done)), H', ⟨by first | omega | exact Nat.le_refl _⟩, ⟨by repeat (first | (with_reducible first | exact HB.out | apply below_alloc | apply pw_below_drewN | apply below_drew1) | exact HB.out)⟩⟩
    · rw [if_neg c5] at H
      have c5b0 : decide (a0 < 1) = false := decide_eq_false c5
      clear c5
      (first | rw [c5b0] | (simp only [i64_w, i32_w]; rw [c5b0]) | skip)
      by_cases c6 : a0 > 25
      · rw [if_pos c6] at H
        have c6b0 : decide (25 < a0) = true := decide_eq_true c6
        clear c6
        have H' := Aside0.mk H
        clear H
        go_wp2
        go_meet
        case rel => exact ⟨_, (true), (by first | rfl | (simp; done) | (simp [*]; done)), H', ⟨by first | omega | exact Nat.le_refl _⟩, ⟨by repeat (first | (with_reducible first | exact HB.out | apply below_alloc | apply pw_below_drewN | apply below_drew1) | exact HB.out)⟩⟩
      · rw [if_neg c6] at H
        have c6b0 : decide (25 < a0) = false := decide_eq_false c6
        clear c6
        by_cases c7 : a1 < 0
        · rw [if_pos c7] at H
          have c7b0 : decide (a1 < 0) = true := decide_eq_true c7
          clear c7
          have H' := Aside0.mk H
          clear H
          go_wp2
          go_meet
          case rel => exact ⟨_, (true), (by first | rfl | (simp; done) | (simp [*]; done)), H', ⟨by first | omega | exact Nat.le_refl _⟩, ⟨by repeat (first | (with_reducible first | exact HB.out | apply below_alloc | apply pw_below_drewN | apply below_drew1) | exact HB.out)⟩⟩
        · rw [if_neg c7] at H
          have c7b0 : decide (a1 < 0) = false := decide_eq_false c7
          clear c7
          by_cases c8 : a1 ≥ a0
          · rw [if_pos c8] at H
            have c8b0 : decide (a0 ≤ a1) = true := decide_eq_true c8
            clear c8
            have H' := Aside0.mk H
            clear H
            go_wp2
            go_meet
            case rel => exact ⟨_, (true), (by first | rfl | (simp; done) | (simp [*]; done)), H', ⟨by first | omega | exact Nat.le_refl _⟩, ⟨by repeat (first | (with_reducible first | exact HB.out | apply below_alloc | apply pw_below_drewN | apply below_drew1) | exact HB.out)⟩⟩
          · rw [if_neg c8] at H
            have c8b0 : decide (a0 ≤ a1) = false := decide_eq_false c8
            clear c8
            by_cases c9 : a2 < 0
            · rw [if_pos c9] at H
              have c9b0 : decide (a2 < 0) = true := decide_eq_true c9
              clear c9
              have H' := Aside0.mk H
              clear H
              go_wp2
              go_meet
              case rel => exact ⟨_, (true), (by first | rfl | (simp; done) | (simp [*]; done)), H', ⟨by first | omega | exact Nat.le_refl _⟩, ⟨by repeat (first | (with_reducible first | exact HB.out | apply below_alloc | apply pw_below_drewN | apply below_drew1) | exact HB.out)⟩⟩
            · rw [if_neg c9] at H
              have c9b0 : decide (a2 < 0) = false := decide_eq_false c9
              clear c9
              have H' := Aside0.mk H
              clear H
              go_wp2
              go_meet
              case rel => exact ⟨_, (decide (a2 ≥ a0)), (by first | rfl | (simp; done) | (simp [*]; done)), H', ⟨by first | omega | exact Nat.le_refl _⟩, ⟨by repeat (first | (with_reducible first | exact HB.out | apply below_alloc | apply pw_below_drewN | apply below_drew1) | exact HB.out)⟩⟩
  case rest =>
    clear HC4
    try clear p2
    try clear c5
    try clear c5b0
    try clear c6
    try clear c6b0
    try clear c7
    try clear c7b0
    try clear c8
    try clear c8b0
    try clear c9
    try clear c9b0
    obtain ⟨kq, x38_3, rfl, HA, HJ3, HB⟩ := hcut
    cases kq with
    | zero => exact absurd HA.out (by simp [rubricatorlaw14_StyleRings.j0])
    | succ kj3 =>
      have H := HA.out
      clear HA
      simp only [rubricatorlaw14_StyleRings.j0] at H
      by_cases c10 : x38_3 = true
      · subst c10
        have H1 : ((rubricatorlaw14_known.f kj3).bind fun t265 => (some t265)) = some r := by rw [if_pos rfl] at H; exact H
        clear H
        have H := H1
        clear H1
        replace H := Option.bind_eq_some_iff.mp H
        obtain ⟨t265, A110, H⟩ := H
        replace H : (some t265) = some r := H
        have A11 := Aside0.mk A110
        clear A110
        obtain rfl := Option.some.inj H
        go_wp2_with (first | ((with_reducible refine gate_callee (f := 12) rfl ?_); refine goesL_ (some 39) rfl rfl Tryd.func12 (by kernel_rfl) rfl #[] rfl (by (try simp only [List.map_toArray, List.map_cons, List.map_nil]); first | done | rfl | (simp only [List.length_drop, List.length_take]; rfl)) ?_; (with_reducible refine (rubricatorlaw14_known.calls kj3  t265 _ A11.out).mono ?_); rintro e w12 ⟨rfl, hb⟩; refine ⟨_, rfl, ?_⟩; have n0_ := Aside0.mk (below_step (by repeat (first | (with_reducible first | exact HB.out | apply below_alloc | apply pw_below_drewN | apply below_drew1) | exact HB.out)) hb); clear HB; have HB := n0_; clear n0_; (try clear hb); (try clear hb2); (try clear hk); (try clear hi)))
        go_ret
        exact ⟨by first | rfl | (simp [errW_none, errW_some] <;> rfl) | (simp [*, errW_none, errW_some] <;> rfl), by repeat (first | (with_reducible first | exact HB.out | apply below_alloc | apply pw_below_drewN | apply below_drew1) | exact HB.out)⟩
      · replace c10 := Bool.eq_false_iff.mpr c10
        subst c10
        have H1 : (rubricatorlaw14_StyleRings.l0 kj3 a0 a1 a2 ([] : List (S35)) 0) = some r := by rw [if_neg (show ¬ (false = true) by decide)] at H; exact H
        clear H
        have H := H1
        clear H1
        have H' := Aside0.mk H
        clear H
        go_wp2
        go_loopg [7, 8] kj3 (fun kq v7 v8 w' => ∃ (x7_2 : List (S35)) (x8_2 : Int), v8 = .int .i64 x8_2 ∧ Aside0 (rubricatorlaw14_StyleRings.l0 kq a0 a1 a2 x7_2 x8_2 = some r) ∧ Aside0 (kq ≤ kj3) ∧ Aside0 (Kd.R k35 35 w' w.heap.size (fun _ => True) v7 x7_2) ∧ Aside0 (Below w.heap.size w w'))
        case atStart => exact ⟨(([] : List (S35))), (0), (by first | rfl | (simp; done) | (simp [*]; done)), H', ⟨Nat.le_refl _⟩, ⟨by first | exact Kd.R_nil _ _ _ _ _ | exact Kd.N_nil _ _ _ _ _ | exact Kd.V_nil _ _ _ _ _ | exact Kd.Q_nil _ _ _ _ _ | exact Kd.S_nil _ _ _ _ _⟩, ⟨by repeat (first | (with_reducible first | exact HB.out | apply below_alloc | apply pw_below_drewN | apply below_drew1) | exact HB.out)⟩⟩
        case round =>
          clear H'
          try clear c1
          try clear p2
          try clear c5
          try clear c5b0
          try clear c6
          try clear c6b0
          try clear c7
          try clear c7b0
          try clear c8
          try clear c8b0
          try clear c9
          try clear c9b0
          try clear c10
          try clear c12
          try clear p2
          obtain ⟨x7_2, x8_2, rfl, HA, HK2, HO_7, HB⟩ := hrel
          cases gk with
          | zero => exact absurd HA.out (by simp [rubricatorlaw14_StyleRings.l0])
          | succ k2 =>
            have H := HA.out
            clear HA
            simp only [rubricatorlaw14_StyleRings.l0] at H
            by_cases c13 : x8_2 < a0
            · rw [if_pos c13] at H
              have c13b0 : decide (x8_2 < a0) = true := decide_eq_true c13
              clear c13
              obtain ⟨y266, hy266⟩ : ∃ y_ : List Int, y_ = (([(wrap64 (97 + x8_2)) % 256] : List Int)) := ⟨_, rfl⟩
              replace H : (if (wrap64 (x8_2 + 1)) < a0 then (if x7_2.length < 2199023255552 then (rubricatorlaw14_StyleRings.l0 k2 a0 a1 a2 (x7_2 ++ [(⟨strOfNums y266, strOfNums (([(wrap64 ((wrap64 (97 + x8_2)) + 1)) % 256] : List Int)), false, 1, 0, 1⟩ : S35)]) (wrap64 (x8_2 + 1))) else (none)) else (if x7_2.length < 2199023255552 then (rubricatorlaw14_StyleRings.l0 k2 a0 a1 a2 (x7_2 ++ [(⟨strOfNums y266, (⟨#[]⟩ : ByteArray), false, 1, 0, 1⟩ : S35)]) (wrap64 (x8_2 + 1))) else (none))) = some r := by first | (rw [hy266]; with_reducible exact H) | (have H2_ := (Option.bind_some _ _).symm.trans H; rw [hy266]; with_reducible exact H2_) | (have H2_ := (Option.bind_some _ _).symm.trans H; with_reducible exact H2_) | with_reducible exact H | (rw [hy266]; exact H) | exact H
              have Ny266 := Aside0.mk hy266
              clear hy266
              by_cases c14 : (wrap64 (x8_2 + 1)) < a0
              · rw [if_pos c14] at H
                have c14b0 : decide ((wrap64 (x8_2 + 1)) < a0) = true := decide_eq_true c14
                clear c14
                obtain ⟨y270, hy270⟩ : ∃ y_ : List Int, y_ = (([(wrap64 ((wrap64 (97 + x8_2)) + 1)) % 256] : List Int)) := ⟨_, rfl⟩
                replace H : (if x7_2.length < 2199023255552 then (rubricatorlaw14_StyleRings.l0 k2 a0 a1 a2 (x7_2 ++ [(⟨strOfNums y266, strOfNums y270, false, 1, 0, 1⟩ : S35)]) (wrap64 (x8_2 + 1))) else (none)) = some r := by first | (rw [hy270]; with_reducible exact H) | (have H2_ := (Option.bind_some _ _).symm.trans H; rw [hy270]; with_reducible exact H2_) | (have H2_ := (Option.bind_some _ _).symm.trans H; with_reducible exact H2_) | with_reducible exact H | (rw [hy270]; exact H) | exact H
                have Ny270 := Aside0.mk hy270
                clear hy270
                by_cases c15 : x7_2.length < 2199023255552
                · rw [if_pos c15] at H
                  have LMc15 := Aside0.mk c15
                  clear c15
                  obtain ⟨y273, hy273⟩ : ∃ y_ : List (S35), y_ = (x7_2 ++ [(⟨strOfNums y266, strOfNums y270, false, 1, 0, 1⟩ : S35)]) := ⟨_, rfl⟩
                  replace H : (rubricatorlaw14_StyleRings.l0 k2 a0 a1 a2 y273 (wrap64 (x8_2 + 1))) = some r := by first | (rw [hy273]; with_reducible exact H) | (have H2_ := (Option.bind_some _ _).symm.trans H; rw [hy273]; with_reducible exact H2_) | (have H2_ := (Option.bind_some _ _).symm.trans H; with_reducible exact H2_) | with_reducible exact H | (rw [hy273]; exact H) | exact H
                  have Ny273 := Aside0.mk hy273
                  clear hy273
                  have H' := Aside0.mk H
                  clear H
                  go_wp2_with (first | ((with_reducible refine gate_dst (N := 48) rfl ?_); refine Kd.R_lit (Kd.int .u8) _ 5 ?hg (N := 48) ?hd (xs := ([(wrap64 (97 + x8_2)) % 256] : List Int)) (inner := [.int .u8 ((wrap64 (97 + x8_2)) % 256)]) (ok := fun _ => True) (okp := fun _ => True) ?hr ?hp (fun _ hk => hk) trivial (Below.refl _ _) (Nat.le_refl _) (by simp) ?_; (case hd => rfl); (case hg => rfl); (case hr => first | (go_simp; done) | (go_simp; rfl)); (case hp => exact (Reps.one (show Kd.M (Kd.int .u8) _ _ _ ((wrap64 (97 + x8_2)) % 256) [.int .u8 ((wrap64 (97 + x8_2)) % 256)] from rfl) (Reps.none _ _))); intro v267 w16 ho17 hb hg_ hnew_; clear hg_ hnew_; (first | rw [← Ny266.out] at ho17 | (simp only [Int.reduceToNat] at ho17; rw [← Ny266.out] at ho17)); have n0_ := Aside0.mk (Kd.R_below (by (with_reducible repeat (first | apply Kd.R_alloc | apply Kd.R_drewN | apply Kd.R_drew)); exact HO_7.out) hb); have n1_ := Aside0.mk (Kd.R_lower ho17 (below_size (by repeat (first | (with_reducible first | exact HB.out | apply below_alloc | apply pw_below_drewN | apply below_drew1) | exact HB.out)))); have n2_ := Aside0.mk (below_step (by repeat (first | (with_reducible first | exact HB.out | apply below_alloc | apply pw_below_drewN | apply below_drew1) | exact HB.out)) hb); clear HO_7; clear HB; have HO_7 := n0_; have HO268 := n1_; have HB := n2_; clear n0_ n1_ n2_; clear hb ho17; have hcv18 := own_string (P := Tryd.prog) Tryd.underlying40 Tryd.underlying5 Tryd.underlying9 (Kd.own_of_R HO268.out)) | ((with_reducible refine gate_dst (N := 9) rfl ?_); refine box_event ?hg (N := 9) ?hd (cs := #[.string (⟨#[]⟩ : ByteArray), .string (⟨#[]⟩ : ByteArray), .bool false, .int .i64 0, .int .i64 0, .int .i64 0]) (t := 35) ?hr ?_; (case hd => rfl); (case hg => rfl); (case hr => first | (go_simp; done) | (go_simp; rfl)); intro gb269 hg w19 hbox hb; have n0_ := Aside0.mk (Kd.R_below (Kd.R_elderB (by (with_reducible repeat (first | apply Kd.R_alloc | apply Kd.R_drewN | apply Kd.R_drew)); exact HO_7.out) gb269 (Nat.le_of_eq hg.symm)) hb); have n1_ := Aside0.mk (Kd.R_below (by (with_reducible repeat (first | apply Kd.R_alloc | apply Kd.R_drewN | apply Kd.R_drew)); exact HO268.out) hb); have n2_ := Aside0.mk (below_step (by repeat (first | (with_reducible first | exact HB.out | apply below_alloc | apply pw_below_drewN | apply below_drew1) | exact HB.out)) hb); have n3_ := Aside0.mk (hbox); have n4_ := Aside0.mk ((by rw [hg]; exact (below_size (by repeat (first | (with_reducible first | exact HB.out | apply below_alloc | apply pw_below_drewN | apply below_drew1) | exact HB.out))) : w.heap.size ≤ gb269)); have n5_ := Aside0.mk ((by rw [hg]; exact (below_size (by repeat (first | (with_reducible first | exact HB.out | apply below_alloc | apply pw_below_drewN | apply below_drew1) | exact HB.out))) : w.heap.size ≤ gb269)); clear HO_7; clear HO268; clear HB; have HO_7 := n0_; have HO268 := n1_; have HB := n2_; have BK269 := n3_; have GW269 := n4_; have GE269 := n5_; clear n0_ n1_ n2_ n3_ n4_ n5_; clear hb hbox hg; have hcz20_0 : w19.cell? ⟨gb269, 0, none⟩ = some (.string (⟨#[]⟩ : ByteArray)) := (blk_cell BK269.out 0).trans rfl; have hcz20_1 : w19.cell? ⟨gb269, 1, none⟩ = some (.string (⟨#[]⟩ : ByteArray)) := (blk_cell BK269.out 1).trans rfl; have hcz20_2 : w19.cell? ⟨gb269, 2, none⟩ = some (.bool false) := (blk_cell BK269.out 2).trans rfl; have hcz20_3 : w19.cell? ⟨gb269, 3, none⟩ = some (.int .i64 0) := (blk_cell BK269.out 3).trans rfl; have hcz20_4 : w19.cell? ⟨gb269, 4, none⟩ = some (.int .i64 0) := (blk_cell BK269.out 4).trans rfl; have hcz20_5 : w19.cell? ⟨gb269, 5, none⟩ = some (.int .i64 0) := (blk_cell BK269.out 5).trans rfl; have hfz20_0 := blk_frozen BK269.out 0; have hfz20_1 := blk_frozen BK269.out 1; have hfz20_2 := blk_frozen BK269.out 2; have hfz20_3 := blk_frozen BK269.out 3; have hfz20_4 := blk_frozen BK269.out 4; have hfz20_5 := blk_frozen BK269.out 5) | ((with_reducible refine gate_dst (N := 59) rfl ?_); refine Kd.R_lit (Kd.int .u8) _ 5 ?hg (N := 59) ?hd (xs := ([(wrap64 ((wrap64 (97 + x8_2)) + 1)) % 256] : List Int)) (inner := [.int .u8 ((wrap64 ((wrap64 (97 + x8_2)) + 1)) % 256)]) (ok := fun _ => True) (okp := fun _ => True) ?hr ?hp (fun _ hk => hk) trivial (Below.refl _ _) (Nat.le_refl _) (by simp) ?_; (case hd => rfl); (case hg => rfl); (case hr => first | (go_simp; done) | (go_simp; rfl)); (case hp => exact (Reps.one (show Kd.M (Kd.int .u8) _ _ _ ((wrap64 ((wrap64 (97 + x8_2)) + 1)) % 256) [.int .u8 ((wrap64 ((wrap64 (97 + x8_2)) + 1)) % 256)] from rfl) (Reps.none _ _))); intro v271 w21 ho22 hb hg_ hnew_; clear hg_ hnew_; (first | rw [← Ny270.out] at ho22 | (simp only [Int.reduceToNat] at ho22; rw [← Ny270.out] at ho22)); have n0_ := Aside0.mk (Kd.R_below (by (with_reducible repeat (first | apply Kd.R_alloc | apply Kd.R_drewN | apply Kd.R_drew)); exact (Kd.R_mono (Kd.R_far (p := ⟨gb269, 5, none⟩) (Kd.R_far (p := ⟨gb269, 4, none⟩) (Kd.R_far (p := ⟨gb269, 3, none⟩) (Kd.R_far (p := ⟨gb269, 2, none⟩) (Kd.R_far (p := ⟨gb269, 1, none⟩) (Kd.R_far (p := ⟨gb269, 0, none⟩) (Kd.R_mono HO_7.out (fun k_ hk => (⟨hk, hk.2⟩ : _ ∧ k_ ≠ gb269))) (fun _ hk => hk.2) (.string (strOfNums y266))) (fun _ hk => hk.2) (.string (⟨#[]⟩ : ByteArray))) (fun _ hk => hk.2) (.bool false)) (fun _ hk => hk.2) (.int .i64 1)) (fun _ hk => hk.2) (.int .i64 0)) (fun _ hk => hk.2) (.int .i64 1)) (fun _ h_ => h_.1))) hb); have n1_ := Aside0.mk (Kd.R_elder' (by (with_reducible repeat (first | apply Kd.R_alloc | apply Kd.R_drewN | apply Kd.R_drew)); exact (Kd.R_mono (Kd.R_far (p := ⟨gb269, 5, none⟩) (Kd.R_far (p := ⟨gb269, 4, none⟩) (Kd.R_far (p := ⟨gb269, 3, none⟩) (Kd.R_far (p := ⟨gb269, 2, none⟩) (Kd.R_far (p := ⟨gb269, 1, none⟩) (Kd.R_far (p := ⟨gb269, 0, none⟩) (Kd.R_types HO268.out BK269.out (by decide)) (fun _ hk => hk.2) (.string (strOfNums y266))) (fun _ hk => hk.2) (.string (⟨#[]⟩ : ByteArray))) (fun _ hk => hk.2) (.bool false)) (fun _ hk => hk.2) (.int .i64 1)) (fun _ hk => hk.2) (.int .i64 0)) (fun _ hk => hk.2) (.int .i64 1)) (fun _ h_ => h_.1))) (Kd.R_base ho22) hb); have n2_ := Aside0.mk (Kd.R_lower (Kd.R_new' ho22 (Kd.R_lt (by (with_reducible repeat (first | apply Kd.R_alloc | apply Kd.R_drewN | apply Kd.R_drew)); exact (Kd.R_mono (Kd.R_far (p := ⟨gb269, 5, none⟩) (Kd.R_far (p := ⟨gb269, 4, none⟩) (Kd.R_far (p := ⟨gb269, 3, none⟩) (Kd.R_far (p := ⟨gb269, 2, none⟩) (Kd.R_far (p := ⟨gb269, 1, none⟩) (Kd.R_far (p := ⟨gb269, 0, none⟩) (Kd.R_types HO268.out BK269.out (by decide)) (fun _ hk => hk.2) (.string (strOfNums y266))) (fun _ hk => hk.2) (.string (⟨#[]⟩ : ByteArray))) (fun _ hk => hk.2) (.bool false)) (fun _ hk => hk.2) (.int .i64 1)) (fun _ hk => hk.2) (.int .i64 0)) (fun _ hk => hk.2) (.int .i64 1)) (fun _ h_ => h_.1))))) (below_size (by repeat (first | (with_reducible first | exact HB.out | apply below_alloc | apply pw_below_drewN | apply below_drew1 | refine below_set ?_ GE269.out) | exact HB.out)))); have n3_ := Aside0.mk (blk_below (g := gb269) (o := .cells #[.string (strOfNums y266), .string (⟨#[]⟩ : ByteArray), .bool false, .int .i64 1, .int .i64 0, .int .i64 1] 35 (0, 0)) (by (with_reducible repeat (first | refine blk_drewN ?_ _ | refine blk_drew ?_ | refine blk_alloc ?_ _)); refine blk_put (cs := #[.string (strOfNums y266), .string (⟨#[]⟩ : ByteArray), .bool false, .int .i64 1, .int .i64 0, .int .i64 0]) ?_ 5 _ rfl; (with_reducible repeat (first | refine blk_drewN ?_ _ | refine blk_drew ?_ | refine blk_alloc ?_ _)); refine blk_put (cs := #[.string (strOfNums y266), .string (⟨#[]⟩ : ByteArray), .bool false, .int .i64 1, .int .i64 0, .int .i64 0]) ?_ 4 _ rfl; (with_reducible repeat (first | refine blk_drewN ?_ _ | refine blk_drew ?_ | refine blk_alloc ?_ _)); refine blk_put (cs := #[.string (strOfNums y266), .string (⟨#[]⟩ : ByteArray), .bool false, .int .i64 0, .int .i64 0, .int .i64 0]) ?_ 3 _ rfl; (with_reducible repeat (first | refine blk_drewN ?_ _ | refine blk_drew ?_ | refine blk_alloc ?_ _)); refine blk_put (cs := #[.string (strOfNums y266), .string (⟨#[]⟩ : ByteArray), .bool false, .int .i64 0, .int .i64 0, .int .i64 0]) ?_ 2 _ rfl; (with_reducible repeat (first | refine blk_drewN ?_ _ | refine blk_drew ?_ | refine blk_alloc ?_ _)); refine blk_put (cs := #[.string (strOfNums y266), .string (⟨#[]⟩ : ByteArray), .bool false, .int .i64 0, .int .i64 0, .int .i64 0]) ?_ 1 _ rfl; (with_reducible repeat (first | refine blk_drewN ?_ _ | refine blk_drew ?_ | refine blk_alloc ?_ _)); refine blk_put (cs := #[.string (⟨#[]⟩ : ByteArray), .string (⟨#[]⟩ : ByteArray), .bool false, .int .i64 0, .int .i64 0, .int .i64 0]) ?_ 0 _ rfl; (with_reducible repeat (first | refine blk_drewN ?_ _ | refine blk_drew ?_ | refine blk_alloc ?_ _)); exact BK269.out) hb); have n4_ := Aside0.mk (below_step (by repeat (first | (with_reducible first | exact HB.out | apply below_alloc | apply pw_below_drewN | apply below_drew1 | refine below_set ?_ GE269.out) | exact HB.out)) hb); clear HO_7; clear HO268; clear BK269; clear HB; have HO_7 := n0_; have HO268 := n1_; have HO272 := n2_; have BK269 := n3_; have HB := n4_; clear n0_ n1_ n2_ n3_ n4_; clear hb ho22; have hcv23 := own_string (P := Tryd.prog) Tryd.underlying40 Tryd.underlying5 Tryd.underlying9 (Kd.own_of_R HO272.out); have hcz24_0 : w21.cell? ⟨gb269, 0, none⟩ = some (.string (strOfNums y266)) := (blk_cell BK269.out 0).trans rfl; have hcz24_1 : w21.cell? ⟨gb269, 1, none⟩ = some (.string (⟨#[]⟩ : ByteArray)) := (blk_cell BK269.out 1).trans rfl; have hcz24_2 : w21.cell? ⟨gb269, 2, none⟩ = some (.bool false) := (blk_cell BK269.out 2).trans rfl; have hcz24_3 : w21.cell? ⟨gb269, 3, none⟩ = some (.int .i64 1) := (blk_cell BK269.out 3).trans rfl; have hcz24_4 : w21.cell? ⟨gb269, 4, none⟩ = some (.int .i64 0) := (blk_cell BK269.out 4).trans rfl; have hcz24_5 : w21.cell? ⟨gb269, 5, none⟩ = some (.int .i64 1) := (blk_cell BK269.out 5).trans rfl; have hfz24_0 := blk_frozen BK269.out 0; have hfz24_1 := blk_frozen BK269.out 1; have hfz24_2 := blk_frozen BK269.out 2; have hfz24_3 := blk_frozen BK269.out 3; have hfz24_4 := blk_frozen BK269.out 4; have hfz24_5 := blk_frozen BK269.out 5) | ((with_reducible refine gate_builtin (b := .append) (xs := #[.tmp 62, .tmp 64]) rfl ?_); at_builtin; refine Kd.R_append k35 (w0 := w) w.heap.size rfl (.tmp 62) (.tmp 64) 22 35 (.agg #[(.string ⟨#[]⟩), (.string ⟨#[]⟩), (.bool false), (.int .i64 0), (.int .i64 0), (.int .i64 0)]) 64 rfl Tryd.underlying22 info35 rfl (by decide) (by omega) u7 x7_2 (⟨strOfNums y266, strOfNums y270, false, 1, 0, 1⟩ : S35) [.string (strOfNums y266), .string (strOfNums y270), .bool false, .int .i64 1, .int .i64 0, .int .i64 1] (fun k_ => k_ ≠ gb269) (fun _ => False) rfl (by first | (go_simp; done) | (go_simp; rfl)) ?aP (fun _ hk => hk.elim) ?aF ?aO ?aB ?aS ?aL ?_; (case aP => exact k35_mkM _ _ _ (⟨strOfNums y266, strOfNums y270, false, 1, 0, 1⟩ : S35)); (case aB => exact (by repeat (first | (with_reducible first | exact HB.out | apply below_alloc | apply pw_below_drewN | apply below_drew1 | refine below_set ?_ GE269.out) | exact HB.out))); (case aF => exact (fun k_ hk => Kd.freshB (g := gb269) (o := .cells #[.string (strOfNums y266), .string (strOfNums y270), .bool false, .int .i64 1, .int .i64 0, .int .i64 1] 35 (0, 0)) (by (with_reducible repeat (first | refine blk_drewN ?_ _ | refine blk_drew ?_ | refine blk_alloc ?_ _)); refine blk_put (cs := #[.string (strOfNums y266), .string (⟨#[]⟩ : ByteArray), .bool false, .int .i64 1, .int .i64 0, .int .i64 1]) ?_ 1 _ rfl; (with_reducible repeat (first | refine blk_drewN ?_ _ | refine blk_drew ?_ | refine blk_alloc ?_ _)); exact BK269.out) k_ hk)); (case aO => exact (by (with_reducible repeat (first | apply Kd.R_alloc | apply Kd.R_drewN | apply Kd.R_drew)); exact Kd.R_mono (Kd.R_far (p := ⟨gb269, 1, none⟩) (Kd.R_mono HO_7.out (fun k_ hk => (⟨hk, hk.2⟩ : _ ∧ k_ ≠ gb269))) (fun _ hk => hk.2) (.string (strOfNums y270))) (fun _ hk => hk.1.2))); (case aS => exact (below_size (by repeat (first | (with_reducible first | exact HB.out | apply below_alloc | apply pw_below_drewN | apply below_drew1 | refine below_set ?_ GE269.out) | exact HB.out)))); (case aL => have := LMc15.out; omega); intro v274 w25 ho hb hg hat; rw [← Ny273.out] at ho; have n0_ := Aside0.mk (Kd.R_over' (by (with_reducible repeat (first | apply Kd.R_alloc | apply Kd.R_drewN | apply Kd.R_drew)); exact (Kd.R_mono (Kd.R_far (p := ⟨gb269, 1, none⟩) (Kd.R_types HO268.out BK269.out (by decide)) (fun _ hk => hk.2) (.string (strOfNums y270))) (fun _ h_ => h_.1))) (Kd.R_typed (by (with_reducible repeat (first | apply Kd.R_alloc | apply Kd.R_drewN | apply Kd.R_drew)); exact (Kd.R_mono (Kd.R_far (p := ⟨gb269, 1, none⟩) (Kd.R_mono HO_7.out (fun k_ hk => (⟨hk, hk.2⟩ : _ ∧ k_ ≠ gb269))) (fun _ hk => hk.2) (.string (strOfNums y270))) (fun _ h_ => h_.1)))) (by decide) hg); have n1_ := Aside0.mk (blk_grown (g := gb269) (o := .cells #[.string (strOfNums y266), .string (strOfNums y270), .bool false, .int .i64 1, .int .i64 0, .int .i64 1] 35 (0, 0)) (by (with_reducible repeat (first | refine blk_drewN ?_ _ | refine blk_drew ?_ | refine blk_alloc ?_ _)); refine blk_put (cs := #[.string (strOfNums y266), .string (⟨#[]⟩ : ByteArray), .bool false, .int .i64 1, .int .i64 0, .int .i64 1]) ?_ 1 _ rfl; (with_reducible repeat (first | refine blk_drewN ?_ _ | refine blk_drew ?_ | refine blk_alloc ?_ _)); exact BK269.out) hg (Kd.R_away HO_7.out (fun _ hk => hk.2))); have n2_ := Aside0.mk (Kd.R_over' (by (with_reducible repeat (first | apply Kd.R_alloc | apply Kd.R_drewN | apply Kd.R_drew)); exact (Kd.R_mono (Kd.R_far (p := ⟨gb269, 1, none⟩) (Kd.R_types HO272.out BK269.out (by decide)) (fun _ hk => hk.2) (.string (strOfNums y270))) (fun _ h_ => h_.1))) (Kd.R_typed (by (with_reducible repeat (first | apply Kd.R_alloc | apply Kd.R_drewN | apply Kd.R_drew)); exact (Kd.R_mono (Kd.R_far (p := ⟨gb269, 1, none⟩) (Kd.R_mono HO_7.out (fun k_ hk => (⟨hk, hk.2⟩ : _ ∧ k_ ≠ gb269))) (fun _ hk => hk.2) (.string (strOfNums y270))) (fun _ h_ => h_.1)))) (by decide) hg); have n3_ := Aside0.mk (hb); have n4_ := Aside0.mk (ho); clear HO268; clear BK269; clear HO272; clear HB; clear HO_7; have HO268 := n0_; have BK269 := n1_; have HO272 := n2_; have HB := n3_; have HO275 := n4_; clear n0_ n1_ n2_ n3_ n4_; clear ho hb hg hat))
                  go_roundg k2
                  case measure => have := HJ3.out; have := HK2.out; omega
                  case rel => exact ⟨(y273), (wrap64 (x8_2 + 1)), (by first | rfl | (simp; done) | (simp [*]; done)), H', ⟨by have := HJ3.out; have := HK2.out; omega⟩, ⟨by (with_reducible repeat (first | apply Kd.R_alloc | apply Kd.R_drewN | apply Kd.R_drew)); exact Kd.R_mono HO275.out (fun _ hk => trivial)⟩, ⟨by repeat (first | (with_reducible first | exact HB.out | apply below_alloc | apply pw_below_drewN | apply below_drew1 | refine below_set ?_ GE269.out) | exact HB.out)⟩⟩
                · rw [if_neg c15] at H
                  exact absurd H (by simp)
              · rw [if_neg c14] at H
                have c14b0 : decide ((wrap64 (x8_2 + 1)) < a0) = false := decide_eq_false c14
                clear c14
                by_cases c26 : x7_2.length < 2199023255552
                · rw [if_pos c26] at H
                  have LMc26 := Aside0.mk c26
                  clear c26
                  obtain ⟨y276, hy276⟩ : ∃ y_ : List (S35), y_ = (x7_2 ++ [(⟨strOfNums y266, (⟨#[]⟩ : ByteArray), false, 1, 0, 1⟩ : S35)]) := ⟨_, rfl⟩
                  replace H : (rubricatorlaw14_StyleRings.l0 k2 a0 a1 a2 y276 (wrap64 (x8_2 + 1))) = some r := by first | (rw [hy276]; with_reducible exact H) | (have H2_ := (Option.bind_some _ _).symm.trans H; rw [hy276]; with_reducible exact H2_) | (have H2_ := (Option.bind_some _ _).symm.trans H; with_reducible exact H2_) | with_reducible exact H | (rw [hy276]; exact H) | exact H
                  have Ny276 := Aside0.mk hy276
                  clear hy276
                  have H' := Aside0.mk H
                  clear H
                  go_wp2_with (first | ((with_reducible refine gate_dst (N := 48) rfl ?_); refine Kd.R_lit (Kd.int .u8) _ 5 ?hg (N := 48) ?hd (xs := ([(wrap64 (97 + x8_2)) % 256] : List Int)) (inner := [.int .u8 ((wrap64 (97 + x8_2)) % 256)]) (ok := fun _ => True) (okp := fun _ => True) ?hr ?hp (fun _ hk => hk) trivial (Below.refl _ _) (Nat.le_refl _) (by simp) ?_; (case hd => rfl); (case hg => rfl); (case hr => first | (go_simp; done) | (go_simp; rfl)); (case hp => exact (Reps.one (show Kd.M (Kd.int .u8) _ _ _ ((wrap64 (97 + x8_2)) % 256) [.int .u8 ((wrap64 (97 + x8_2)) % 256)] from rfl) (Reps.none _ _))); intro v267 w27 ho28 hb hg_ hnew_; clear hg_ hnew_; (first | rw [← Ny266.out] at ho28 | (simp only [Int.reduceToNat] at ho28; rw [← Ny266.out] at ho28)); have n0_ := Aside0.mk (Kd.R_below (by (with_reducible repeat (first | apply Kd.R_alloc | apply Kd.R_drewN | apply Kd.R_drew)); exact HO_7.out) hb); have n1_ := Aside0.mk (Kd.R_lower ho28 (below_size (by repeat (first | (with_reducible first | exact HB.out | apply below_alloc | apply pw_below_drewN | apply below_drew1) | exact HB.out)))); have n2_ := Aside0.mk (below_step (by repeat (first | (with_reducible first | exact HB.out | apply below_alloc | apply pw_below_drewN | apply below_drew1) | exact HB.out)) hb); clear HO_7; clear HB; have HO_7 := n0_; have HO268 := n1_; have HB := n2_; clear n0_ n1_ n2_; clear hb ho28; have hcv29 := own_string (P := Tryd.prog) Tryd.underlying40 Tryd.underlying5 Tryd.underlying9 (Kd.own_of_R HO268.out)) | ((with_reducible refine gate_dst (N := 9) rfl ?_); refine box_event ?hg (N := 9) ?hd (cs := #[.string (⟨#[]⟩ : ByteArray), .string (⟨#[]⟩ : ByteArray), .bool false, .int .i64 0, .int .i64 0, .int .i64 0]) (t := 35) ?hr ?_; (case hd => rfl); (case hg => rfl); (case hr => first | (go_simp; done) | (go_simp; rfl)); intro gb269 hg w30 hbox hb; have n0_ := Aside0.mk (Kd.R_below (Kd.R_elderB (by (with_reducible repeat (first | apply Kd.R_alloc | apply Kd.R_drewN | apply Kd.R_drew)); exact HO_7.out) gb269 (Nat.le_of_eq hg.symm)) hb); have n1_ := Aside0.mk (Kd.R_below (by (with_reducible repeat (first | apply Kd.R_alloc | apply Kd.R_drewN | apply Kd.R_drew)); exact HO268.out) hb); have n2_ := Aside0.mk (below_step (by repeat (first | (with_reducible first | exact HB.out | apply below_alloc | apply pw_below_drewN | apply below_drew1) | exact HB.out)) hb); have n3_ := Aside0.mk (hbox); have n4_ := Aside0.mk ((by rw [hg]; exact (below_size (by repeat (first | (with_reducible first | exact HB.out | apply below_alloc | apply pw_below_drewN | apply below_drew1) | exact HB.out))) : w.heap.size ≤ gb269)); have n5_ := Aside0.mk ((by rw [hg]; exact (below_size (by repeat (first | (with_reducible first | exact HB.out | apply below_alloc | apply pw_below_drewN | apply below_drew1) | exact HB.out))) : w.heap.size ≤ gb269)); clear HO_7; clear HO268; clear HB; have HO_7 := n0_; have HO268 := n1_; have HB := n2_; have BK269 := n3_; have GW269 := n4_; have GE269 := n5_; clear n0_ n1_ n2_ n3_ n4_ n5_; clear hb hbox hg; have hcz31_0 : w30.cell? ⟨gb269, 0, none⟩ = some (.string (⟨#[]⟩ : ByteArray)) := (blk_cell BK269.out 0).trans rfl; have hcz31_1 : w30.cell? ⟨gb269, 1, none⟩ = some (.string (⟨#[]⟩ : ByteArray)) := (blk_cell BK269.out 1).trans rfl; have hcz31_2 : w30.cell? ⟨gb269, 2, none⟩ = some (.bool false) := (blk_cell BK269.out 2).trans rfl; have hcz31_3 : w30.cell? ⟨gb269, 3, none⟩ = some (.int .i64 0) := (blk_cell BK269.out 3).trans rfl; have hcz31_4 : w30.cell? ⟨gb269, 4, none⟩ = some (.int .i64 0) := (blk_cell BK269.out 4).trans rfl; have hcz31_5 : w30.cell? ⟨gb269, 5, none⟩ = some (.int .i64 0) := (blk_cell BK269.out 5).trans rfl; have hfz31_0 := blk_frozen BK269.out 0; have hfz31_1 := blk_frozen BK269.out 1; have hfz31_2 := blk_frozen BK269.out 2; have hfz31_3 := blk_frozen BK269.out 3; have hfz31_4 := blk_frozen BK269.out 4; have hfz31_5 := blk_frozen BK269.out 5) | ((with_reducible refine gate_builtin (b := .append) (xs := #[.tmp 62, .tmp 64]) rfl ?_); at_builtin; refine Kd.R_append k35 (w0 := w) w.heap.size rfl (.tmp 62) (.tmp 64) 22 35 (.agg #[(.string ⟨#[]⟩), (.string ⟨#[]⟩), (.bool false), (.int .i64 0), (.int .i64 0), (.int .i64 0)]) 64 rfl Tryd.underlying22 info35 rfl (by decide) (by omega) u7 x7_2 (⟨strOfNums y266, (⟨#[]⟩ : ByteArray), false, 1, 0, 1⟩ : S35) [.string (strOfNums y266), .string (⟨#[]⟩ : ByteArray), .bool false, .int .i64 1, .int .i64 0, .int .i64 1] (fun k_ => k_ ≠ gb269) (fun _ => False) rfl (by first | (go_simp; done) | (go_simp; rfl)) ?aP (fun _ hk => hk.elim) ?aF ?aO ?aB ?aS ?aL ?_; (case aP => exact k35_mkM _ _ _ (⟨strOfNums y266, (⟨#[]⟩ : ByteArray), false, 1, 0, 1⟩ : S35)); (case aB => exact (by repeat (first | (with_reducible first | exact HB.out | apply below_alloc | apply pw_below_drewN | apply below_drew1 | refine below_set ?_ GE269.out) | exact HB.out))); (case aF => exact (fun k_ hk => Kd.freshB (g := gb269) (o := .cells #[.string (strOfNums y266), .string (⟨#[]⟩ : ByteArray), .bool false, .int .i64 1, .int .i64 0, .int .i64 1] 35 (0, 0)) (by (with_reducible repeat (first | refine blk_drewN ?_ _ | refine blk_drew ?_ | refine blk_alloc ?_ _)); refine blk_put (cs := #[.string (strOfNums y266), .string (⟨#[]⟩ : ByteArray), .bool false, .int .i64 1, .int .i64 0, .int .i64 0]) ?_ 5 _ rfl; (with_reducible repeat (first | refine blk_drewN ?_ _ | refine blk_drew ?_ | refine blk_alloc ?_ _)); refine blk_put (cs := #[.string (strOfNums y266), .string (⟨#[]⟩ : ByteArray), .bool false, .int .i64 1, .int .i64 0, .int .i64 0]) ?_ 4 _ rfl; (with_reducible repeat (first | refine blk_drewN ?_ _ | refine blk_drew ?_ | refine blk_alloc ?_ _)); refine blk_put (cs := #[.string (strOfNums y266), .string (⟨#[]⟩ : ByteArray), .bool false, .int .i64 0, .int .i64 0, .int .i64 0]) ?_ 3 _ rfl; (with_reducible repeat (first | refine blk_drewN ?_ _ | refine blk_drew ?_ | refine blk_alloc ?_ _)); refine blk_put (cs := #[.string (strOfNums y266), .string (⟨#[]⟩ : ByteArray), .bool false, .int .i64 0, .int .i64 0, .int .i64 0]) ?_ 2 _ rfl; (with_reducible repeat (first | refine blk_drewN ?_ _ | refine blk_drew ?_ | refine blk_alloc ?_ _)); refine blk_put (cs := #[.string (strOfNums y266), .string (⟨#[]⟩ : ByteArray), .bool false, .int .i64 0, .int .i64 0, .int .i64 0]) ?_ 1 _ rfl; (with_reducible repeat (first | refine blk_drewN ?_ _ | refine blk_drew ?_ | refine blk_alloc ?_ _)); refine blk_put (cs := #[.string (⟨#[]⟩ : ByteArray), .string (⟨#[]⟩ : ByteArray), .bool false, .int .i64 0, .int .i64 0, .int .i64 0]) ?_ 0 _ rfl; (with_reducible repeat (first | refine blk_drewN ?_ _ | refine blk_drew ?_ | refine blk_alloc ?_ _)); exact BK269.out) k_ hk)); (case aO => exact (by (with_reducible repeat (first | apply Kd.R_alloc | apply Kd.R_drewN | apply Kd.R_drew)); exact Kd.R_mono (Kd.R_far (p := ⟨gb269, 5, none⟩) (Kd.R_far (p := ⟨gb269, 4, none⟩) (Kd.R_far (p := ⟨gb269, 3, none⟩) (Kd.R_far (p := ⟨gb269, 2, none⟩) (Kd.R_far (p := ⟨gb269, 1, none⟩) (Kd.R_far (p := ⟨gb269, 0, none⟩) (Kd.R_mono HO_7.out (fun k_ hk => (⟨hk, hk.2⟩ : _ ∧ k_ ≠ gb269))) (fun _ hk => hk.2) (.string (strOfNums y266))) (fun _ hk => hk.2) (.string (⟨#[]⟩ : ByteArray))) (fun _ hk => hk.2) (.bool false)) (fun _ hk => hk.2) (.int .i64 1)) (fun _ hk => hk.2) (.int .i64 0)) (fun _ hk => hk.2) (.int .i64 1)) (fun _ hk => hk.1.2))); (case aS => exact (below_size (by repeat (first | (with_reducible first | exact HB.out | apply below_alloc | apply pw_below_drewN | apply below_drew1 | refine below_set ?_ GE269.out) | exact HB.out)))); (case aL => have := LMc26.out; omega); intro v277 w32 ho hb hg hat; rw [← Ny276.out] at ho; have n0_ := Aside0.mk (Kd.R_over' (by (with_reducible repeat (first | apply Kd.R_alloc | apply Kd.R_drewN | apply Kd.R_drew)); exact (Kd.R_mono (Kd.R_far (p := ⟨gb269, 5, none⟩) (Kd.R_far (p := ⟨gb269, 4, none⟩) (Kd.R_far (p := ⟨gb269, 3, none⟩) (Kd.R_far (p := ⟨gb269, 2, none⟩) (Kd.R_far (p := ⟨gb269, 1, none⟩) (Kd.R_far (p := ⟨gb269, 0, none⟩) (Kd.R_types HO268.out BK269.out (by decide)) (fun _ hk => hk.2) (.string (strOfNums y266))) (fun _ hk => hk.2) (.string (⟨#[]⟩ : ByteArray))) (fun _ hk => hk.2) (.bool false)) (fun _ hk => hk.2) (.int .i64 1)) (fun _ hk => hk.2) (.int .i64 0)) (fun _ hk => hk.2) (.int .i64 1)) (fun _ h_ => h_.1))) (Kd.R_typed (by (with_reducible repeat (first | apply Kd.R_alloc | apply Kd.R_drewN | apply Kd.R_drew)); exact (Kd.R_mono (Kd.R_far (p := ⟨gb269, 5, none⟩) (Kd.R_far (p := ⟨gb269, 4, none⟩) (Kd.R_far (p := ⟨gb269, 3, none⟩) (Kd.R_far (p := ⟨gb269, 2, none⟩) (Kd.R_far (p := ⟨gb269, 1, none⟩) (Kd.R_far (p := ⟨gb269, 0, none⟩) (Kd.R_mono HO_7.out (fun k_ hk => (⟨hk, hk.2⟩ : _ ∧ k_ ≠ gb269))) (fun _ hk => hk.2) (.string (strOfNums y266))) (fun _ hk => hk.2) (.string (⟨#[]⟩ : ByteArray))) (fun _ hk => hk.2) (.bool false)) (fun _ hk => hk.2) (.int .i64 1)) (fun _ hk => hk.2) (.int .i64 0)) (fun _ hk => hk.2) (.int .i64 1)) (fun _ h_ => h_.1)))) (by decide) hg); have n1_ := Aside0.mk (blk_grown (g := gb269) (o := .cells #[.string (strOfNums y266), .string (⟨#[]⟩ : ByteArray), .bool false, .int .i64 1, .int .i64 0, .int .i64 1] 35 (0, 0)) (by (with_reducible repeat (first | refine blk_drewN ?_ _ | refine blk_drew ?_ | refine blk_alloc ?_ _)); refine blk_put (cs := #[.string (strOfNums y266), .string (⟨#[]⟩ : ByteArray), .bool false, .int .i64 1, .int .i64 0, .int .i64 0]) ?_ 5 _ rfl; (with_reducible repeat (first | refine blk_drewN ?_ _ | refine blk_drew ?_ | refine blk_alloc ?_ _)); refine blk_put (cs := #[.string (strOfNums y266), .string (⟨#[]⟩ : ByteArray), .bool false, .int .i64 1, .int .i64 0, .int .i64 0]) ?_ 4 _ rfl; (with_reducible repeat (first | refine blk_drewN ?_ _ | refine blk_drew ?_ | refine blk_alloc ?_ _)); refine blk_put (cs := #[.string (strOfNums y266), .string (⟨#[]⟩ : ByteArray), .bool false, .int .i64 0, .int .i64 0, .int .i64 0]) ?_ 3 _ rfl; (with_reducible repeat (first | refine blk_drewN ?_ _ | refine blk_drew ?_ | refine blk_alloc ?_ _)); refine blk_put (cs := #[.string (strOfNums y266), .string (⟨#[]⟩ : ByteArray), .bool false, .int .i64 0, .int .i64 0, .int .i64 0]) ?_ 2 _ rfl; (with_reducible repeat (first | refine blk_drewN ?_ _ | refine blk_drew ?_ | refine blk_alloc ?_ _)); refine blk_put (cs := #[.string (strOfNums y266), .string (⟨#[]⟩ : ByteArray), .bool false, .int .i64 0, .int .i64 0, .int .i64 0]) ?_ 1 _ rfl; (with_reducible repeat (first | refine blk_drewN ?_ _ | refine blk_drew ?_ | refine blk_alloc ?_ _)); refine blk_put (cs := #[.string (⟨#[]⟩ : ByteArray), .string (⟨#[]⟩ : ByteArray), .bool false, .int .i64 0, .int .i64 0, .int .i64 0]) ?_ 0 _ rfl; (with_reducible repeat (first | refine blk_drewN ?_ _ | refine blk_drew ?_ | refine blk_alloc ?_ _)); exact BK269.out) hg (Kd.R_away HO_7.out (fun _ hk => hk.2))); have n2_ := Aside0.mk (hb); have n3_ := Aside0.mk (ho); clear HO268; clear BK269; clear HB; clear HO_7; have HO268 := n0_; have BK269 := n1_; have HB := n2_; have HO278 := n3_; clear n0_ n1_ n2_ n3_; clear ho hb hg hat))
                  go_roundg k2
                  case measure => have := HJ3.out; have := HK2.out; omega
                  case rel => exact ⟨(y276), (wrap64 (x8_2 + 1)), (by first | rfl | (simp; done) | (simp [*]; done)), H', ⟨by have := HJ3.out; have := HK2.out; omega⟩, ⟨by (with_reducible repeat (first | apply Kd.R_alloc | apply Kd.R_drewN | apply Kd.R_drew)); exact Kd.R_mono HO278.out (fun _ hk => trivial)⟩, ⟨by repeat (first | (with_reducible first | exact HB.out | apply below_alloc | apply pw_below_drewN | apply below_drew1 | refine below_set ?_ GE269.out) | exact HB.out)⟩⟩
                · rw [if_neg c26] at H
                  exact absurd H (by simp)
            · rw [if_neg c13] at H
              have c13b0 : decide (x8_2 < a0) = false := decide_eq_false c13
              clear c13
              replace H := Option.bind_eq_some_iff.mp H
              obtain ⟨⟨t279, t280⟩, A330, H⟩ := H
              replace H : (if t279 = (-1) then (if t280 = 0 then (if 0 ≤ a2 then (if a2 < (x7_2.length : Int) then ((style_Run.f x7_2 ((rd_T35 x7_2 a2).f0) (⟨#[]⟩ : ByteArray) 0 0).bind fun t282 => (if t282 = 1 then ((style_Level.f x7_2 ((rd_T35 x7_2 a2).f0)).bind fun t284 => (rubricatorlaw14_StyleRings.j2 k2 a0 a1 a2 x7_2 (t284 == 1))) else (rubricatorlaw14_StyleRings.j2 k2 a0 a1 a2 x7_2 false))) else (none)) else (none)) else (rubricatorlaw14_StyleRings.j2 k2 a0 a1 a2 x7_2 false)) else (rubricatorlaw14_StyleRings.j2 k2 a0 a1 a2 x7_2 false)) = some r := H
              have A33 := Aside0.mk A330
              clear A330
              have HC34 := Aside0.mk H
              clear H
              obtain ⟨Ao35, co35, eo35⟩ := Kd.R_slice HO_7.out
              subst eo35
              go_upto_region 12 with (first | ((with_reducible refine gate_callee (f := 9) rfl ?_); refine goesL_ (some 68) rfl rfl Tryd.func9 (by kernel_rfl) rfl #[.slice Ao35 x7_2.length co35] rfl (by (try simp only [List.map_toArray, List.map_cons, List.map_nil]); first | done | rfl | (simp only [List.length_drop, List.length_take]; rfl)) ?_; (with_reducible refine (style_Check.calls _ _ x7_2 t279 t280 _ ?side1 ?side2 A33.out).mono ?_); (case side1 => repeat (first | exact (Kd.R_reads' HO_7.out).2.2 | (with_reducible refine Kd.C_alloc ?_ _) | (with_reducible refine Kd.C_drewN ?_ _) | (with_reducible refine Kd.C_drew ?_))); (case side2 => exact (Kd.R_reads' HO_7.out).2.1); rintro e w36 ⟨rfl, hb⟩; refine ⟨_, rfl, ?_⟩; have n0_ := Aside0.mk (Kd.R_below (by (with_reducible repeat (first | apply Kd.R_alloc | apply Kd.R_drewN | apply Kd.R_drew)); exact HO_7.out) hb); have n1_ := Aside0.mk (below_step (by repeat (first | (with_reducible first | exact HB.out | apply below_alloc | apply pw_below_drewN | apply below_drew1) | exact HB.out)) hb); clear HO_7; clear HB; have HO_7 := n0_; have HB := n1_; clear n0_ n1_; (try clear hb); (try clear hb2); (try clear hk); (try clear hi)))
              (try simp only [Act.put, List.setIfInBounds_toArray, List.set_cons_zero, List.set_cons_succ])
              go_cut [12] (fun v12 wc => ∃ (kq : Nat) (x12_33 : Bool), v12 = .bool x12_33 ∧ Aside0 (rubricatorlaw14_StyleRings.j2 kq a0 a1 a2 x7_2 x12_33 = some r) ∧ Aside0 (kq ≤ k2) ∧ Aside0 (Kd.R k35 35 wc w.heap.size (fun _ => True) (.slice Ao35 x7_2.length co35) x7_2) ∧ Aside0 (Below w.heap.size w wc))
              case first =>
                have H := HC34.out
                clear HC34
                by_cases c37 : t279 = (-1)
                · rw [if_pos c37] at H
                  have c37b0 : (t279 == (-1)) = true := beq_iff_eq.mpr c37
                  have c37b1 : (t279 != (-1)) = false := bne_eq_false_iff_eq.mpr c37
                  clear c37
                  (first | rw [c37b0] | (simp only [i64_w, i32_w]; rw [c37b0]) | skip)
                  by_cases c38 : t280 = 0
                  · rw [if_pos c38] at H
                    have c38b0 : (t280 == 0) = true := beq_iff_eq.mpr c38
                    have c38b1 : (t280 != 0) = false := bne_eq_false_iff_eq.mpr c38
                    clear c38
                    by_cases c39 : 0 ≤ a2
                    · rw [if_pos c39] at H
                      have c39b0 : decide (0 ≤ a2) = true := decide_eq_true c39
                      clear c39
                      by_cases c40 : a2 < (x7_2.length : Int)
                      · rw [if_pos c40] at H
                        have c40b0 : decide (a2 < (x7_2.length : Int)) = true := decide_eq_true c40
                        clear c40
                        replace H := Option.bind_eq_some_iff.mp H
                        obtain ⟨t282, A410, H⟩ := H
                        replace H : (if t282 = 1 then ((style_Level.f x7_2 ((rd_T35 x7_2 a2).f0)).bind fun t284 => (rubricatorlaw14_StyleRings.j2 k2 a0 a1 a2 x7_2 (t284 == 1))) else (rubricatorlaw14_StyleRings.j2 k2 a0 a1 a2 x7_2 false)) = some r := H
                        have A41 := Aside0.mk A410
                        clear A410
                        by_cases c42 : t282 = 1
                        · rw [if_pos c42] at H
                          have c42b0 : (t282 == 1) = true := beq_iff_eq.mpr c42
                          have c42b1 : (t282 != 1) = false := bne_eq_false_iff_eq.mpr c42
                          clear c42
                          replace H := Option.bind_eq_some_iff.mp H
                          obtain ⟨t284, A430, H⟩ := H
                          replace H : (rubricatorlaw14_StyleRings.j2 k2 a0 a1 a2 x7_2 (t284 == 1)) = some r := H
                          have A43 := Aside0.mk A430
                          clear A430
                          have H' := Aside0.mk H
                          clear H
                          have p281 : 0 ≤ (a2 : Int) := of_decide_eq_true (by first | (with_reducible assumption) | assumption)
                          have q281 : a2 < (x7_2.length : Int) := of_decide_eq_true (by first | (with_reducible assumption) | assumption)
                          obtain ⟨ad281, e281, hx281_0, hx281_1, hx281_2, hx281_3, hx281_4, hx281_5⟩ := at_T35 (Kd.R_reads' HO_7.out).2.2 a2 p281 q281
                          cases e281
                          replace p281 := eq_true p281
                          replace q281 := eq_true q281
                          go_wp2_with (first | ((first | ((with_reducible refine gate_callee (f := 17) rfl ?_); (with_reducible refine gate_dst (N := 84) rfl ?_); refine gate_guard (by rfl) ?_; dsimp only; refine goesL_ (some 84) rfl rfl Tryd.func17 (by kernel_rfl) rfl #[.slice (some ad281) x7_2.length co35, .string ((rd_T35 x7_2 a2).f0), .string (⟨#[]⟩ : ByteArray), .int .i64 0, .int .i64 0] rfl (by (try simp only [List.map_toArray, List.map_cons, List.map_nil]); first | done | rfl | (simp only [List.length_drop, List.length_take]; rfl)) ?_; (with_reducible refine (style_Run.calls _ _ x7_2 ((rd_T35 x7_2 a2).f0) (⟨#[]⟩ : ByteArray) 0 0 t282 _ ?side1 ?side2 A41.out).mono ?_); (case side1 => repeat (first | exact (Kd.R_reads' HO_7.out).2.2 | (with_reducible refine Kd.C_alloc ?_ _) | (with_reducible refine Kd.C_drewN ?_ _) | (with_reducible refine Kd.C_drew ?_))); (case side2 => exact (Kd.R_reads' HO_7.out).2.1); rintro e w44 ⟨rfl, hb⟩; refine ⟨_, rfl, ?_⟩) | (go_at_call 17; (with_reducible refine (style_Run.calls _ _ x7_2 ((rd_T35 x7_2 a2).f0) (⟨#[]⟩ : ByteArray) 0 0 t282 _ ?side1 ?side2 A41.out).mono ?_); (case side1 => repeat (first | exact (Kd.R_reads' HO_7.out).2.2 | (with_reducible refine Kd.C_alloc ?_ _) | (with_reducible refine Kd.C_drewN ?_ _) | (with_reducible refine Kd.C_drew ?_))); (case side2 => exact (Kd.R_reads' HO_7.out).2.1); rintro e w44 ⟨rfl, hb⟩)); have n0_ := Aside0.mk (Kd.R_below (by (with_reducible repeat (first | apply Kd.R_alloc | apply Kd.R_drewN | apply Kd.R_drew)); exact HO_7.out) hb); have n1_ := Aside0.mk (below_step (by repeat (first | (with_reducible first | exact HB.out | apply below_alloc | apply pw_below_drewN | apply below_drew1) | exact HB.out)) hb); clear HO_7; clear HB; have HO_7 := n0_; have HB := n1_; clear n0_ n1_; (try clear hb); (try clear hb2); (try clear hk); (try clear hi); have p283 : 0 ≤ (a2 : Int) := of_decide_eq_true (by first | (with_reducible assumption) | assumption); have q283 : a2 < (x7_2.length : Int) := of_decide_eq_true (by first | (with_reducible assumption) | assumption); obtain ⟨ad283, e283, hx283_0, hx283_1, hx283_2, hx283_3, hx283_4, hx283_5⟩ := at_T35 (Kd.R_reads' HO_7.out).2.2 a2 p283 q283; obtain rfl : ad281 = ad283 := (by injection e283); replace p283 := eq_true p283; replace q283 := eq_true q283) | ((first | ((with_reducible refine gate_callee (f := 15) rfl ?_); (with_reducible refine gate_dst (N := 94) rfl ?_); refine gate_guard (by rfl) ?_; dsimp only; refine goesL_ (some 94) rfl rfl Tryd.func15 (by kernel_rfl) rfl #[.slice (some ad281) x7_2.length co35, .string ((rd_T35 x7_2 a2).f0)] rfl (by (try simp only [List.map_toArray, List.map_cons, List.map_nil]); first | done | rfl | (simp only [List.length_drop, List.length_take]; rfl)) ?_; (with_reducible refine (style_Level.calls _ _ x7_2 ((rd_T35 x7_2 a2).f0) t284 _ ?side1 ?side2 A43.out).mono ?_); (case side1 => repeat (first | exact (Kd.R_reads' HO_7.out).2.2 | (with_reducible refine Kd.C_alloc ?_ _) | (with_reducible refine Kd.C_drewN ?_ _) | (with_reducible refine Kd.C_drew ?_))); (case side2 => exact (Kd.R_reads' HO_7.out).2.1); rintro e w45 ⟨rfl, hb⟩; refine ⟨_, rfl, ?_⟩) | (go_at_call 15; (with_reducible refine (style_Level.calls _ _ x7_2 ((rd_T35 x7_2 a2).f0) t284 _ ?side1 ?side2 A43.out).mono ?_); (case side1 => repeat (first | exact (Kd.R_reads' HO_7.out).2.2 | (with_reducible refine Kd.C_alloc ?_ _) | (with_reducible refine Kd.C_drewN ?_ _) | (with_reducible refine Kd.C_drew ?_))); (case side2 => exact (Kd.R_reads' HO_7.out).2.1); rintro e w45 ⟨rfl, hb⟩)); have n0_ := Aside0.mk (Kd.R_below (by (with_reducible repeat (first | apply Kd.R_alloc | apply Kd.R_drewN | apply Kd.R_drew)); exact HO_7.out) hb); have n1_ := Aside0.mk (below_step (by repeat (first | (with_reducible first | exact HB.out | apply below_alloc | apply pw_below_drewN | apply below_drew1) | exact HB.out)) hb); clear HO_7; clear HB; have HO_7 := n0_; have HB := n1_; clear n0_ n1_; (try clear hb); (try clear hb2); (try clear hk); (try clear hi)))
                          go_meet
                          case rel => exact ⟨_, ((t284 == 1)), (by first | rfl | (simp; done) | (simp [*]; done)), H', ⟨by have := HJ3.out; have := HK2.out; first | omega | exact Nat.le_refl _⟩, ⟨by (with_reducible repeat (first | apply Kd.R_alloc | apply Kd.R_drewN | apply Kd.R_drew)); exact HO_7.out⟩, ⟨by repeat (first | (with_reducible first | exact HB.out | apply below_alloc | apply pw_below_drewN | apply below_drew1) | exact HB.out)⟩⟩
                        · rw [if_neg c42] at H
                          have c42b0 : (t282 == 1) = false := beq_eq_false_iff_ne.mpr c42
                          have c42b1 : (t282 != 1) = true := bne_iff_ne.mpr c42
                          have H' := Aside0.mk H
                          clear H
                          have p281 : 0 ≤ (a2 : Int) := of_decide_eq_true (by first | (with_reducible assumption) | assumption)
                          have q281 : a2 < (x7_2.length : Int) := of_decide_eq_true (by first | (with_reducible assumption) | assumption)
                          obtain ⟨ad281, e281, hx281_0, hx281_1, hx281_2, hx281_3, hx281_4, hx281_5⟩ := at_T35 (Kd.R_reads' HO_7.out).2.2 a2 p281 q281
                          cases e281
                          replace p281 := eq_true p281
                          replace q281 := eq_true q281
                          go_wp2_with (first | ((first | ((with_reducible refine gate_callee (f := 17) rfl ?_); (with_reducible refine gate_dst (N := 84) rfl ?_); refine gate_guard (by rfl) ?_; dsimp only; refine goesL_ (some 84) rfl rfl Tryd.func17 (by kernel_rfl) rfl #[.slice (some ad281) x7_2.length co35, .string ((rd_T35 x7_2 a2).f0), .string (⟨#[]⟩ : ByteArray), .int .i64 0, .int .i64 0] rfl (by (try simp only [List.map_toArray, List.map_cons, List.map_nil]); first | done | rfl | (simp only [List.length_drop, List.length_take]; rfl)) ?_; (with_reducible refine (style_Run.calls _ _ x7_2 ((rd_T35 x7_2 a2).f0) (⟨#[]⟩ : ByteArray) 0 0 t282 _ ?side1 ?side2 A41.out).mono ?_); (case side1 => repeat (first | exact (Kd.R_reads' HO_7.out).2.2 | (with_reducible refine Kd.C_alloc ?_ _) | (with_reducible refine Kd.C_drewN ?_ _) | (with_reducible refine Kd.C_drew ?_))); (case side2 => exact (Kd.R_reads' HO_7.out).2.1); rintro e w46 ⟨rfl, hb⟩; refine ⟨_, rfl, ?_⟩) | (go_at_call 17; (with_reducible refine (style_Run.calls _ _ x7_2 ((rd_T35 x7_2 a2).f0) (⟨#[]⟩ : ByteArray) 0 0 t282 _ ?side1 ?side2 A41.out).mono ?_); (case side1 => repeat (first | exact (Kd.R_reads' HO_7.out).2.2 | (with_reducible refine Kd.C_alloc ?_ _) | (with_reducible refine Kd.C_drewN ?_ _) | (with_reducible refine Kd.C_drew ?_))); (case side2 => exact (Kd.R_reads' HO_7.out).2.1); rintro e w46 ⟨rfl, hb⟩)); have n0_ := Aside0.mk (Kd.R_below (by (with_reducible repeat (first | apply Kd.R_alloc | apply Kd.R_drewN | apply Kd.R_drew)); exact HO_7.out) hb); have n1_ := Aside0.mk (below_step (by repeat (first | (with_reducible first | exact HB.out | apply below_alloc | apply pw_below_drewN | apply below_drew1) | exact HB.out)) hb); clear HO_7; clear HB; have HO_7 := n0_; have HB := n1_; clear n0_ n1_; (try clear hb); (try clear hb2); (try clear hk); (try clear hi)))
                          go_meet
                          case rel => exact ⟨_, (false), (by first | rfl | (simp; done) | (simp [*]; done)), H', ⟨by have := HJ3.out; have := HK2.out; first | omega | exact Nat.le_refl _⟩, ⟨by (with_reducible repeat (first | apply Kd.R_alloc | apply Kd.R_drewN | apply Kd.R_drew)); exact HO_7.out⟩, ⟨by repeat (first | (with_reducible first | exact HB.out | apply below_alloc | apply pw_below_drewN | apply below_drew1) | exact HB.out)⟩⟩
                      · rw [if_neg c40] at H
                        exact absurd H (by simp)
                    · rw [if_neg c39] at H
                      exact absurd H (by simp)
                  · rw [if_neg c38] at H
                    have c38b0 : (t280 == 0) = false := beq_eq_false_iff_ne.mpr c38
                    have c38b1 : (t280 != 0) = true := bne_iff_ne.mpr c38
                    have H' := Aside0.mk H
                    clear H
                    go_wp2
                    go_meet
                    case rel => exact ⟨_, (false), (by first | rfl | (simp; done) | (simp [*]; done)), H', ⟨by have := HJ3.out; have := HK2.out; first | omega | exact Nat.le_refl _⟩, ⟨by (with_reducible repeat (first | apply Kd.R_alloc | apply Kd.R_drewN | apply Kd.R_drew)); exact HO_7.out⟩, ⟨by repeat (first | (with_reducible first | exact HB.out | apply below_alloc | apply pw_below_drewN | apply below_drew1) | exact HB.out)⟩⟩
                · rw [if_neg c37] at H
                  have c37b0 : (t279 == (-1)) = false := beq_eq_false_iff_ne.mpr c37
                  have c37b1 : (t279 != (-1)) = true := bne_iff_ne.mpr c37
                  (first | rw [c37b0] | (simp only [i64_w, i32_w]; rw [c37b0]) | skip)
                  have H' := Aside0.mk H
                  clear H
                  go_wp2
                  go_meet
                  case rel => exact ⟨_, (false), (by first | rfl | (simp; done) | (simp [*]; done)), H', ⟨by have := HJ3.out; have := HK2.out; first | omega | exact Nat.le_refl _⟩, ⟨by (with_reducible repeat (first | apply Kd.R_alloc | apply Kd.R_drewN | apply Kd.R_drew)); exact HO_7.out⟩, ⟨by repeat (first | (with_reducible first | exact HB.out | apply below_alloc | apply pw_below_drewN | apply below_drew1) | exact HB.out)⟩⟩
              case rest =>
                clear HC34
                try clear c1
                try clear hcv1
                try clear c2
                try clear p2
                try clear q2
                try clear hx2
                try clear hcv2
                try clear c3
                try clear c4
                try clear c5
                try clear c5b0
                try clear c6
                try clear c6b0
                try clear p6
                try clear c7
                try clear c7b0
                try clear c8
                try clear c8b0
                try clear c9
                try clear c9b0
                try clear c10
                try clear c12
                try clear c13
                try clear c13b0
                try clear c14
                try clear c14b0
                try clear c15
                try clear c17
                try clear hcv18
                try clear hcv23
                try clear c26
                try clear p28
                try clear q28
                try clear hx28
                try clear hcv29
                try clear c37
                try clear c37b0
                try clear c37b1
                try clear c38
                try clear c38b0
                try clear c38b1
                try clear c39
                try clear c39b0
                try clear c40
                try clear c40b0
                try clear c42
                try clear c42b0
                try clear c42b1
                try clear hcz20_0
                try clear hcz20_1
                try clear hcz20_2
                try clear hcz20_3
                try clear hcz20_4
                try clear hcz20_5
                try clear hcz24_0
                try clear hcz24_1
                try clear hcz24_2
                try clear hcz24_3
                try clear hcz24_4
                try clear hcz24_5
                try clear hcz31_0
                try clear hcz31_1
                try clear hcz31_2
                try clear hcz31_3
                try clear hcz31_4
                try clear hcz31_5
                try clear hfz20_0
                try clear hfz20_1
                try clear hfz20_2
                try clear hfz20_3
                try clear hfz20_4
                try clear hfz20_5
                try clear hfz24_0
                try clear hfz24_1
                try clear hfz24_2
                try clear hfz24_3
                try clear hfz24_4
                try clear hfz24_5
                try clear hfz31_0
                try clear hfz31_1
                try clear hfz31_2
                try clear hfz31_3
                try clear hfz31_4
                try clear hfz31_5
                try clear hx281_0
                try clear hx281_1
                try clear hx281_2
                try clear hx281_3
                try clear hx281_4
                try clear hx281_5
                try clear hx283_0
                try clear hx283_1
                try clear hx283_2
                try clear hx283_3
                try clear hx283_4
                try clear hx283_5
                try clear p2
                try clear p281
                try clear p283
                try clear q281
                try clear q283
                obtain ⟨kq, x12_33, rfl, HA, HJ33, HO_7, HB⟩ := hcut
                cases kq with
                | zero => exact absurd HA.out (by simp [rubricatorlaw14_StyleRings.j2])
                | succ kj33 =>
                  have H := HA.out
                  clear HA
                  simp only [rubricatorlaw14_StyleRings.j2] at H
                  by_cases c47 : 0 ≤ a1
                  · rw [if_pos c47] at H
                    have c47b0 : decide (0 ≤ a1) = true := decide_eq_true c47
                    clear c47
                    by_cases c48 : a1 < (x7_2.length : Int)
                    · rw [if_pos c48] at H
                      have c48b0 : decide (a1 < (x7_2.length : Int)) = true := decide_eq_true c48
                      clear c48
                      obtain ⟨ji49, hji49⟩ : ∃ j_ : Int, (wrap64 (a0 - 1)) = j_ := ⟨_, rfl⟩
                      replace H : (if 0 ≤ (ji49) then (if (ji49) < (x7_2.length : Int) then ((some (x7_2.set ((ji49) : Int).toNat (⟨(rd_T35 x7_2 (ji49)).f0, (rd_T35 x7_2 a1).f0, (rd_T35 x7_2 (ji49)).f2, (rd_T35 x7_2 (ji49)).f3, (rd_T35 x7_2 (ji49)).f4, (rd_T35 x7_2 (ji49)).f5⟩ : S35) : List (S35))).bind fun y286 => ((style_Check.f y286).bind fun bt287 => (if x12_33 = true then (if bt287.1 = a1 then (if bt287.2 = 16 then (if 0 ≤ a2 then (if a2 < (x7_2.length : Int) then ((style_Run.f y286 ((rd_T35 y286 a2).f0) (⟨#[]⟩ : ByteArray) 0 0).bind fun t290 => (if t290 = 0 then ((style_Level.f y286 ((rd_T35 y286 a2).f0)).bind fun t292 => (if t292 = 0 then ((rubricatorlaw14_known.f kj33).bind fun t293 => (some t293)) else (some false))) else (some false))) else (none)) else (none)) else (some false)) else (some false)) else (some false)))) else (none)) else (none)) = some r := by first | (rw [hji49] at H; exact H) | (simp only [hji49] at H ⊢; exact H)
                      have hji49w : (IntKind.i64.wrap (a0 - 1)) = ji49 := (i64_w _).trans hji49
                      by_cases c50 : 0 ≤ (ji49)
                      · rw [if_pos c50] at H
                        have c50b0 : decide (0 ≤ (ji49)) = true := decide_eq_true c50
                        clear c50
                        by_cases c51 : (ji49) < (x7_2.length : Int)
                        · rw [if_pos c51] at H
                          have c51b0 : decide ((ji49) < (x7_2.length : Int)) = true := decide_eq_true c51
                          clear c51
                          obtain ⟨y286, hy286⟩ : ∃ y_ : List (S35), y_ = (x7_2.set ((ji49) : Int).toNat (⟨(rd_T35 x7_2 (ji49)).f0, (rd_T35 x7_2 a1).f0, (rd_T35 x7_2 (ji49)).f2, (rd_T35 x7_2 (ji49)).f3, (rd_T35 x7_2 (ji49)).f4, (rd_T35 x7_2 (ji49)).f5⟩ : S35)) := ⟨_, rfl⟩
                          replace H : ((style_Check.f y286).bind fun bt287 => (if x12_33 = true then (if bt287.1 = a1 then (if bt287.2 = 16 then (if 0 ≤ a2 then (if a2 < (x7_2.length : Int) then ((style_Run.f y286 ((rd_T35 y286 a2).f0) (⟨#[]⟩ : ByteArray) 0 0).bind fun t290 => (if t290 = 0 then ((style_Level.f y286 ((rd_T35 y286 a2).f0)).bind fun t292 => (if t292 = 0 then ((rubricatorlaw14_known.f kj33).bind fun t293 => (some t293)) else (some false))) else (some false))) else (none)) else (none)) else (some false)) else (some false)) else (some false))) = some r := by first | (rw [hy286]; with_reducible exact H) | (have H2_ := (Option.bind_some _ _).symm.trans H; rw [hy286]; with_reducible exact H2_) | (have H2_ := (Option.bind_some _ _).symm.trans H; with_reducible exact H2_) | with_reducible exact H | (rw [hy286]; exact H) | exact H
                          have Ny286 := Aside0.mk hy286
                          clear hy286
                          replace H := Option.bind_eq_some_iff.mp H
                          obtain ⟨⟨t287, t288⟩, A530, H⟩ := H
                          replace H : (if x12_33 = true then (if t287 = a1 then (if t288 = 16 then (if 0 ≤ a2 then (if a2 < (x7_2.length : Int) then ((style_Run.f y286 ((rd_T35 y286 a2).f0) (⟨#[]⟩ : ByteArray) 0 0).bind fun t290 => (if t290 = 0 then ((style_Level.f y286 ((rd_T35 y286 a2).f0)).bind fun t292 => (if t292 = 0 then ((rubricatorlaw14_known.f kj33).bind fun t293 => (some t293)) else (some false))) else (some false))) else (none)) else (none)) else (some false)) else (some false)) else (some false)) = some r := H
                          have A53 := Aside0.mk A530
                          clear A530
                          by_cases c54 : x12_33 = true
                          · subst c54
                            have H1 : (if t287 = a1 then (if t288 = 16 then (if 0 ≤ a2 then (if a2 < (x7_2.length : Int) then ((style_Run.f y286 ((rd_T35 y286 a2).f0) (⟨#[]⟩ : ByteArray) 0 0).bind fun t290 => (if t290 = 0 then ((style_Level.f y286 ((rd_T35 y286 a2).f0)).bind fun t292 => (if t292 = 0 then ((rubricatorlaw14_known.f kj33).bind fun t293 => (some t293)) else (some false))) else (some false))) else (none)) else (none)) else (some false)) else (some false)) = some r := by rw [if_pos rfl] at H; exact H
                            clear H
                            have H := H1
                            clear H1
                            by_cases c55 : t287 = a1
                            · rw [if_pos c55] at H
                              have c55b0 : (t287 == a1) = true := beq_iff_eq.mpr c55
                              have c55b1 : (t287 != a1) = false := bne_eq_false_iff_eq.mpr c55
                              clear c55
                              by_cases c56 : t288 = 16
                              · rw [if_pos c56] at H
                                have c56b0 : (t288 == 16) = true := beq_iff_eq.mpr c56
                                have c56b1 : (t288 != 16) = false := bne_eq_false_iff_eq.mpr c56
                                clear c56
                                by_cases c57 : 0 ≤ a2
                                · rw [if_pos c57] at H
                                  have c57b0 : decide (0 ≤ a2) = true := decide_eq_true c57
                                  clear c57
                                  by_cases c58 : a2 < (x7_2.length : Int)
                                  · rw [if_pos c58] at H
                                    have c58b0 : decide (a2 < (x7_2.length : Int)) = true := decide_eq_true c58
                                    clear c58
                                    replace H := Option.bind_eq_some_iff.mp H
                                    obtain ⟨t290, A590, H⟩ := H
                                    replace H : (if t290 = 0 then ((style_Level.f y286 ((rd_T35 y286 a2).f0)).bind fun t292 => (if t292 = 0 then ((rubricatorlaw14_known.f kj33).bind fun t293 => (some t293)) else (some false))) else (some false)) = some r := H
                                    have A59 := Aside0.mk A590
                                    clear A590
                                    by_cases c60 : t290 = 0
                                    · rw [if_pos c60] at H
                                      have c60b0 : (t290 == 0) = true := beq_iff_eq.mpr c60
                                      have c60b1 : (t290 != 0) = false := bne_eq_false_iff_eq.mpr c60
                                      clear c60
                                      replace H := Option.bind_eq_some_iff.mp H
                                      obtain ⟨t292, A610, H⟩ := H
                                      replace H : (if t292 = 0 then ((rubricatorlaw14_known.f kj33).bind fun t293 => (some t293)) else (some false)) = some r := H
                                      have A61 := Aside0.mk A610
                                      clear A610
                                      by_cases c62 : t292 = 0
                                      · rw [if_pos c62] at H
                                        have c62b0 : (t292 == 0) = true := beq_iff_eq.mpr c62
                                        have c62b1 : (t292 != 0) = false := bne_eq_false_iff_eq.mpr c62
                                        clear c62
                                        replace H := Option.bind_eq_some_iff.mp H
                                        obtain ⟨t293, A630, H⟩ := H
                                        replace H : (some t293) = some r := H
                                        have A63 := Aside0.mk A630
                                        clear A630
                                        obtain rfl := Option.some.inj H
                                        have p285 : 0 ≤ (a1 : Int) := of_decide_eq_true (by first | (with_reducible assumption) | assumption)
                                        have q285 : a1 < (x7_2.length : Int) := of_decide_eq_true (by first | (with_reducible assumption) | assumption)
                                        obtain ⟨ad285, e285, hx285_0, hx285_1, hx285_2, hx285_3, hx285_4, hx285_5⟩ := at_T35 (Kd.R_reads' HO_7.out).2.2 a1 p285 q285
                                        cases e285
                                        replace p285 := eq_true p285
                                        replace q285 := eq_true q285
                                        have p52 : 0 ≤ ((ji49) : Int) := of_decide_eq_true (by first | (with_reducible assumption) | assumption)
                                        have q52 : ((ji49) : Int) < ((x7_2.length : Int) : Int) := of_decide_eq_true (by first | (with_reducible assumption) | assumption)
                                        obtain ⟨go52, co52, eo52, gb52, gl52, cl52, HG52⟩ := Kd.R_form HO_7.out (by omega)
                                        (first | cases eo52 | (injection eo52 with ea_ en_ ec_; (first | subst ea_ | (injection ea_ with ea_; subst ea_)); subst ec_; clear en_))
                                        have GB52 := Aside0.mk gb52
                                        have GG52 := Aside0.mk HG52
                                        clear gb52 gl52 HG52
                                        (first | simp only [add_plain] at hx285_0 | skip)
                                        (first | simp only [add_plain] at hx285_1 | skip)
                                        (first | simp only [add_plain] at hx285_2 | skip)
                                        (first | simp only [add_plain] at hx285_3 | skip)
                                        (first | simp only [add_plain] at hx285_4 | skip)
                                        (first | simp only [add_plain] at hx285_5 | skip)
                                        obtain ⟨ce52, hcl52, hM52, hcc52, hfr52⟩ := Kd.R_elem HO_7.out z35 ((ji49) : Int) p52 q52
                                        obtain rfl := k35_openM hM52
                                        have hx52_0 : wc.cell? ⟨go52, ((ji49) : Int).toNat * 6, none⟩ = some (.string ((rd_T35 x7_2 (ji49)).f0)) := hcc52 0 _ rfl
                                        have hx52_1 : wc.cell? ⟨go52, ((ji49) : Int).toNat * 6 + 1, none⟩ = some (.string ((rd_T35 x7_2 (ji49)).f1)) := hcc52 1 _ rfl
                                        have hx52_2 : wc.cell? ⟨go52, ((ji49) : Int).toNat * 6 + 2, none⟩ = some (.bool ((rd_T35 x7_2 (ji49)).f2)) := hcc52 2 _ rfl
                                        have hx52_3 : wc.cell? ⟨go52, ((ji49) : Int).toNat * 6 + 3, none⟩ = some (.int .i64 ((rd_T35 x7_2 (ji49)).f3)) := hcc52 3 _ rfl
                                        have hx52_4 : wc.cell? ⟨go52, ((ji49) : Int).toNat * 6 + 4, none⟩ = some (.int .i64 ((rd_T35 x7_2 (ji49)).f4)) := hcc52 4 _ rfl
                                        have hx52_5 : wc.cell? ⟨go52, ((ji49) : Int).toNat * 6 + 5, none⟩ = some (.int .i64 ((rd_T35 x7_2 (ji49)).f5)) := hcc52 5 _ rfl
                                        have hf52_0 : wc.frozen? ⟨go52, ((ji49) : Int).toNat * 6, none⟩ = false := hfr52 0
                                        have hf52_1 : wc.frozen? ⟨go52, ((ji49) : Int).toNat * 6 + 1, none⟩ = false := hfr52 1
                                        have hf52_2 : wc.frozen? ⟨go52, ((ji49) : Int).toNat * 6 + 2, none⟩ = false := hfr52 2
                                        have hf52_3 : wc.frozen? ⟨go52, ((ji49) : Int).toNat * 6 + 3, none⟩ = false := hfr52 3
                                        have hf52_4 : wc.frozen? ⟨go52, ((ji49) : Int).toNat * 6 + 4, none⟩ = false := hfr52 4
                                        have hf52_5 : wc.frozen? ⟨go52, ((ji49) : Int).toNat * 6 + 5, none⟩ = false := hfr52 5
                                        clear hcl52 hcc52 hfr52 hM52
                                        replace p52 := eq_true p52
                                        replace q52 := eq_true q52
                                        have HX64 := Aside0.mk (show Kd.R k35 35 wc w.heap.size (fun _ => True) (.slice (some ⟨go52, 0, none⟩) x7_2.length co35) x7_2 from (by (with_reducible repeat (first | apply Kd.R_alloc | apply Kd.R_drewN | apply Kd.R_drew)); exact HO_7.out))
                                        obtain ⟨ce64, hcl64, hM64, hcc64, hfr64⟩ := Kd.R_elem HX64.out z35 ((ji49) : Int) (of_decide_eq_true (by first | (with_reducible assumption) | assumption)) (by have h_ : ((ji49) : Int) < ((x7_2.length : Int) : Int) := of_decide_eq_true (by first | (with_reducible assumption) | assumption); first | exact h_ | (have e_ := (Kd.R_reads' HO_7.out).1; omega) | simpa using h_)
                                        obtain rfl := k35_openM hM64
                                        have HP64 := Kd.R_seg HX64.out ((ji49) : Int) (of_decide_eq_true (by first | (with_reducible assumption) | assumption)) (by have h_ : ((ji49) : Int) < ((x7_2.length : Int) : Int) := of_decide_eq_true (by first | (with_reducible assumption) | assumption); first | exact h_ | (have e_ := (Kd.R_reads' HO_7.out).1; omega) | simpa using h_) (seg := [.string ((rd_T35 x7_2 a1).f0)]) (j := 1) hcl64 hcc64 (show 2 ≤ 6 from by decide) (x' := (⟨(rd_T35 x7_2 (ji49)).f0, (rd_T35 x7_2 a1).f0, (rd_T35 x7_2 (ji49)).f2, (rd_T35 x7_2 (ji49)).f3, (rd_T35 x7_2 (ji49)).f4, (rd_T35 x7_2 (ji49)).f5⟩ : S35)) (k35_mkM _ _ _ (⟨(rd_T35 x7_2 (ji49)).f0, (rd_T35 x7_2 a1).f0, (rd_T35 x7_2 (ji49)).f2, (rd_T35 x7_2 (ji49)).f3, (rd_T35 x7_2 (ji49)).f4, (rd_T35 x7_2 (ji49)).f5⟩ : S35) ) (fun _ hk => hk)
                                        have hx64_1 := hcc64 1 _ rfl
                                        (try simp only [show (k35).sz = 6 from rfl, Nat.mul_one, Nat.add_zero] at hx64_1)
                                        have hf64_1 := hfr64 1
                                        (try simp only [show (k35).sz = 6 from rfl, Nat.mul_one, Nat.add_zero] at hf64_1)
                                        clear hcl64 hcc64 hfr64 hM64
                                        go_wp2_with (first | ((with_reducible refine gate_store (t := 9) (p := 106) rfl ?_); refine store_event (t := 9) (p := 106) (v := ?vo_w65) (w1 := (wc.setCell ⟨go52, ((ji49) : Int).toNat * 6 + 1, none⟩ (.string ((rd_T35 x7_2 a1).f0)))) ?hg ?ho ?hn ?hr ?_; (case ho => rfl); (case hg => rfl); (case hn => rfl); (case hr => first | (go_simp; done) | (go_simp; rfl)); intro w65 hw; have hg : wc.grownBy w65 (some go52) := (by rw [hw]; exact HP64.2); have hp_ : Kd.R k35 35 w65 w.heap.size (fun _ => True) (.slice (some ⟨go52, 0, none⟩) x7_2.length co35) y286 := (by rw [hw, Ny286.out]; exact HP64.1); clear HP64; have n0_ := Aside0.mk (hp_); have n1_ := Aside0.mk ((by rw [hw]; exact below_set (HB.out) GB52.out : Below w.heap.size w w65)); clear HO_7; clear HB; have HO_7 := n0_; have HB := n1_; clear n0_ n1_; clear hg hw hp_) | ((with_reducible refine gate_callee (f := 9) rfl ?_); refine goesL_ (some 109) rfl rfl Tryd.func9 (by kernel_rfl) rfl #[.slice (some ⟨go52, 0, none⟩) y286.length co35] rfl (by (try simp only [List.map_toArray, List.map_cons, List.map_nil]); first | done | (rw [show y286.length = x7_2.length from (Kd.R_reads' HO_7.out).1.symm] <;> rfl) | rfl | (simp only [List.length_drop, List.length_take]; rfl)) ?_; (with_reducible refine (style_Check.calls _ _ y286 t287 t288 _ ?side1 ?side2 A53.out).mono ?_); (case side1 => repeat (first | exact (Kd.R_reads' HO_7.out).2.2 | (with_reducible refine Kd.C_alloc ?_ _) | (with_reducible refine Kd.C_drewN ?_ _) | (with_reducible refine Kd.C_drew ?_))); (case side2 => rw [show y286.length = x7_2.length from (Kd.R_reads' HO_7.out).1.symm]; exact (Kd.R_reads' HO_7.out).2.1); rintro e w66 ⟨rfl, hb⟩; refine ⟨_, rfl, ?_⟩; have n0_ := Aside0.mk (Kd.R_below (by (with_reducible repeat (first | apply Kd.R_alloc | apply Kd.R_drewN | apply Kd.R_drew)); exact HO_7.out) hb); have n1_ := Aside0.mk (below_step (by repeat (first | (with_reducible first | exact HB.out | apply below_alloc | apply pw_below_drewN | apply below_drew1) | exact HB.out)) hb); clear HO_7; clear HB; have HO_7 := n0_; have HB := n1_; clear n0_ n1_; (try clear hb); (try clear hb2); (try clear hk); (try clear hi); have p289 : 0 ≤ (a2 : Int) := of_decide_eq_true (by first | (with_reducible assumption) | assumption); have q289 : a2 < (y286.length : Int) := (by have h_ : (a2 : Int) < ((x7_2.length : Int) : Int) := of_decide_eq_true (by first | (with_reducible assumption) | assumption); first | (have e_ := (Kd.R_reads' HO_7.out).1; omega) | simpa only [Ny286.out, List.length_set] using h_); have ql289 : ((a2 : Int) < ((x7_2.length : Int) : Int)) = True := eq_true (of_decide_eq_true (by first | (with_reducible assumption) | assumption)); obtain ⟨ad289, e289, hx289_0, hx289_1, hx289_2, hx289_3, hx289_4, hx289_5⟩ := at_T35 (Kd.R_reads' HO_7.out).2.2 a2 p289 q289; obtain rfl : (⟨go52, 0, none⟩ : Addr) = ad289 := (by injection e289); (first | simp only [add_plain] at hx289_0 | simp only [add_at] at hx289_0 | simp only [Addr.add, Nat.zero_add] at hx289_0 | skip); (first | simp only [add_plain] at hx289_1 | simp only [add_at] at hx289_1 | simp only [Addr.add, Nat.zero_add] at hx289_1 | skip); (first | simp only [add_plain] at hx289_2 | simp only [add_at] at hx289_2 | simp only [Addr.add, Nat.zero_add] at hx289_2 | skip); (first | simp only [add_plain] at hx289_3 | simp only [add_at] at hx289_3 | simp only [Addr.add, Nat.zero_add] at hx289_3 | skip); (first | simp only [add_plain] at hx289_4 | simp only [add_at] at hx289_4 | simp only [Addr.add, Nat.zero_add] at hx289_4 | skip); (first | simp only [add_plain] at hx289_5 | simp only [add_at] at hx289_5 | simp only [Addr.add, Nat.zero_add] at hx289_5 | skip); replace p289 := eq_true p289; replace q289 := eq_true q289) | ((first | ((with_reducible refine gate_callee (f := 17) rfl ?_); (with_reducible refine gate_dst (N := 129) rfl ?_); refine gate_guard (by rfl) ?_; dsimp only; refine goesL_ (some 129) rfl rfl Tryd.func17 (by kernel_rfl) rfl #[.slice (some ⟨go52, 0, none⟩) y286.length co35, .string ((rd_T35 y286 a2).f0), .string (⟨#[]⟩ : ByteArray), .int .i64 0, .int .i64 0] rfl (by (try simp only [List.map_toArray, List.map_cons, List.map_nil]); first | done | (rw [show y286.length = x7_2.length from (Kd.R_reads' HO_7.out).1.symm] <;> rfl) | rfl | (simp only [List.length_drop, List.length_take]; rfl)) ?_; (with_reducible refine (style_Run.calls _ _ y286 ((rd_T35 y286 a2).f0) (⟨#[]⟩ : ByteArray) 0 0 t290 _ ?side1 ?side2 A59.out).mono ?_); (case side1 => repeat (first | exact (Kd.R_reads' HO_7.out).2.2 | (with_reducible refine Kd.C_alloc ?_ _) | (with_reducible refine Kd.C_drewN ?_ _) | (with_reducible refine Kd.C_drew ?_))); (case side2 => rw [show y286.length = x7_2.length from (Kd.R_reads' HO_7.out).1.symm]; exact (Kd.R_reads' HO_7.out).2.1); rintro e w67 ⟨rfl, hb⟩; refine ⟨_, rfl, ?_⟩) | (go_at_call 17; (with_reducible refine (style_Run.calls _ _ y286 ((rd_T35 y286 a2).f0) (⟨#[]⟩ : ByteArray) 0 0 t290 _ ?side1 ?side2 A59.out).mono ?_); (case side1 => repeat (first | exact (Kd.R_reads' HO_7.out).2.2 | (with_reducible refine Kd.C_alloc ?_ _) | (with_reducible refine Kd.C_drewN ?_ _) | (with_reducible refine Kd.C_drew ?_))); (case side2 => rw [show y286.length = x7_2.length from (Kd.R_reads' HO_7.out).1.symm]; exact (Kd.R_reads' HO_7.out).2.1); rintro e w67 ⟨rfl, hb⟩)); have n0_ := Aside0.mk (Kd.R_below (by (with_reducible repeat (first | apply Kd.R_alloc | apply Kd.R_drewN | apply Kd.R_drew)); exact HO_7.out) hb); have n1_ := Aside0.mk (below_step (by repeat (first | (with_reducible first | exact HB.out | apply below_alloc | apply pw_below_drewN | apply below_drew1) | exact HB.out)) hb); clear HO_7; clear HB; have HO_7 := n0_; have HB := n1_; clear n0_ n1_; (try clear hb); (try clear hb2); (try clear hk); (try clear hi); have p291 : 0 ≤ (a2 : Int) := of_decide_eq_true (by first | (with_reducible assumption) | assumption); have q291 : a2 < (y286.length : Int) := (by have h_ : (a2 : Int) < ((x7_2.length : Int) : Int) := of_decide_eq_true (by first | (with_reducible assumption) | assumption); first | (have e_ := (Kd.R_reads' HO_7.out).1; omega) | simpa only [Ny286.out, List.length_set] using h_); have ql291 : ((a2 : Int) < ((x7_2.length : Int) : Int)) = True := eq_true (of_decide_eq_true (by first | (with_reducible assumption) | assumption)); obtain ⟨ad291, e291, hx291_0, hx291_1, hx291_2, hx291_3, hx291_4, hx291_5⟩ := at_T35 (Kd.R_reads' HO_7.out).2.2 a2 p291 q291; obtain rfl : (⟨go52, 0, none⟩ : Addr) = ad291 := (by injection e291); (first | simp only [add_plain] at hx291_0 | simp only [add_at] at hx291_0 | simp only [Addr.add, Nat.zero_add] at hx291_0 | skip); (first | simp only [add_plain] at hx291_1 | simp only [add_at] at hx291_1 | simp only [Addr.add, Nat.zero_add] at hx291_1 | skip); (first | simp only [add_plain] at hx291_2 | simp only [add_at] at hx291_2 | simp only [Addr.add, Nat.zero_add] at hx291_2 | skip); (first | simp only [add_plain] at hx291_3 | simp only [add_at] at hx291_3 | simp only [Addr.add, Nat.zero_add] at hx291_3 | skip); (first | simp only [add_plain] at hx291_4 | simp only [add_at] at hx291_4 | simp only [Addr.add, Nat.zero_add] at hx291_4 | skip); (first | simp only [add_plain] at hx291_5 | simp only [add_at] at hx291_5 | simp only [Addr.add, Nat.zero_add] at hx291_5 | skip); replace p291 := eq_true p291; replace q291 := eq_true q291) | ((first | ((with_reducible refine gate_callee (f := 15) rfl ?_); (with_reducible refine gate_dst (N := 139) rfl ?_); refine gate_guard (by rfl) ?_; dsimp only; refine goesL_ (some 139) rfl rfl Tryd.func15 (by kernel_rfl) rfl #[.slice (some ⟨go52, 0, none⟩) y286.length co35, .string ((rd_T35 y286 a2).f0)] rfl (by (try simp only [List.map_toArray, List.map_cons, List.map_nil]); first | done | (rw [show y286.length = x7_2.length from (Kd.R_reads' HO_7.out).1.symm] <;> rfl) | rfl | (simp only [List.length_drop, List.length_take]; rfl)) ?_; (with_reducible refine (style_Level.calls _ _ y286 ((rd_T35 y286 a2).f0) t292 _ ?side1 ?side2 A61.out).mono ?_); (case side1 => repeat (first | exact (Kd.R_reads' HO_7.out).2.2 | (with_reducible refine Kd.C_alloc ?_ _) | (with_reducible refine Kd.C_drewN ?_ _) | (with_reducible refine Kd.C_drew ?_))); (case side2 => rw [show y286.length = x7_2.length from (Kd.R_reads' HO_7.out).1.symm]; exact (Kd.R_reads' HO_7.out).2.1); rintro e w68 ⟨rfl, hb⟩; refine ⟨_, rfl, ?_⟩) | (go_at_call 15; (with_reducible refine (style_Level.calls _ _ y286 ((rd_T35 y286 a2).f0) t292 _ ?side1 ?side2 A61.out).mono ?_); (case side1 => repeat (first | exact (Kd.R_reads' HO_7.out).2.2 | (with_reducible refine Kd.C_alloc ?_ _) | (with_reducible refine Kd.C_drewN ?_ _) | (with_reducible refine Kd.C_drew ?_))); (case side2 => rw [show y286.length = x7_2.length from (Kd.R_reads' HO_7.out).1.symm]; exact (Kd.R_reads' HO_7.out).2.1); rintro e w68 ⟨rfl, hb⟩)); have n0_ := Aside0.mk (Kd.R_below (by (with_reducible repeat (first | apply Kd.R_alloc | apply Kd.R_drewN | apply Kd.R_drew)); exact HO_7.out) hb); have n1_ := Aside0.mk (below_step (by repeat (first | (with_reducible first | exact HB.out | apply below_alloc | apply pw_below_drewN | apply below_drew1) | exact HB.out)) hb); clear HO_7; clear HB; have HO_7 := n0_; have HB := n1_; clear n0_ n1_; (try clear hb); (try clear hb2); (try clear hk); (try clear hi)) | ((first | ((with_reducible refine gate_callee (f := 12) rfl ?_); (with_reducible refine gate_dst (N := 143) rfl ?_); refine gate_guard (by rfl) ?_; dsimp only; refine goesL_ (some 143) rfl rfl Tryd.func12 (by kernel_rfl) rfl #[] rfl (by (try simp only [List.map_toArray, List.map_cons, List.map_nil]); first | done | rfl | (simp only [List.length_drop, List.length_take]; rfl)) ?_; (with_reducible refine (rubricatorlaw14_known.calls kj33  t293 _ A63.out).mono ?_); rintro e w69 ⟨rfl, hb⟩; refine ⟨_, rfl, ?_⟩) | (go_at_call 12; (with_reducible refine (rubricatorlaw14_known.calls kj33  t293 _ A63.out).mono ?_); rintro e w69 ⟨rfl, hb⟩)); have n0_ := Aside0.mk (Kd.R_below (by (with_reducible repeat (first | apply Kd.R_alloc | apply Kd.R_drewN | apply Kd.R_drew)); exact HO_7.out) hb); have n1_ := Aside0.mk (below_step (by repeat (first | (with_reducible first | exact HB.out | apply below_alloc | apply pw_below_drewN | apply below_drew1) | exact HB.out)) hb); clear HO_7; clear HB; have HO_7 := n0_; have HB := n1_; clear n0_ n1_; (try clear hb); (try clear hb2); (try clear hk); (try clear hi)))
                                        go_ret
                                        exact ⟨by first | rfl | (simp [errW_none, errW_some] <;> rfl) | (simp only [← hji49]; first | rfl | (simp [errW_none, errW_some] <;> rfl)) | (simp [*, errW_none, errW_some] <;> rfl), by repeat (first | (with_reducible first | exact HB.out | apply below_alloc | apply pw_below_drewN | apply below_drew1) | exact HB.out)⟩
                                      · rw [if_neg c62] at H
                                        have c62b0 : (t292 == 0) = false := beq_eq_false_iff_ne.mpr c62
                                        have c62b1 : (t292 != 0) = true := bne_iff_ne.mpr c62
                                        obtain rfl := Option.some.inj H
                                        have p285 : 0 ≤ (a1 : Int) := of_decide_eq_true (by first | (with_reducible assumption) | assumption)
                                        have q285 : a1 < (x7_2.length : Int) := of_decide_eq_true (by first | (with_reducible assumption) | assumption)
                                        obtain ⟨ad285, e285, hx285_0, hx285_1, hx285_2, hx285_3, hx285_4, hx285_5⟩ := at_T35 (Kd.R_reads' HO_7.out).2.2 a1 p285 q285
                                        cases e285
                                        replace p285 := eq_true p285
                                        replace q285 := eq_true q285
                                        have p52 : 0 ≤ ((ji49) : Int) := of_decide_eq_true (by first | (with_reducible assumption) | assumption)
                                        have q52 : ((ji49) : Int) < ((x7_2.length : Int) : Int) := of_decide_eq_true (by first | (with_reducible assumption) | assumption)
                                        obtain ⟨go52, co52, eo52, gb52, gl52, cl52, HG52⟩ := Kd.R_form HO_7.out (by omega)
                                        (first | cases eo52 | (injection eo52 with ea_ en_ ec_; (first | subst ea_ | (injection ea_ with ea_; subst ea_)); subst ec_; clear en_))
                                        have GB52 := Aside0.mk gb52
                                        have GG52 := Aside0.mk HG52
                                        clear gb52 gl52 HG52
                                        (first | simp only [add_plain] at hx285_0 | skip)
                                        (first | simp only [add_plain] at hx285_1 | skip)
                                        (first | simp only [add_plain] at hx285_2 | skip)
                                        (first | simp only [add_plain] at hx285_3 | skip)
                                        (first | simp only [add_plain] at hx285_4 | skip)
                                        (first | simp only [add_plain] at hx285_5 | skip)
                                        obtain ⟨ce52, hcl52, hM52, hcc52, hfr52⟩ := Kd.R_elem HO_7.out z35 ((ji49) : Int) p52 q52
                                        obtain rfl := k35_openM hM52
                                        have hx52_0 : wc.cell? ⟨go52, ((ji49) : Int).toNat * 6, none⟩ = some (.string ((rd_T35 x7_2 (ji49)).f0)) := hcc52 0 _ rfl
                                        have hx52_1 : wc.cell? ⟨go52, ((ji49) : Int).toNat * 6 + 1, none⟩ = some (.string ((rd_T35 x7_2 (ji49)).f1)) := hcc52 1 _ rfl
                                        have hx52_2 : wc.cell? ⟨go52, ((ji49) : Int).toNat * 6 + 2, none⟩ = some (.bool ((rd_T35 x7_2 (ji49)).f2)) := hcc52 2 _ rfl
                                        have hx52_3 : wc.cell? ⟨go52, ((ji49) : Int).toNat * 6 + 3, none⟩ = some (.int .i64 ((rd_T35 x7_2 (ji49)).f3)) := hcc52 3 _ rfl
                                        have hx52_4 : wc.cell? ⟨go52, ((ji49) : Int).toNat * 6 + 4, none⟩ = some (.int .i64 ((rd_T35 x7_2 (ji49)).f4)) := hcc52 4 _ rfl
                                        have hx52_5 : wc.cell? ⟨go52, ((ji49) : Int).toNat * 6 + 5, none⟩ = some (.int .i64 ((rd_T35 x7_2 (ji49)).f5)) := hcc52 5 _ rfl
                                        have hf52_0 : wc.frozen? ⟨go52, ((ji49) : Int).toNat * 6, none⟩ = false := hfr52 0
                                        have hf52_1 : wc.frozen? ⟨go52, ((ji49) : Int).toNat * 6 + 1, none⟩ = false := hfr52 1
                                        have hf52_2 : wc.frozen? ⟨go52, ((ji49) : Int).toNat * 6 + 2, none⟩ = false := hfr52 2
                                        have hf52_3 : wc.frozen? ⟨go52, ((ji49) : Int).toNat * 6 + 3, none⟩ = false := hfr52 3
                                        have hf52_4 : wc.frozen? ⟨go52, ((ji49) : Int).toNat * 6 + 4, none⟩ = false := hfr52 4
                                        have hf52_5 : wc.frozen? ⟨go52, ((ji49) : Int).toNat * 6 + 5, none⟩ = false := hfr52 5
                                        clear hcl52 hcc52 hfr52 hM52
                                        replace p52 := eq_true p52
                                        replace q52 := eq_true q52
                                        have HX70 := Aside0.mk (show Kd.R k35 35 wc w.heap.size (fun _ => True) (.slice (some ⟨go52, 0, none⟩) x7_2.length co35) x7_2 from (by (with_reducible repeat (first | apply Kd.R_alloc | apply Kd.R_drewN | apply Kd.R_drew)); exact HO_7.out))
                                        obtain ⟨ce70, hcl70, hM70, hcc70, hfr70⟩ := Kd.R_elem HX70.out z35 ((ji49) : Int) (of_decide_eq_true (by first | (with_reducible assumption) | assumption)) (by have h_ : ((ji49) : Int) < ((x7_2.length : Int) : Int) := of_decide_eq_true (by first | (with_reducible assumption) | assumption); first | exact h_ | (have e_ := (Kd.R_reads' HO_7.out).1; omega) | simpa using h_)
                                        obtain rfl := k35_openM hM70
                                        have HP70 := Kd.R_seg HX70.out ((ji49) : Int) (of_decide_eq_true (by first | (with_reducible assumption) | assumption)) (by have h_ : ((ji49) : Int) < ((x7_2.length : Int) : Int) := of_decide_eq_true (by first | (with_reducible assumption) | assumption); first | exact h_ | (have e_ := (Kd.R_reads' HO_7.out).1; omega) | simpa using h_) (seg := [.string ((rd_T35 x7_2 a1).f0)]) (j := 1) hcl70 hcc70 (show 2 ≤ 6 from by decide) (x' := (⟨(rd_T35 x7_2 (ji49)).f0, (rd_T35 x7_2 a1).f0, (rd_T35 x7_2 (ji49)).f2, (rd_T35 x7_2 (ji49)).f3, (rd_T35 x7_2 (ji49)).f4, (rd_T35 x7_2 (ji49)).f5⟩ : S35)) (k35_mkM _ _ _ (⟨(rd_T35 x7_2 (ji49)).f0, (rd_T35 x7_2 a1).f0, (rd_T35 x7_2 (ji49)).f2, (rd_T35 x7_2 (ji49)).f3, (rd_T35 x7_2 (ji49)).f4, (rd_T35 x7_2 (ji49)).f5⟩ : S35) ) (fun _ hk => hk)
                                        have hx70_1 := hcc70 1 _ rfl
                                        (try simp only [show (k35).sz = 6 from rfl, Nat.mul_one, Nat.add_zero] at hx70_1)
                                        have hf70_1 := hfr70 1
                                        (try simp only [show (k35).sz = 6 from rfl, Nat.mul_one, Nat.add_zero] at hf70_1)
                                        clear hcl70 hcc70 hfr70 hM70
                                        go_wp2_with (first | ((with_reducible refine gate_store (t := 9) (p := 106) rfl ?_); refine store_event (t := 9) (p := 106) (v := ?vo_w71) (w1 := (wc.setCell ⟨go52, ((ji49) : Int).toNat * 6 + 1, none⟩ (.string ((rd_T35 x7_2 a1).f0)))) ?hg ?ho ?hn ?hr ?_; (case ho => rfl); (case hg => rfl); (case hn => rfl); (case hr => first | (go_simp; done) | (go_simp; rfl)); intro w71 hw; have hg : wc.grownBy w71 (some go52) := (by rw [hw]; exact HP70.2); have hp_ : Kd.R k35 35 w71 w.heap.size (fun _ => True) (.slice (some ⟨go52, 0, none⟩) x7_2.length co35) y286 := (by rw [hw, Ny286.out]; exact HP70.1); clear HP70; have n0_ := Aside0.mk (hp_); have n1_ := Aside0.mk ((by rw [hw]; exact below_set (HB.out) GB52.out : Below w.heap.size w w71)); clear HO_7; clear HB; have HO_7 := n0_; have HB := n1_; clear n0_ n1_; clear hg hw hp_) | ((with_reducible refine gate_callee (f := 9) rfl ?_); refine goesL_ (some 109) rfl rfl Tryd.func9 (by kernel_rfl) rfl #[.slice (some ⟨go52, 0, none⟩) y286.length co35] rfl (by (try simp only [List.map_toArray, List.map_cons, List.map_nil]); first | done | (rw [show y286.length = x7_2.length from (Kd.R_reads' HO_7.out).1.symm] <;> rfl) | rfl | (simp only [List.length_drop, List.length_take]; rfl)) ?_; (with_reducible refine (style_Check.calls _ _ y286 t287 t288 _ ?side1 ?side2 A53.out).mono ?_); (case side1 => repeat (first | exact (Kd.R_reads' HO_7.out).2.2 | (with_reducible refine Kd.C_alloc ?_ _) | (with_reducible refine Kd.C_drewN ?_ _) | (with_reducible refine Kd.C_drew ?_))); (case side2 => rw [show y286.length = x7_2.length from (Kd.R_reads' HO_7.out).1.symm]; exact (Kd.R_reads' HO_7.out).2.1); rintro e w72 ⟨rfl, hb⟩; refine ⟨_, rfl, ?_⟩; have n0_ := Aside0.mk (Kd.R_below (by (with_reducible repeat (first | apply Kd.R_alloc | apply Kd.R_drewN | apply Kd.R_drew)); exact HO_7.out) hb); have n1_ := Aside0.mk (below_step (by repeat (first | (with_reducible first | exact HB.out | apply below_alloc | apply pw_below_drewN | apply below_drew1) | exact HB.out)) hb); clear HO_7; clear HB; have HO_7 := n0_; have HB := n1_; clear n0_ n1_; (try clear hb); (try clear hb2); (try clear hk); (try clear hi); have p289 : 0 ≤ (a2 : Int) := of_decide_eq_true (by first | (with_reducible assumption) | assumption); have q289 : a2 < (y286.length : Int) := (by have h_ : (a2 : Int) < ((x7_2.length : Int) : Int) := of_decide_eq_true (by first | (with_reducible assumption) | assumption); first | (have e_ := (Kd.R_reads' HO_7.out).1; omega) | simpa only [Ny286.out, List.length_set] using h_); have ql289 : ((a2 : Int) < ((x7_2.length : Int) : Int)) = True := eq_true (of_decide_eq_true (by first | (with_reducible assumption) | assumption)); obtain ⟨ad289, e289, hx289_0, hx289_1, hx289_2, hx289_3, hx289_4, hx289_5⟩ := at_T35 (Kd.R_reads' HO_7.out).2.2 a2 p289 q289; obtain rfl : (⟨go52, 0, none⟩ : Addr) = ad289 := (by injection e289); (first | simp only [add_plain] at hx289_0 | simp only [add_at] at hx289_0 | simp only [Addr.add, Nat.zero_add] at hx289_0 | skip); (first | simp only [add_plain] at hx289_1 | simp only [add_at] at hx289_1 | simp only [Addr.add, Nat.zero_add] at hx289_1 | skip); (first | simp only [add_plain] at hx289_2 | simp only [add_at] at hx289_2 | simp only [Addr.add, Nat.zero_add] at hx289_2 | skip); (first | simp only [add_plain] at hx289_3 | simp only [add_at] at hx289_3 | simp only [Addr.add, Nat.zero_add] at hx289_3 | skip); (first | simp only [add_plain] at hx289_4 | simp only [add_at] at hx289_4 | simp only [Addr.add, Nat.zero_add] at hx289_4 | skip); (first | simp only [add_plain] at hx289_5 | simp only [add_at] at hx289_5 | simp only [Addr.add, Nat.zero_add] at hx289_5 | skip); replace p289 := eq_true p289; replace q289 := eq_true q289) | ((first | ((with_reducible refine gate_callee (f := 17) rfl ?_); (with_reducible refine gate_dst (N := 129) rfl ?_); refine gate_guard (by rfl) ?_; dsimp only; refine goesL_ (some 129) rfl rfl Tryd.func17 (by kernel_rfl) rfl #[.slice (some ⟨go52, 0, none⟩) y286.length co35, .string ((rd_T35 y286 a2).f0), .string (⟨#[]⟩ : ByteArray), .int .i64 0, .int .i64 0] rfl (by (try simp only [List.map_toArray, List.map_cons, List.map_nil]); first | done | (rw [show y286.length = x7_2.length from (Kd.R_reads' HO_7.out).1.symm] <;> rfl) | rfl | (simp only [List.length_drop, List.length_take]; rfl)) ?_; (with_reducible refine (style_Run.calls _ _ y286 ((rd_T35 y286 a2).f0) (⟨#[]⟩ : ByteArray) 0 0 t290 _ ?side1 ?side2 A59.out).mono ?_); (case side1 => repeat (first | exact (Kd.R_reads' HO_7.out).2.2 | (with_reducible refine Kd.C_alloc ?_ _) | (with_reducible refine Kd.C_drewN ?_ _) | (with_reducible refine Kd.C_drew ?_))); (case side2 => rw [show y286.length = x7_2.length from (Kd.R_reads' HO_7.out).1.symm]; exact (Kd.R_reads' HO_7.out).2.1); rintro e w73 ⟨rfl, hb⟩; refine ⟨_, rfl, ?_⟩) | (go_at_call 17; (with_reducible refine (style_Run.calls _ _ y286 ((rd_T35 y286 a2).f0) (⟨#[]⟩ : ByteArray) 0 0 t290 _ ?side1 ?side2 A59.out).mono ?_); (case side1 => repeat (first | exact (Kd.R_reads' HO_7.out).2.2 | (with_reducible refine Kd.C_alloc ?_ _) | (with_reducible refine Kd.C_drewN ?_ _) | (with_reducible refine Kd.C_drew ?_))); (case side2 => rw [show y286.length = x7_2.length from (Kd.R_reads' HO_7.out).1.symm]; exact (Kd.R_reads' HO_7.out).2.1); rintro e w73 ⟨rfl, hb⟩)); have n0_ := Aside0.mk (Kd.R_below (by (with_reducible repeat (first | apply Kd.R_alloc | apply Kd.R_drewN | apply Kd.R_drew)); exact HO_7.out) hb); have n1_ := Aside0.mk (below_step (by repeat (first | (with_reducible first | exact HB.out | apply below_alloc | apply pw_below_drewN | apply below_drew1) | exact HB.out)) hb); clear HO_7; clear HB; have HO_7 := n0_; have HB := n1_; clear n0_ n1_; (try clear hb); (try clear hb2); (try clear hk); (try clear hi); have p291 : 0 ≤ (a2 : Int) := of_decide_eq_true (by first | (with_reducible assumption) | assumption); have q291 : a2 < (y286.length : Int) := (by have h_ : (a2 : Int) < ((x7_2.length : Int) : Int) := of_decide_eq_true (by first | (with_reducible assumption) | assumption); first | (have e_ := (Kd.R_reads' HO_7.out).1; omega) | simpa only [Ny286.out, List.length_set] using h_); have ql291 : ((a2 : Int) < ((x7_2.length : Int) : Int)) = True := eq_true (of_decide_eq_true (by first | (with_reducible assumption) | assumption)); obtain ⟨ad291, e291, hx291_0, hx291_1, hx291_2, hx291_3, hx291_4, hx291_5⟩ := at_T35 (Kd.R_reads' HO_7.out).2.2 a2 p291 q291; obtain rfl : (⟨go52, 0, none⟩ : Addr) = ad291 := (by injection e291); (first | simp only [add_plain] at hx291_0 | simp only [add_at] at hx291_0 | simp only [Addr.add, Nat.zero_add] at hx291_0 | skip); (first | simp only [add_plain] at hx291_1 | simp only [add_at] at hx291_1 | simp only [Addr.add, Nat.zero_add] at hx291_1 | skip); (first | simp only [add_plain] at hx291_2 | simp only [add_at] at hx291_2 | simp only [Addr.add, Nat.zero_add] at hx291_2 | skip); (first | simp only [add_plain] at hx291_3 | simp only [add_at] at hx291_3 | simp only [Addr.add, Nat.zero_add] at hx291_3 | skip); (first | simp only [add_plain] at hx291_4 | simp only [add_at] at hx291_4 | simp only [Addr.add, Nat.zero_add] at hx291_4 | skip); (first | simp only [add_plain] at hx291_5 | simp only [add_at] at hx291_5 | simp only [Addr.add, Nat.zero_add] at hx291_5 | skip); replace p291 := eq_true p291; replace q291 := eq_true q291) | ((first | ((with_reducible refine gate_callee (f := 15) rfl ?_); (with_reducible refine gate_dst (N := 139) rfl ?_); refine gate_guard (by rfl) ?_; dsimp only; refine goesL_ (some 139) rfl rfl Tryd.func15 (by kernel_rfl) rfl #[.slice (some ⟨go52, 0, none⟩) y286.length co35, .string ((rd_T35 y286 a2).f0)] rfl (by (try simp only [List.map_toArray, List.map_cons, List.map_nil]); first | done | (rw [show y286.length = x7_2.length from (Kd.R_reads' HO_7.out).1.symm] <;> rfl) | rfl | (simp only [List.length_drop, List.length_take]; rfl)) ?_; (with_reducible refine (style_Level.calls _ _ y286 ((rd_T35 y286 a2).f0) t292 _ ?side1 ?side2 A61.out).mono ?_); (case side1 => repeat (first | exact (Kd.R_reads' HO_7.out).2.2 | (with_reducible refine Kd.C_alloc ?_ _) | (with_reducible refine Kd.C_drewN ?_ _) | (with_reducible refine Kd.C_drew ?_))); (case side2 => rw [show y286.length = x7_2.length from (Kd.R_reads' HO_7.out).1.symm]; exact (Kd.R_reads' HO_7.out).2.1); rintro e w74 ⟨rfl, hb⟩; refine ⟨_, rfl, ?_⟩) | (go_at_call 15; (with_reducible refine (style_Level.calls _ _ y286 ((rd_T35 y286 a2).f0) t292 _ ?side1 ?side2 A61.out).mono ?_); (case side1 => repeat (first | exact (Kd.R_reads' HO_7.out).2.2 | (with_reducible refine Kd.C_alloc ?_ _) | (with_reducible refine Kd.C_drewN ?_ _) | (with_reducible refine Kd.C_drew ?_))); (case side2 => rw [show y286.length = x7_2.length from (Kd.R_reads' HO_7.out).1.symm]; exact (Kd.R_reads' HO_7.out).2.1); rintro e w74 ⟨rfl, hb⟩)); have n0_ := Aside0.mk (Kd.R_below (by (with_reducible repeat (first | apply Kd.R_alloc | apply Kd.R_drewN | apply Kd.R_drew)); exact HO_7.out) hb); have n1_ := Aside0.mk (below_step (by repeat (first | (with_reducible first | exact HB.out | apply below_alloc | apply pw_below_drewN | apply below_drew1) | exact HB.out)) hb); clear HO_7; clear HB; have HO_7 := n0_; have HB := n1_; clear n0_ n1_; (try clear hb); (try clear hb2); (try clear hk); (try clear hi)))
                                        go_ret
                                        exact ⟨by first | rfl | (simp [errW_none, errW_some] <;> rfl) | (simp only [← hji49]; first | rfl | (simp [errW_none, errW_some] <;> rfl)) | (simp [*, errW_none, errW_some] <;> rfl), by repeat (first | (with_reducible first | exact HB.out | apply below_alloc | apply pw_below_drewN | apply below_drew1) | exact HB.out)⟩
                                    · rw [if_neg c60] at H
                                      have c60b0 : (t290 == 0) = false := beq_eq_false_iff_ne.mpr c60
                                      have c60b1 : (t290 != 0) = true := bne_iff_ne.mpr c60
                                      obtain rfl := Option.some.inj H
                                      have p285 : 0 ≤ (a1 : Int) := of_decide_eq_true (by first | (with_reducible assumption) | assumption)
                                      have q285 : a1 < (x7_2.length : Int) := of_decide_eq_true (by first | (with_reducible assumption) | assumption)
                                      obtain ⟨ad285, e285, hx285_0, hx285_1, hx285_2, hx285_3, hx285_4, hx285_5⟩ := at_T35 (Kd.R_reads' HO_7.out).2.2 a1 p285 q285
                                      cases e285
                                      replace p285 := eq_true p285
                                      replace q285 := eq_true q285
                                      have p52 : 0 ≤ ((ji49) : Int) := of_decide_eq_true (by first | (with_reducible assumption) | assumption)
                                      have q52 : ((ji49) : Int) < ((x7_2.length : Int) : Int) := of_decide_eq_true (by first | (with_reducible assumption) | assumption)
                                      obtain ⟨go52, co52, eo52, gb52, gl52, cl52, HG52⟩ := Kd.R_form HO_7.out (by omega)
                                      (first | cases eo52 | (injection eo52 with ea_ en_ ec_; (first | subst ea_ | (injection ea_ with ea_; subst ea_)); subst ec_; clear en_))
                                      have GB52 := Aside0.mk gb52
                                      have GG52 := Aside0.mk HG52
                                      clear gb52 gl52 HG52
                                      (first | simp only [add_plain] at hx285_0 | skip)
                                      (first | simp only [add_plain] at hx285_1 | skip)
                                      (first | simp only [add_plain] at hx285_2 | skip)
                                      (first | simp only [add_plain] at hx285_3 | skip)
                                      (first | simp only [add_plain] at hx285_4 | skip)
                                      (first | simp only [add_plain] at hx285_5 | skip)
                                      obtain ⟨ce52, hcl52, hM52, hcc52, hfr52⟩ := Kd.R_elem HO_7.out z35 ((ji49) : Int) p52 q52
                                      obtain rfl := k35_openM hM52
                                      have hx52_0 : wc.cell? ⟨go52, ((ji49) : Int).toNat * 6, none⟩ = some (.string ((rd_T35 x7_2 (ji49)).f0)) := hcc52 0 _ rfl
                                      have hx52_1 : wc.cell? ⟨go52, ((ji49) : Int).toNat * 6 + 1, none⟩ = some (.string ((rd_T35 x7_2 (ji49)).f1)) := hcc52 1 _ rfl
                                      have hx52_2 : wc.cell? ⟨go52, ((ji49) : Int).toNat * 6 + 2, none⟩ = some (.bool ((rd_T35 x7_2 (ji49)).f2)) := hcc52 2 _ rfl
                                      have hx52_3 : wc.cell? ⟨go52, ((ji49) : Int).toNat * 6 + 3, none⟩ = some (.int .i64 ((rd_T35 x7_2 (ji49)).f3)) := hcc52 3 _ rfl
                                      have hx52_4 : wc.cell? ⟨go52, ((ji49) : Int).toNat * 6 + 4, none⟩ = some (.int .i64 ((rd_T35 x7_2 (ji49)).f4)) := hcc52 4 _ rfl
                                      have hx52_5 : wc.cell? ⟨go52, ((ji49) : Int).toNat * 6 + 5, none⟩ = some (.int .i64 ((rd_T35 x7_2 (ji49)).f5)) := hcc52 5 _ rfl
                                      have hf52_0 : wc.frozen? ⟨go52, ((ji49) : Int).toNat * 6, none⟩ = false := hfr52 0
                                      have hf52_1 : wc.frozen? ⟨go52, ((ji49) : Int).toNat * 6 + 1, none⟩ = false := hfr52 1
                                      have hf52_2 : wc.frozen? ⟨go52, ((ji49) : Int).toNat * 6 + 2, none⟩ = false := hfr52 2
                                      have hf52_3 : wc.frozen? ⟨go52, ((ji49) : Int).toNat * 6 + 3, none⟩ = false := hfr52 3
                                      have hf52_4 : wc.frozen? ⟨go52, ((ji49) : Int).toNat * 6 + 4, none⟩ = false := hfr52 4
                                      have hf52_5 : wc.frozen? ⟨go52, ((ji49) : Int).toNat * 6 + 5, none⟩ = false := hfr52 5
                                      clear hcl52 hcc52 hfr52 hM52
                                      replace p52 := eq_true p52
                                      replace q52 := eq_true q52
                                      have HX75 := Aside0.mk (show Kd.R k35 35 wc w.heap.size (fun _ => True) (.slice (some ⟨go52, 0, none⟩) x7_2.length co35) x7_2 from (by (with_reducible repeat (first | apply Kd.R_alloc | apply Kd.R_drewN | apply Kd.R_drew)); exact HO_7.out))
                                      obtain ⟨ce75, hcl75, hM75, hcc75, hfr75⟩ := Kd.R_elem HX75.out z35 ((ji49) : Int) (of_decide_eq_true (by first | (with_reducible assumption) | assumption)) (by have h_ : ((ji49) : Int) < ((x7_2.length : Int) : Int) := of_decide_eq_true (by first | (with_reducible assumption) | assumption); first | exact h_ | (have e_ := (Kd.R_reads' HO_7.out).1; omega) | simpa using h_)
                                      obtain rfl := k35_openM hM75
                                      have HP75 := Kd.R_seg HX75.out ((ji49) : Int) (of_decide_eq_true (by first | (with_reducible assumption) | assumption)) (by have h_ : ((ji49) : Int) < ((x7_2.length : Int) : Int) := of_decide_eq_true (by first | (with_reducible assumption) | assumption); first | exact h_ | (have e_ := (Kd.R_reads' HO_7.out).1; omega) | simpa using h_) (seg := [.string ((rd_T35 x7_2 a1).f0)]) (j := 1) hcl75 hcc75 (show 2 ≤ 6 from by decide) (x' := (⟨(rd_T35 x7_2 (ji49)).f0, (rd_T35 x7_2 a1).f0, (rd_T35 x7_2 (ji49)).f2, (rd_T35 x7_2 (ji49)).f3, (rd_T35 x7_2 (ji49)).f4, (rd_T35 x7_2 (ji49)).f5⟩ : S35)) (k35_mkM _ _ _ (⟨(rd_T35 x7_2 (ji49)).f0, (rd_T35 x7_2 a1).f0, (rd_T35 x7_2 (ji49)).f2, (rd_T35 x7_2 (ji49)).f3, (rd_T35 x7_2 (ji49)).f4, (rd_T35 x7_2 (ji49)).f5⟩ : S35) ) (fun _ hk => hk)
                                      have hx75_1 := hcc75 1 _ rfl
                                      (try simp only [show (k35).sz = 6 from rfl, Nat.mul_one, Nat.add_zero] at hx75_1)
                                      have hf75_1 := hfr75 1
                                      (try simp only [show (k35).sz = 6 from rfl, Nat.mul_one, Nat.add_zero] at hf75_1)
                                      clear hcl75 hcc75 hfr75 hM75
                                      go_wp2_with (first | ((with_reducible refine gate_store (t := 9) (p := 106) rfl ?_); refine store_event (t := 9) (p := 106) (v := ?vo_w76) (w1 := (wc.setCell ⟨go52, ((ji49) : Int).toNat * 6 + 1, none⟩ (.string ((rd_T35 x7_2 a1).f0)))) ?hg ?ho ?hn ?hr ?_; (case ho => rfl); (case hg => rfl); (case hn => rfl); (case hr => first | (go_simp; done) | (go_simp; rfl)); intro w76 hw; have hg : wc.grownBy w76 (some go52) := (by rw [hw]; exact HP75.2); have hp_ : Kd.R k35 35 w76 w.heap.size (fun _ => True) (.slice (some ⟨go52, 0, none⟩) x7_2.length co35) y286 := (by rw [hw, Ny286.out]; exact HP75.1); clear HP75; have n0_ := Aside0.mk (hp_); have n1_ := Aside0.mk ((by rw [hw]; exact below_set (HB.out) GB52.out : Below w.heap.size w w76)); clear HO_7; clear HB; have HO_7 := n0_; have HB := n1_; clear n0_ n1_; clear hg hw hp_) | ((with_reducible refine gate_callee (f := 9) rfl ?_); refine goesL_ (some 109) rfl rfl Tryd.func9 (by kernel_rfl) rfl #[.slice (some ⟨go52, 0, none⟩) y286.length co35] rfl (by (try simp only [List.map_toArray, List.map_cons, List.map_nil]); first | done | (rw [show y286.length = x7_2.length from (Kd.R_reads' HO_7.out).1.symm] <;> rfl) | rfl | (simp only [List.length_drop, List.length_take]; rfl)) ?_; (with_reducible refine (style_Check.calls _ _ y286 t287 t288 _ ?side1 ?side2 A53.out).mono ?_); (case side1 => repeat (first | exact (Kd.R_reads' HO_7.out).2.2 | (with_reducible refine Kd.C_alloc ?_ _) | (with_reducible refine Kd.C_drewN ?_ _) | (with_reducible refine Kd.C_drew ?_))); (case side2 => rw [show y286.length = x7_2.length from (Kd.R_reads' HO_7.out).1.symm]; exact (Kd.R_reads' HO_7.out).2.1); rintro e w77 ⟨rfl, hb⟩; refine ⟨_, rfl, ?_⟩; have n0_ := Aside0.mk (Kd.R_below (by (with_reducible repeat (first | apply Kd.R_alloc | apply Kd.R_drewN | apply Kd.R_drew)); exact HO_7.out) hb); have n1_ := Aside0.mk (below_step (by repeat (first | (with_reducible first | exact HB.out | apply below_alloc | apply pw_below_drewN | apply below_drew1) | exact HB.out)) hb); clear HO_7; clear HB; have HO_7 := n0_; have HB := n1_; clear n0_ n1_; (try clear hb); (try clear hb2); (try clear hk); (try clear hi); have p289 : 0 ≤ (a2 : Int) := of_decide_eq_true (by first | (with_reducible assumption) | assumption); have q289 : a2 < (y286.length : Int) := (by have h_ : (a2 : Int) < ((x7_2.length : Int) : Int) := of_decide_eq_true (by first | (with_reducible assumption) | assumption); first | (have e_ := (Kd.R_reads' HO_7.out).1; omega) | simpa only [Ny286.out, List.length_set] using h_); have ql289 : ((a2 : Int) < ((x7_2.length : Int) : Int)) = True := eq_true (of_decide_eq_true (by first | (with_reducible assumption) | assumption)); obtain ⟨ad289, e289, hx289_0, hx289_1, hx289_2, hx289_3, hx289_4, hx289_5⟩ := at_T35 (Kd.R_reads' HO_7.out).2.2 a2 p289 q289; obtain rfl : (⟨go52, 0, none⟩ : Addr) = ad289 := (by injection e289); (first | simp only [add_plain] at hx289_0 | simp only [add_at] at hx289_0 | simp only [Addr.add, Nat.zero_add] at hx289_0 | skip); (first | simp only [add_plain] at hx289_1 | simp only [add_at] at hx289_1 | simp only [Addr.add, Nat.zero_add] at hx289_1 | skip); (first | simp only [add_plain] at hx289_2 | simp only [add_at] at hx289_2 | simp only [Addr.add, Nat.zero_add] at hx289_2 | skip); (first | simp only [add_plain] at hx289_3 | simp only [add_at] at hx289_3 | simp only [Addr.add, Nat.zero_add] at hx289_3 | skip); (first | simp only [add_plain] at hx289_4 | simp only [add_at] at hx289_4 | simp only [Addr.add, Nat.zero_add] at hx289_4 | skip); (first | simp only [add_plain] at hx289_5 | simp only [add_at] at hx289_5 | simp only [Addr.add, Nat.zero_add] at hx289_5 | skip); replace p289 := eq_true p289; replace q289 := eq_true q289) | ((first | ((with_reducible refine gate_callee (f := 17) rfl ?_); (with_reducible refine gate_dst (N := 129) rfl ?_); refine gate_guard (by rfl) ?_; dsimp only; refine goesL_ (some 129) rfl rfl Tryd.func17 (by kernel_rfl) rfl #[.slice (some ⟨go52, 0, none⟩) y286.length co35, .string ((rd_T35 y286 a2).f0), .string (⟨#[]⟩ : ByteArray), .int .i64 0, .int .i64 0] rfl (by (try simp only [List.map_toArray, List.map_cons, List.map_nil]); first | done | (rw [show y286.length = x7_2.length from (Kd.R_reads' HO_7.out).1.symm] <;> rfl) | rfl | (simp only [List.length_drop, List.length_take]; rfl)) ?_; (with_reducible refine (style_Run.calls _ _ y286 ((rd_T35 y286 a2).f0) (⟨#[]⟩ : ByteArray) 0 0 t290 _ ?side1 ?side2 A59.out).mono ?_); (case side1 => repeat (first | exact (Kd.R_reads' HO_7.out).2.2 | (with_reducible refine Kd.C_alloc ?_ _) | (with_reducible refine Kd.C_drewN ?_ _) | (with_reducible refine Kd.C_drew ?_))); (case side2 => rw [show y286.length = x7_2.length from (Kd.R_reads' HO_7.out).1.symm]; exact (Kd.R_reads' HO_7.out).2.1); rintro e w78 ⟨rfl, hb⟩; refine ⟨_, rfl, ?_⟩) | (go_at_call 17; (with_reducible refine (style_Run.calls _ _ y286 ((rd_T35 y286 a2).f0) (⟨#[]⟩ : ByteArray) 0 0 t290 _ ?side1 ?side2 A59.out).mono ?_); (case side1 => repeat (first | exact (Kd.R_reads' HO_7.out).2.2 | (with_reducible refine Kd.C_alloc ?_ _) | (with_reducible refine Kd.C_drewN ?_ _) | (with_reducible refine Kd.C_drew ?_))); (case side2 => rw [show y286.length = x7_2.length from (Kd.R_reads' HO_7.out).1.symm]; exact (Kd.R_reads' HO_7.out).2.1); rintro e w78 ⟨rfl, hb⟩)); have n0_ := Aside0.mk (Kd.R_below (by (with_reducible repeat (first | apply Kd.R_alloc | apply Kd.R_drewN | apply Kd.R_drew)); exact HO_7.out) hb); have n1_ := Aside0.mk (below_step (by repeat (first | (with_reducible first | exact HB.out | apply below_alloc | apply pw_below_drewN | apply below_drew1) | exact HB.out)) hb); clear HO_7; clear HB; have HO_7 := n0_; have HB := n1_; clear n0_ n1_; (try clear hb); (try clear hb2); (try clear hk); (try clear hi)))
                                      go_ret
                                      exact ⟨by first | rfl | (simp [errW_none, errW_some] <;> rfl) | (simp only [← hji49]; first | rfl | (simp [errW_none, errW_some] <;> rfl)) | (simp [*, errW_none, errW_some] <;> rfl), by repeat (first | (with_reducible first | exact HB.out | apply below_alloc | apply pw_below_drewN | apply below_drew1) | exact HB.out)⟩
                                  · rw [if_neg c58] at H
                                    exact absurd H (by simp)
                                · rw [if_neg c57] at H
                                  exact absurd H (by simp)
                              · rw [if_neg c56] at H
                                have c56b0 : (t288 == 16) = false := beq_eq_false_iff_ne.mpr c56
                                have c56b1 : (t288 != 16) = true := bne_iff_ne.mpr c56
                                obtain rfl := Option.some.inj H
                                have p285 : 0 ≤ (a1 : Int) := of_decide_eq_true (by first | (with_reducible assumption) | assumption)
                                have q285 : a1 < (x7_2.length : Int) := of_decide_eq_true (by first | (with_reducible assumption) | assumption)
                                obtain ⟨ad285, e285, hx285_0, hx285_1, hx285_2, hx285_3, hx285_4, hx285_5⟩ := at_T35 (Kd.R_reads' HO_7.out).2.2 a1 p285 q285
                                cases e285
                                replace p285 := eq_true p285
                                replace q285 := eq_true q285
                                have p52 : 0 ≤ ((ji49) : Int) := of_decide_eq_true (by first | (with_reducible assumption) | assumption)
                                have q52 : ((ji49) : Int) < ((x7_2.length : Int) : Int) := of_decide_eq_true (by first | (with_reducible assumption) | assumption)
                                obtain ⟨go52, co52, eo52, gb52, gl52, cl52, HG52⟩ := Kd.R_form HO_7.out (by omega)
                                (first | cases eo52 | (injection eo52 with ea_ en_ ec_; (first | subst ea_ | (injection ea_ with ea_; subst ea_)); subst ec_; clear en_))
                                have GB52 := Aside0.mk gb52
                                have GG52 := Aside0.mk HG52
                                clear gb52 gl52 HG52
                                (first | simp only [add_plain] at hx285_0 | skip)
                                (first | simp only [add_plain] at hx285_1 | skip)
                                (first | simp only [add_plain] at hx285_2 | skip)
                                (first | simp only [add_plain] at hx285_3 | skip)
                                (first | simp only [add_plain] at hx285_4 | skip)
                                (first | simp only [add_plain] at hx285_5 | skip)
                                obtain ⟨ce52, hcl52, hM52, hcc52, hfr52⟩ := Kd.R_elem HO_7.out z35 ((ji49) : Int) p52 q52
                                obtain rfl := k35_openM hM52
                                have hx52_0 : wc.cell? ⟨go52, ((ji49) : Int).toNat * 6, none⟩ = some (.string ((rd_T35 x7_2 (ji49)).f0)) := hcc52 0 _ rfl
                                have hx52_1 : wc.cell? ⟨go52, ((ji49) : Int).toNat * 6 + 1, none⟩ = some (.string ((rd_T35 x7_2 (ji49)).f1)) := hcc52 1 _ rfl
                                have hx52_2 : wc.cell? ⟨go52, ((ji49) : Int).toNat * 6 + 2, none⟩ = some (.bool ((rd_T35 x7_2 (ji49)).f2)) := hcc52 2 _ rfl
                                have hx52_3 : wc.cell? ⟨go52, ((ji49) : Int).toNat * 6 + 3, none⟩ = some (.int .i64 ((rd_T35 x7_2 (ji49)).f3)) := hcc52 3 _ rfl
                                have hx52_4 : wc.cell? ⟨go52, ((ji49) : Int).toNat * 6 + 4, none⟩ = some (.int .i64 ((rd_T35 x7_2 (ji49)).f4)) := hcc52 4 _ rfl
                                have hx52_5 : wc.cell? ⟨go52, ((ji49) : Int).toNat * 6 + 5, none⟩ = some (.int .i64 ((rd_T35 x7_2 (ji49)).f5)) := hcc52 5 _ rfl
                                have hf52_0 : wc.frozen? ⟨go52, ((ji49) : Int).toNat * 6, none⟩ = false := hfr52 0
                                have hf52_1 : wc.frozen? ⟨go52, ((ji49) : Int).toNat * 6 + 1, none⟩ = false := hfr52 1
                                have hf52_2 : wc.frozen? ⟨go52, ((ji49) : Int).toNat * 6 + 2, none⟩ = false := hfr52 2
                                have hf52_3 : wc.frozen? ⟨go52, ((ji49) : Int).toNat * 6 + 3, none⟩ = false := hfr52 3
                                have hf52_4 : wc.frozen? ⟨go52, ((ji49) : Int).toNat * 6 + 4, none⟩ = false := hfr52 4
                                have hf52_5 : wc.frozen? ⟨go52, ((ji49) : Int).toNat * 6 + 5, none⟩ = false := hfr52 5
                                clear hcl52 hcc52 hfr52 hM52
                                replace p52 := eq_true p52
                                replace q52 := eq_true q52
                                have HX79 := Aside0.mk (show Kd.R k35 35 wc w.heap.size (fun _ => True) (.slice (some ⟨go52, 0, none⟩) x7_2.length co35) x7_2 from (by (with_reducible repeat (first | apply Kd.R_alloc | apply Kd.R_drewN | apply Kd.R_drew)); exact HO_7.out))
                                obtain ⟨ce79, hcl79, hM79, hcc79, hfr79⟩ := Kd.R_elem HX79.out z35 ((ji49) : Int) (of_decide_eq_true (by first | (with_reducible assumption) | assumption)) (by have h_ : ((ji49) : Int) < ((x7_2.length : Int) : Int) := of_decide_eq_true (by first | (with_reducible assumption) | assumption); first | exact h_ | (have e_ := (Kd.R_reads' HO_7.out).1; omega) | simpa using h_)
                                obtain rfl := k35_openM hM79
                                have HP79 := Kd.R_seg HX79.out ((ji49) : Int) (of_decide_eq_true (by first | (with_reducible assumption) | assumption)) (by have h_ : ((ji49) : Int) < ((x7_2.length : Int) : Int) := of_decide_eq_true (by first | (with_reducible assumption) | assumption); first | exact h_ | (have e_ := (Kd.R_reads' HO_7.out).1; omega) | simpa using h_) (seg := [.string ((rd_T35 x7_2 a1).f0)]) (j := 1) hcl79 hcc79 (show 2 ≤ 6 from by decide) (x' := (⟨(rd_T35 x7_2 (ji49)).f0, (rd_T35 x7_2 a1).f0, (rd_T35 x7_2 (ji49)).f2, (rd_T35 x7_2 (ji49)).f3, (rd_T35 x7_2 (ji49)).f4, (rd_T35 x7_2 (ji49)).f5⟩ : S35)) (k35_mkM _ _ _ (⟨(rd_T35 x7_2 (ji49)).f0, (rd_T35 x7_2 a1).f0, (rd_T35 x7_2 (ji49)).f2, (rd_T35 x7_2 (ji49)).f3, (rd_T35 x7_2 (ji49)).f4, (rd_T35 x7_2 (ji49)).f5⟩ : S35) ) (fun _ hk => hk)
                                have hx79_1 := hcc79 1 _ rfl
                                (try simp only [show (k35).sz = 6 from rfl, Nat.mul_one, Nat.add_zero] at hx79_1)
                                have hf79_1 := hfr79 1
                                (try simp only [show (k35).sz = 6 from rfl, Nat.mul_one, Nat.add_zero] at hf79_1)
                                clear hcl79 hcc79 hfr79 hM79
                                go_wp2_with (first | ((with_reducible refine gate_store (t := 9) (p := 106) rfl ?_); refine store_event (t := 9) (p := 106) (v := ?vo_w80) (w1 := (wc.setCell ⟨go52, ((ji49) : Int).toNat * 6 + 1, none⟩ (.string ((rd_T35 x7_2 a1).f0)))) ?hg ?ho ?hn ?hr ?_; (case ho => rfl); (case hg => rfl); (case hn => rfl); (case hr => first | (go_simp; done) | (go_simp; rfl)); intro w80 hw; have hg : wc.grownBy w80 (some go52) := (by rw [hw]; exact HP79.2); have hp_ : Kd.R k35 35 w80 w.heap.size (fun _ => True) (.slice (some ⟨go52, 0, none⟩) x7_2.length co35) y286 := (by rw [hw, Ny286.out]; exact HP79.1); clear HP79; have n0_ := Aside0.mk (hp_); have n1_ := Aside0.mk ((by rw [hw]; exact below_set (HB.out) GB52.out : Below w.heap.size w w80)); clear HO_7; clear HB; have HO_7 := n0_; have HB := n1_; clear n0_ n1_; clear hg hw hp_) | ((with_reducible refine gate_callee (f := 9) rfl ?_); refine goesL_ (some 109) rfl rfl Tryd.func9 (by kernel_rfl) rfl #[.slice (some ⟨go52, 0, none⟩) y286.length co35] rfl (by (try simp only [List.map_toArray, List.map_cons, List.map_nil]); first | done | (rw [show y286.length = x7_2.length from (Kd.R_reads' HO_7.out).1.symm] <;> rfl) | rfl | (simp only [List.length_drop, List.length_take]; rfl)) ?_; (with_reducible refine (style_Check.calls _ _ y286 t287 t288 _ ?side1 ?side2 A53.out).mono ?_); (case side1 => repeat (first | exact (Kd.R_reads' HO_7.out).2.2 | (with_reducible refine Kd.C_alloc ?_ _) | (with_reducible refine Kd.C_drewN ?_ _) | (with_reducible refine Kd.C_drew ?_))); (case side2 => rw [show y286.length = x7_2.length from (Kd.R_reads' HO_7.out).1.symm]; exact (Kd.R_reads' HO_7.out).2.1); rintro e w81 ⟨rfl, hb⟩; refine ⟨_, rfl, ?_⟩; have n0_ := Aside0.mk (Kd.R_below (by (with_reducible repeat (first | apply Kd.R_alloc | apply Kd.R_drewN | apply Kd.R_drew)); exact HO_7.out) hb); have n1_ := Aside0.mk (below_step (by repeat (first | (with_reducible first | exact HB.out | apply below_alloc | apply pw_below_drewN | apply below_drew1) | exact HB.out)) hb); clear HO_7; clear HB; have HO_7 := n0_; have HB := n1_; clear n0_ n1_; (try clear hb); (try clear hb2); (try clear hk); (try clear hi)))
                                go_ret
                                exact ⟨by first | rfl | (simp [errW_none, errW_some] <;> rfl) | (simp only [← hji49]; first | rfl | (simp [errW_none, errW_some] <;> rfl)) | (simp [*, errW_none, errW_some] <;> rfl), by repeat (first | (with_reducible first | exact HB.out | apply below_alloc | apply pw_below_drewN | apply below_drew1) | exact HB.out)⟩
                            · rw [if_neg c55] at H
                              have c55b0 : (t287 == a1) = false := beq_eq_false_iff_ne.mpr c55
                              have c55b1 : (t287 != a1) = true := bne_iff_ne.mpr c55
                              obtain rfl := Option.some.inj H
                              have p285 : 0 ≤ (a1 : Int) := of_decide_eq_true (by first | (with_reducible assumption) | assumption)
                              have q285 : a1 < (x7_2.length : Int) := of_decide_eq_true (by first | (with_reducible assumption) | assumption)
                              obtain ⟨ad285, e285, hx285_0, hx285_1, hx285_2, hx285_3, hx285_4, hx285_5⟩ := at_T35 (Kd.R_reads' HO_7.out).2.2 a1 p285 q285
                              cases e285
                              replace p285 := eq_true p285
                              replace q285 := eq_true q285
                              have p52 : 0 ≤ ((ji49) : Int) := of_decide_eq_true (by first | (with_reducible assumption) | assumption)
                              have q52 : ((ji49) : Int) < ((x7_2.length : Int) : Int) := of_decide_eq_true (by first | (with_reducible assumption) | assumption)
                              obtain ⟨go52, co52, eo52, gb52, gl52, cl52, HG52⟩ := Kd.R_form HO_7.out (by omega)
                              (first | cases eo52 | (injection eo52 with ea_ en_ ec_; (first | subst ea_ | (injection ea_ with ea_; subst ea_)); subst ec_; clear en_))
                              have GB52 := Aside0.mk gb52
                              have GG52 := Aside0.mk HG52
                              clear gb52 gl52 HG52
                              (first | simp only [add_plain] at hx285_0 | skip)
                              (first | simp only [add_plain] at hx285_1 | skip)
                              (first | simp only [add_plain] at hx285_2 | skip)
                              (first | simp only [add_plain] at hx285_3 | skip)
                              (first | simp only [add_plain] at hx285_4 | skip)
                              (first | simp only [add_plain] at hx285_5 | skip)
                              obtain ⟨ce52, hcl52, hM52, hcc52, hfr52⟩ := Kd.R_elem HO_7.out z35 ((ji49) : Int) p52 q52
                              obtain rfl := k35_openM hM52
                              have hx52_0 : wc.cell? ⟨go52, ((ji49) : Int).toNat * 6, none⟩ = some (.string ((rd_T35 x7_2 (ji49)).f0)) := hcc52 0 _ rfl
                              have hx52_1 : wc.cell? ⟨go52, ((ji49) : Int).toNat * 6 + 1, none⟩ = some (.string ((rd_T35 x7_2 (ji49)).f1)) := hcc52 1 _ rfl
                              have hx52_2 : wc.cell? ⟨go52, ((ji49) : Int).toNat * 6 + 2, none⟩ = some (.bool ((rd_T35 x7_2 (ji49)).f2)) := hcc52 2 _ rfl
                              have hx52_3 : wc.cell? ⟨go52, ((ji49) : Int).toNat * 6 + 3, none⟩ = some (.int .i64 ((rd_T35 x7_2 (ji49)).f3)) := hcc52 3 _ rfl
                              have hx52_4 : wc.cell? ⟨go52, ((ji49) : Int).toNat * 6 + 4, none⟩ = some (.int .i64 ((rd_T35 x7_2 (ji49)).f4)) := hcc52 4 _ rfl
                              have hx52_5 : wc.cell? ⟨go52, ((ji49) : Int).toNat * 6 + 5, none⟩ = some (.int .i64 ((rd_T35 x7_2 (ji49)).f5)) := hcc52 5 _ rfl
                              have hf52_0 : wc.frozen? ⟨go52, ((ji49) : Int).toNat * 6, none⟩ = false := hfr52 0
                              have hf52_1 : wc.frozen? ⟨go52, ((ji49) : Int).toNat * 6 + 1, none⟩ = false := hfr52 1
                              have hf52_2 : wc.frozen? ⟨go52, ((ji49) : Int).toNat * 6 + 2, none⟩ = false := hfr52 2
                              have hf52_3 : wc.frozen? ⟨go52, ((ji49) : Int).toNat * 6 + 3, none⟩ = false := hfr52 3
                              have hf52_4 : wc.frozen? ⟨go52, ((ji49) : Int).toNat * 6 + 4, none⟩ = false := hfr52 4
                              have hf52_5 : wc.frozen? ⟨go52, ((ji49) : Int).toNat * 6 + 5, none⟩ = false := hfr52 5
                              clear hcl52 hcc52 hfr52 hM52
                              replace p52 := eq_true p52
                              replace q52 := eq_true q52
                              have HX82 := Aside0.mk (show Kd.R k35 35 wc w.heap.size (fun _ => True) (.slice (some ⟨go52, 0, none⟩) x7_2.length co35) x7_2 from (by (with_reducible repeat (first | apply Kd.R_alloc | apply Kd.R_drewN | apply Kd.R_drew)); exact HO_7.out))
                              obtain ⟨ce82, hcl82, hM82, hcc82, hfr82⟩ := Kd.R_elem HX82.out z35 ((ji49) : Int) (of_decide_eq_true (by first | (with_reducible assumption) | assumption)) (by have h_ : ((ji49) : Int) < ((x7_2.length : Int) : Int) := of_decide_eq_true (by first | (with_reducible assumption) | assumption); first | exact h_ | (have e_ := (Kd.R_reads' HO_7.out).1; omega) | simpa using h_)
                              obtain rfl := k35_openM hM82
                              have HP82 := Kd.R_seg HX82.out ((ji49) : Int) (of_decide_eq_true (by first | (with_reducible assumption) | assumption)) (by have h_ : ((ji49) : Int) < ((x7_2.length : Int) : Int) := of_decide_eq_true (by first | (with_reducible assumption) | assumption); first | exact h_ | (have e_ := (Kd.R_reads' HO_7.out).1; omega) | simpa using h_) (seg := [.string ((rd_T35 x7_2 a1).f0)]) (j := 1) hcl82 hcc82 (show 2 ≤ 6 from by decide) (x' := (⟨(rd_T35 x7_2 (ji49)).f0, (rd_T35 x7_2 a1).f0, (rd_T35 x7_2 (ji49)).f2, (rd_T35 x7_2 (ji49)).f3, (rd_T35 x7_2 (ji49)).f4, (rd_T35 x7_2 (ji49)).f5⟩ : S35)) (k35_mkM _ _ _ (⟨(rd_T35 x7_2 (ji49)).f0, (rd_T35 x7_2 a1).f0, (rd_T35 x7_2 (ji49)).f2, (rd_T35 x7_2 (ji49)).f3, (rd_T35 x7_2 (ji49)).f4, (rd_T35 x7_2 (ji49)).f5⟩ : S35) ) (fun _ hk => hk)
                              have hx82_1 := hcc82 1 _ rfl
                              (try simp only [show (k35).sz = 6 from rfl, Nat.mul_one, Nat.add_zero] at hx82_1)
                              have hf82_1 := hfr82 1
                              (try simp only [show (k35).sz = 6 from rfl, Nat.mul_one, Nat.add_zero] at hf82_1)
                              clear hcl82 hcc82 hfr82 hM82
                              go_wp2_with (first | ((with_reducible refine gate_store (t := 9) (p := 106) rfl ?_); refine store_event (t := 9) (p := 106) (v := ?vo_w83) (w1 := (wc.setCell ⟨go52, ((ji49) : Int).toNat * 6 + 1, none⟩ (.string ((rd_T35 x7_2 a1).f0)))) ?hg ?ho ?hn ?hr ?_; (case ho => rfl); (case hg => rfl); (case hn => rfl); (case hr => first | (go_simp; done) | (go_simp; rfl)); intro w83 hw; have hg : wc.grownBy w83 (some go52) := (by rw [hw]; exact HP82.2); have hp_ : Kd.R k35 35 w83 w.heap.size (fun _ => True) (.slice (some ⟨go52, 0, none⟩) x7_2.length co35) y286 := (by rw [hw, Ny286.out]; exact HP82.1); clear HP82; have n0_ := Aside0.mk (hp_); have n1_ := Aside0.mk ((by rw [hw]; exact below_set (HB.out) GB52.out : Below w.heap.size w w83)); clear HO_7; clear HB; have HO_7 := n0_; have HB := n1_; clear n0_ n1_; clear hg hw hp_) | ((with_reducible refine gate_callee (f := 9) rfl ?_); refine goesL_ (some 109) rfl rfl Tryd.func9 (by kernel_rfl) rfl #[.slice (some ⟨go52, 0, none⟩) y286.length co35] rfl (by (try simp only [List.map_toArray, List.map_cons, List.map_nil]); first | done | (rw [show y286.length = x7_2.length from (Kd.R_reads' HO_7.out).1.symm] <;> rfl) | rfl | (simp only [List.length_drop, List.length_take]; rfl)) ?_; (with_reducible refine (style_Check.calls _ _ y286 t287 t288 _ ?side1 ?side2 A53.out).mono ?_); (case side1 => repeat (first | exact (Kd.R_reads' HO_7.out).2.2 | (with_reducible refine Kd.C_alloc ?_ _) | (with_reducible refine Kd.C_drewN ?_ _) | (with_reducible refine Kd.C_drew ?_))); (case side2 => rw [show y286.length = x7_2.length from (Kd.R_reads' HO_7.out).1.symm]; exact (Kd.R_reads' HO_7.out).2.1); rintro e w84 ⟨rfl, hb⟩; refine ⟨_, rfl, ?_⟩; have n0_ := Aside0.mk (Kd.R_below (by (with_reducible repeat (first | apply Kd.R_alloc | apply Kd.R_drewN | apply Kd.R_drew)); exact HO_7.out) hb); have n1_ := Aside0.mk (below_step (by repeat (first | (with_reducible first | exact HB.out | apply below_alloc | apply pw_below_drewN | apply below_drew1) | exact HB.out)) hb); clear HO_7; clear HB; have HO_7 := n0_; have HB := n1_; clear n0_ n1_; (try clear hb); (try clear hb2); (try clear hk); (try clear hi)))
                              go_ret
                              exact ⟨by first | rfl | (simp [errW_none, errW_some] <;> rfl) | (simp only [← hji49]; first | rfl | (simp [errW_none, errW_some] <;> rfl)) | (simp [*, errW_none, errW_some] <;> rfl), by repeat (first | (with_reducible first | exact HB.out | apply below_alloc | apply pw_below_drewN | apply below_drew1) | exact HB.out)⟩
                          · replace c54 := Bool.eq_false_iff.mpr c54
                            subst c54
                            have H1 : (some false) = some r := by rw [if_neg (show ¬ (false = true) by decide)] at H; exact H
                            clear H
                            have H := H1
                            clear H1
                            obtain rfl := Option.some.inj H
                            have p285 : 0 ≤ (a1 : Int) := of_decide_eq_true (by first | (with_reducible assumption) | assumption)
                            have q285 : a1 < (x7_2.length : Int) := of_decide_eq_true (by first | (with_reducible assumption) | assumption)
                            obtain ⟨ad285, e285, hx285_0, hx285_1, hx285_2, hx285_3, hx285_4, hx285_5⟩ := at_T35 (Kd.R_reads' HO_7.out).2.2 a1 p285 q285
                            cases e285
                            replace p285 := eq_true p285
                            replace q285 := eq_true q285
                            have p52 : 0 ≤ ((ji49) : Int) := of_decide_eq_true (by first | (with_reducible assumption) | assumption)
                            have q52 : ((ji49) : Int) < ((x7_2.length : Int) : Int) := of_decide_eq_true (by first | (with_reducible assumption) | assumption)
                            obtain ⟨go52, co52, eo52, gb52, gl52, cl52, HG52⟩ := Kd.R_form HO_7.out (by omega)
                            (first | cases eo52 | (injection eo52 with ea_ en_ ec_; (first | subst ea_ | (injection ea_ with ea_; subst ea_)); subst ec_; clear en_))
                            have GB52 := Aside0.mk gb52
                            have GG52 := Aside0.mk HG52
                            clear gb52 gl52 HG52
                            (first | simp only [add_plain] at hx285_0 | skip)
                            (first | simp only [add_plain] at hx285_1 | skip)
                            (first | simp only [add_plain] at hx285_2 | skip)
                            (first | simp only [add_plain] at hx285_3 | skip)
                            (first | simp only [add_plain] at hx285_4 | skip)
                            (first | simp only [add_plain] at hx285_5 | skip)
                            obtain ⟨ce52, hcl52, hM52, hcc52, hfr52⟩ := Kd.R_elem HO_7.out z35 ((ji49) : Int) p52 q52
                            obtain rfl := k35_openM hM52
                            have hx52_0 : wc.cell? ⟨go52, ((ji49) : Int).toNat * 6, none⟩ = some (.string ((rd_T35 x7_2 (ji49)).f0)) := hcc52 0 _ rfl
                            have hx52_1 : wc.cell? ⟨go52, ((ji49) : Int).toNat * 6 + 1, none⟩ = some (.string ((rd_T35 x7_2 (ji49)).f1)) := hcc52 1 _ rfl
                            have hx52_2 : wc.cell? ⟨go52, ((ji49) : Int).toNat * 6 + 2, none⟩ = some (.bool ((rd_T35 x7_2 (ji49)).f2)) := hcc52 2 _ rfl
                            have hx52_3 : wc.cell? ⟨go52, ((ji49) : Int).toNat * 6 + 3, none⟩ = some (.int .i64 ((rd_T35 x7_2 (ji49)).f3)) := hcc52 3 _ rfl
                            have hx52_4 : wc.cell? ⟨go52, ((ji49) : Int).toNat * 6 + 4, none⟩ = some (.int .i64 ((rd_T35 x7_2 (ji49)).f4)) := hcc52 4 _ rfl
                            have hx52_5 : wc.cell? ⟨go52, ((ji49) : Int).toNat * 6 + 5, none⟩ = some (.int .i64 ((rd_T35 x7_2 (ji49)).f5)) := hcc52 5 _ rfl
                            have hf52_0 : wc.frozen? ⟨go52, ((ji49) : Int).toNat * 6, none⟩ = false := hfr52 0
                            have hf52_1 : wc.frozen? ⟨go52, ((ji49) : Int).toNat * 6 + 1, none⟩ = false := hfr52 1
                            have hf52_2 : wc.frozen? ⟨go52, ((ji49) : Int).toNat * 6 + 2, none⟩ = false := hfr52 2
                            have hf52_3 : wc.frozen? ⟨go52, ((ji49) : Int).toNat * 6 + 3, none⟩ = false := hfr52 3
                            have hf52_4 : wc.frozen? ⟨go52, ((ji49) : Int).toNat * 6 + 4, none⟩ = false := hfr52 4
                            have hf52_5 : wc.frozen? ⟨go52, ((ji49) : Int).toNat * 6 + 5, none⟩ = false := hfr52 5
                            clear hcl52 hcc52 hfr52 hM52
                            replace p52 := eq_true p52
                            replace q52 := eq_true q52
                            have HX85 := Aside0.mk (show Kd.R k35 35 wc w.heap.size (fun _ => True) (.slice (some ⟨go52, 0, none⟩) x7_2.length co35) x7_2 from (by (with_reducible repeat (first | apply Kd.R_alloc | apply Kd.R_drewN | apply Kd.R_drew)); exact HO_7.out))
                            obtain ⟨ce85, hcl85, hM85, hcc85, hfr85⟩ := Kd.R_elem HX85.out z35 ((ji49) : Int) (of_decide_eq_true (by first | (with_reducible assumption) | assumption)) (by have h_ : ((ji49) : Int) < ((x7_2.length : Int) : Int) := of_decide_eq_true (by first | (with_reducible assumption) | assumption); first | exact h_ | (have e_ := (Kd.R_reads' HO_7.out).1; omega) | simpa using h_)
                            obtain rfl := k35_openM hM85
                            have HP85 := Kd.R_seg HX85.out ((ji49) : Int) (of_decide_eq_true (by first | (with_reducible assumption) | assumption)) (by have h_ : ((ji49) : Int) < ((x7_2.length : Int) : Int) := of_decide_eq_true (by first | (with_reducible assumption) | assumption); first | exact h_ | (have e_ := (Kd.R_reads' HO_7.out).1; omega) | simpa using h_) (seg := [.string ((rd_T35 x7_2 a1).f0)]) (j := 1) hcl85 hcc85 (show 2 ≤ 6 from by decide) (x' := (⟨(rd_T35 x7_2 (ji49)).f0, (rd_T35 x7_2 a1).f0, (rd_T35 x7_2 (ji49)).f2, (rd_T35 x7_2 (ji49)).f3, (rd_T35 x7_2 (ji49)).f4, (rd_T35 x7_2 (ji49)).f5⟩ : S35)) (k35_mkM _ _ _ (⟨(rd_T35 x7_2 (ji49)).f0, (rd_T35 x7_2 a1).f0, (rd_T35 x7_2 (ji49)).f2, (rd_T35 x7_2 (ji49)).f3, (rd_T35 x7_2 (ji49)).f4, (rd_T35 x7_2 (ji49)).f5⟩ : S35) ) (fun _ hk => hk)
                            have hx85_1 := hcc85 1 _ rfl
                            (try simp only [show (k35).sz = 6 from rfl, Nat.mul_one, Nat.add_zero] at hx85_1)
                            have hf85_1 := hfr85 1
                            (try simp only [show (k35).sz = 6 from rfl, Nat.mul_one, Nat.add_zero] at hf85_1)
                            clear hcl85 hcc85 hfr85 hM85
                            go_wp2_with (first | ((with_reducible refine gate_store (t := 9) (p := 106) rfl ?_); refine store_event (t := 9) (p := 106) (v := ?vo_w86) (w1 := (wc.setCell ⟨go52, ((ji49) : Int).toNat * 6 + 1, none⟩ (.string ((rd_T35 x7_2 a1).f0)))) ?hg ?ho ?hn ?hr ?_; (case ho => rfl); (case hg => rfl); (case hn => rfl); (case hr => first | (go_simp; done) | (go_simp; rfl)); intro w86 hw; have hg : wc.grownBy w86 (some go52) := (by rw [hw]; exact HP85.2); have hp_ : Kd.R k35 35 w86 w.heap.size (fun _ => True) (.slice (some ⟨go52, 0, none⟩) x7_2.length co35) y286 := (by rw [hw, Ny286.out]; exact HP85.1); clear HP85; have n0_ := Aside0.mk (hp_); have n1_ := Aside0.mk ((by rw [hw]; exact below_set (HB.out) GB52.out : Below w.heap.size w w86)); clear HO_7; clear HB; have HO_7 := n0_; have HB := n1_; clear n0_ n1_; clear hg hw hp_) | ((with_reducible refine gate_callee (f := 9) rfl ?_); refine goesL_ (some 109) rfl rfl Tryd.func9 (by kernel_rfl) rfl #[.slice (some ⟨go52, 0, none⟩) y286.length co35] rfl (by (try simp only [List.map_toArray, List.map_cons, List.map_nil]); first | done | (rw [show y286.length = x7_2.length from (Kd.R_reads' HO_7.out).1.symm] <;> rfl) | rfl | (simp only [List.length_drop, List.length_take]; rfl)) ?_; (with_reducible refine (style_Check.calls _ _ y286 t287 t288 _ ?side1 ?side2 A53.out).mono ?_); (case side1 => repeat (first | exact (Kd.R_reads' HO_7.out).2.2 | (with_reducible refine Kd.C_alloc ?_ _) | (with_reducible refine Kd.C_drewN ?_ _) | (with_reducible refine Kd.C_drew ?_))); (case side2 => rw [show y286.length = x7_2.length from (Kd.R_reads' HO_7.out).1.symm]; exact (Kd.R_reads' HO_7.out).2.1); rintro e w87 ⟨rfl, hb⟩; refine ⟨_, rfl, ?_⟩; have n0_ := Aside0.mk (Kd.R_below (by (with_reducible repeat (first | apply Kd.R_alloc | apply Kd.R_drewN | apply Kd.R_drew)); exact HO_7.out) hb); have n1_ := Aside0.mk (below_step (by repeat (first | (with_reducible first | exact HB.out | apply below_alloc | apply pw_below_drewN | apply below_drew1) | exact HB.out)) hb); clear HO_7; clear HB; have HO_7 := n0_; have HB := n1_; clear n0_ n1_; (try clear hb); (try clear hb2); (try clear hk); (try clear hi)))
                            go_ret
                            exact ⟨by first | rfl | (simp [errW_none, errW_some] <;> rfl) | (simp only [← hji49]; first | rfl | (simp [errW_none, errW_some] <;> rfl)) | (simp [*, errW_none, errW_some] <;> rfl), by repeat (first | (with_reducible first | exact HB.out | apply below_alloc | apply pw_below_drewN | apply below_drew1) | exact HB.out)⟩
                        · rw [if_neg c51] at H
                          exact absurd H (by simp)
                      · rw [if_neg c50] at H
                        exact absurd H (by simp)
                    · rw [if_neg c48] at H
                      exact absurd H (by simp)
                  · rw [if_neg c47] at H
                    exact absurd H (by simp)

/-- THE ONE PURE STATEMENT of rubricatorlaw14_StyleRings: yours. -/
def rubricatorlaw14_StyleRings.Pure : Prop := ∀ (a0 : Int) (a1 : Int) (a2 : Int), (Lit.int .i64 a0).wf = true → (Lit.int .i64 a1).wf = true → (Lit.int .i64 a2).wf = true → ∃ k, rubricatorlaw14_StyleRings.f k a0 a1 a2 = some true
theorem rubricatorlaw14_StyleRings.walk (P : rubricatorlaw14_StyleRings.Pure) (a0 : Int) (a1 : Int) (a2 : Int) (w : World) (w0 : (Lit.int .i64 a0).wf = true) (w1 : (Lit.int .i64 a1).wf = true) (w2 : (Lit.int .i64 a2).wf = true) :
    Calls Tryd.prog 7 #[.int .i64 a0, .int .i64 a1, .int .i64 a2] w fun e w' => e = .returned (.bool true) ∧ Below w.heap.size w w' := by
  obtain ⟨k, h⟩ := P a0 a1 a2 w0 w1 w2
  refine (rubricatorlaw14_StyleRings.calls k a0 a1 a2 true w h).mono ?_
  rintro e w' ⟨rfl, hd⟩
  exact ⟨rfl, hd⟩

end Go.Proofs.YtahgfbficidjlaaDoor.PA
