-- Printed by a program of this workplace (a turned printer): functions, and proofs that the calls come to them.
import Derived.Test.YtahgfbficidjlaaDoorPAx0
import Derived.Test.YtahgfbficidjlaaDoorPAx4
import Derived.Test.YtahgfbficidjlaaDoorPAx5
namespace Go.Proofs.YtahgfbficidjlaaDoor.PA
open Go.RowKit Go.Proofs.YtahgfbficidjlaaDoorW.PrintWords Go.Proofs.YtahgfbficidjlaaDoorW.PrintLast Go.Proofs.YtahgfbficidjlaaDoorW.PrintMore
attribute [local go_sem] max2_int min2_int max_two min_two max_three min_three max_four min_four   -- for this text's walks alone
set_option linter.unusedVariables false
set_option linter.unusedSimpArgs false

/-! ### rubricatorlaw14_StyleToggles: function 6 -/
mutual
def rubricatorlaw14_StyleToggles.j0 : Nat → Bool → Bool → Int → Int → Bool → Option (Bool)
  | 0, _, _, _, _, _ => none
  | k + 1, x0, x1, x2, x3, x19 => if x19 = true then ((rubricatorlaw14_known.f k).bind fun t249 => (some t249)) else ((some (([(⟨(⟨#[112]⟩ : ByteArray), (⟨#[]⟩ : ByteArray), false, 0, 0, 0⟩ : S35), (⟨(⟨#[114]⟩ : ByteArray), (⟨#[]⟩ : ByteArray), true, 0, 0, 0⟩ : S35)] : List (S35)) : List (S35))).bind fun y250 => (if x0 = true then (if 0 < (y250.length : Int) then (rubricatorlaw14_StyleToggles.j1 k x0 x1 x2 x3 (y250.set (0 : Int).toNat (⟨(rd_T35 y250 0).f0, (rd_T35 y250 0).f1, (rd_T35 y250 0).f2, 1, (rd_T35 y250 0).f4, (rd_T35 y250 0).f5⟩ : S35))) else (none)) else (rubricatorlaw14_StyleToggles.j1 k x0 x1 x2 x3 y250)))
def rubricatorlaw14_StyleToggles.j1 : Nat → Bool → Bool → Int → Int → List (S35) → Option (Bool)
  | 0, _, _, _, _, _ => none
  | k + 1, x0, x1, x2, x3, x9 => if x1 = true then (if 1 < (x9.length : Int) then (rubricatorlaw14_StyleToggles.j2 k x0 x1 x2 x3 (x9.set (1 : Int).toNat (⟨(rd_T35 x9 1).f0, (rd_T35 x9 1).f1, (rd_T35 x9 1).f2, 1, (rd_T35 x9 1).f4, (rd_T35 x9 1).f5⟩ : S35))) else (none)) else (rubricatorlaw14_StyleToggles.j2 k x0 x1 x2 x3 x9)
def rubricatorlaw14_StyleToggles.j2 : Nat → Bool → Bool → Int → Int → List (S35) → Option (Bool)
  | 0, _, _, _, _, _ => none
  | k + 1, x0, x1, x2, x3, x9 => rubricatorlaw14_StyleToggles.l0 k x0 x1 x2 x3 x9 (⟨#[112]⟩ : ByteArray) (⟨#[114]⟩ : ByteArray) 0
def rubricatorlaw14_StyleToggles.l0 : Nat → Bool → Bool → Int → Int → List (S35) → ByteArray → ByteArray → Int → Option (Bool)
  | 0, _, _, _, _, _, _, _, _ => none
  | k + 1, x0, x1, x2, x3, x9, x10, x11, x12 => if x12 < x3 then (if x10.size + 1 ≤ 9223372036854775807 then (if x11.size + 1 ≤ 9223372036854775807 then ((some (([(⟨x10 ++ (⟨#[112]⟩ : ByteArray), x10, false, 0, 0, 0⟩ : S35), (⟨x11 ++ (⟨#[114]⟩ : ByteArray), x11, true, 0, 0, 0⟩ : S35)] : List (S35)) : List (S35))).bind fun y255 => (if x9.length + y255.length < 2199023255552 then (rubricatorlaw14_StyleToggles.l0 k x0 x1 x2 x3 (x9 ++ y255) (x10 ++ (⟨#[112]⟩ : ByteArray)) (x11 ++ (⟨#[114]⟩ : ByteArray)) (wrap64 (x12 + 1))) else (none))) else (none)) else (none)) else (if x2 = 1 then (rubricatorlaw14_StyleToggles.j4 k x2 x9 x10 x11 0 true) else (if x2 = 0 then (rubricatorlaw14_StyleToggles.j4 k x2 x9 x10 x11 0 (x0 != x1)) else (rubricatorlaw14_StyleToggles.j4 k x2 x9 x10 x11 0 false)))
def rubricatorlaw14_StyleToggles.j4 : Nat → Int → List (S35) → ByteArray → ByteArray → Int → Bool → Option (Bool)
  | 0, _, _, _, _, _, _ => none
  | k + 1, x2, x9, x10, x11, x13, x62 => if x62 = true then ((style_Run.f x9 x10 x11 x2 0).bind fun t261 => (if t261 = 1 then ((rubricatorlaw14_known.f k).bind fun t262 => (some t262)) else (some false))) else ((style_Run.f x9 x10 x11 x2 0).bind fun t263 => (if t263 = x13 then ((rubricatorlaw14_known.f k).bind fun t264 => (some t264)) else (some false)))
end
def rubricatorlaw14_StyleToggles.f (k : Nat) (a0 : Bool) (a1 : Bool) (a2 : Int) (a3 : Int) : Option (Bool) := if a3 < 0 then (rubricatorlaw14_StyleToggles.j0 k a0 a1 a2 a3 true) else (rubricatorlaw14_StyleToggles.j0 k a0 a1 a2 a3 (decide (a3 > 20)))
theorem rubricatorlaw14_StyleToggles.mono_l : ∀ k, (∀ y0 y1 y2 y3 y4, LeO (rubricatorlaw14_StyleToggles.j0 k y0 y1 y2 y3 y4) (rubricatorlaw14_StyleToggles.j0 (k + 1) y0 y1 y2 y3 y4)) ∧ (∀ y0 y1 y2 y3 y4, LeO (rubricatorlaw14_StyleToggles.j1 k y0 y1 y2 y3 y4) (rubricatorlaw14_StyleToggles.j1 (k + 1) y0 y1 y2 y3 y4)) ∧ (∀ y0 y1 y2 y3 y4, LeO (rubricatorlaw14_StyleToggles.j2 k y0 y1 y2 y3 y4) (rubricatorlaw14_StyleToggles.j2 (k + 1) y0 y1 y2 y3 y4)) ∧ (∀ y0 y1 y2 y3 y4 y5 y6 y7, LeO (rubricatorlaw14_StyleToggles.l0 k y0 y1 y2 y3 y4 y5 y6 y7) (rubricatorlaw14_StyleToggles.l0 (k + 1) y0 y1 y2 y3 y4 y5 y6 y7)) ∧ (∀ y0 y1 y2 y3 y4 y5, LeO (rubricatorlaw14_StyleToggles.j4 k y0 y1 y2 y3 y4 y5) (rubricatorlaw14_StyleToggles.j4 (k + 1) y0 y1 y2 y3 y4 y5))
  | 0 => ⟨fun _ _ _ _ _ r h => by simp [rubricatorlaw14_StyleToggles.j0] at h, fun _ _ _ _ _ r h => by simp [rubricatorlaw14_StyleToggles.j1] at h, fun _ _ _ _ _ r h => by simp [rubricatorlaw14_StyleToggles.j2] at h, fun _ _ _ _ _ _ _ _ r h => by simp [rubricatorlaw14_StyleToggles.l0] at h, fun _ _ _ _ _ _ r h => by simp [rubricatorlaw14_StyleToggles.j4] at h⟩
  | k + 1 => by
    obtain ⟨ih0, ih1, ih2, ih3, ih4⟩ := rubricatorlaw14_StyleToggles.mono_l k
    refine ⟨?_, ?_, ?_, ?_, ?_⟩
    · intro y0 y1 y2 y3 y4
      unfold rubricatorlaw14_StyleToggles.j0
      repeat' first
      | (with_reducible exact ih0 _ _ _ _ _)
      | (with_reducible exact ih1 _ _ _ _ _)
      | (with_reducible exact ih2 _ _ _ _ _)
      | (with_reducible exact ih3 _ _ _ _ _ _ _ _)
      | (with_reducible exact ih4 _ _ _ _ _ _)
      | (with_reducible exact rubricatorlaw14_known.mono _)
      | (with_reducible exact LeO.refl _)
      | (with_reducible exact LeO.none _)
      | (with_reducible refine LeO.ite ?_ ?_)
      | (with_reducible refine LeO.bind ?_ (fun _ => ?_))
      | exact ih0 _ _ _ _ _
      | exact ih1 _ _ _ _ _
      | exact ih2 _ _ _ _ _
      | exact ih3 _ _ _ _ _ _ _ _
      | exact ih4 _ _ _ _ _ _
      | exact rubricatorlaw14_known.mono _
      | exact LeO.none _
      | refine LeO.ite ?_ ?_
      | refine LeO.bind ?_ (fun _ => ?_)
    · intro y0 y1 y2 y3 y4
      unfold rubricatorlaw14_StyleToggles.j1
      repeat' first
      | (with_reducible exact ih0 _ _ _ _ _)
      | (with_reducible exact ih1 _ _ _ _ _)
      | (with_reducible exact ih2 _ _ _ _ _)
      | (with_reducible exact ih3 _ _ _ _ _ _ _ _)
      | (with_reducible exact ih4 _ _ _ _ _ _)
      | (with_reducible exact rubricatorlaw14_known.mono _)
      | (with_reducible exact LeO.refl _)
      | (with_reducible exact LeO.none _)
      | (with_reducible refine LeO.ite ?_ ?_)
      | (with_reducible refine LeO.bind ?_ (fun _ => ?_))
      | exact ih0 _ _ _ _ _
      | exact ih1 _ _ _ _ _
      | exact ih2 _ _ _ _ _
      | exact ih3 _ _ _ _ _ _ _ _
      | exact ih4 _ _ _ _ _ _
      | exact rubricatorlaw14_known.mono _
      | exact LeO.none _
      | refine LeO.ite ?_ ?_
      | refine LeO.bind ?_ (fun _ => ?_)
    · intro y0 y1 y2 y3 y4
      unfold rubricatorlaw14_StyleToggles.j2
      repeat' first
      | (with_reducible exact ih0 _ _ _ _ _)
      | (with_reducible exact ih1 _ _ _ _ _)
      | (with_reducible exact ih2 _ _ _ _ _)
      | (with_reducible exact ih3 _ _ _ _ _ _ _ _)
      | (with_reducible exact ih4 _ _ _ _ _ _)
      | (with_reducible exact rubricatorlaw14_known.mono _)
      | (with_reducible exact LeO.refl _)
      | (with_reducible exact LeO.none _)
      | (with_reducible refine LeO.ite ?_ ?_)
      | (with_reducible refine LeO.bind ?_ (fun _ => ?_))
      | exact ih0 _ _ _ _ _
      | exact ih1 _ _ _ _ _
      | exact ih2 _ _ _ _ _
      | exact ih3 _ _ _ _ _ _ _ _
      | exact ih4 _ _ _ _ _ _
      | exact rubricatorlaw14_known.mono _
      | exact LeO.none _
      | refine LeO.ite ?_ ?_
      | refine LeO.bind ?_ (fun _ => ?_)
    · intro y0 y1 y2 y3 y4 y5 y6 y7
      unfold rubricatorlaw14_StyleToggles.l0
      repeat' first
      | (with_reducible exact ih0 _ _ _ _ _)
      | (with_reducible exact ih1 _ _ _ _ _)
      | (with_reducible exact ih2 _ _ _ _ _)
      | (with_reducible exact ih3 _ _ _ _ _ _ _ _)
      | (with_reducible exact ih4 _ _ _ _ _ _)
      | (with_reducible exact rubricatorlaw14_known.mono _)
      | (with_reducible exact LeO.refl _)
      | (with_reducible exact LeO.none _)
      | (with_reducible refine LeO.ite ?_ ?_)
      | (with_reducible refine LeO.bind ?_ (fun _ => ?_))
      | exact ih0 _ _ _ _ _
      | exact ih1 _ _ _ _ _
      | exact ih2 _ _ _ _ _
      | exact ih3 _ _ _ _ _ _ _ _
      | exact ih4 _ _ _ _ _ _
      | exact rubricatorlaw14_known.mono _
      | exact LeO.none _
      | refine LeO.ite ?_ ?_
      | refine LeO.bind ?_ (fun _ => ?_)
    · intro y0 y1 y2 y3 y4 y5
      unfold rubricatorlaw14_StyleToggles.j4
      repeat' first
      | (with_reducible exact ih0 _ _ _ _ _)
      | (with_reducible exact ih1 _ _ _ _ _)
      | (with_reducible exact ih2 _ _ _ _ _)
      | (with_reducible exact ih3 _ _ _ _ _ _ _ _)
      | (with_reducible exact ih4 _ _ _ _ _ _)
      | (with_reducible exact rubricatorlaw14_known.mono _)
      | (with_reducible exact LeO.refl _)
      | (with_reducible exact LeO.none _)
      | (with_reducible refine LeO.ite ?_ ?_)
      | (with_reducible refine LeO.bind ?_ (fun _ => ?_))
      | exact ih0 _ _ _ _ _
      | exact ih1 _ _ _ _ _
      | exact ih2 _ _ _ _ _
      | exact ih3 _ _ _ _ _ _ _ _
      | exact ih4 _ _ _ _ _ _
      | exact rubricatorlaw14_known.mono _
      | exact LeO.none _
      | refine LeO.ite ?_ ?_
      | refine LeO.bind ?_ (fun _ => ?_)
theorem rubricatorlaw14_StyleToggles.mono : ∀ a0 a1 a2 a3 k, LeO (rubricatorlaw14_StyleToggles.f k a0 a1 a2 a3) (rubricatorlaw14_StyleToggles.f (k + 1) a0 a1 a2 a3) := by
  intro a0 a1 a2 a3 k
  obtain ⟨ih0, ih1, ih2, ih3, ih4⟩ := rubricatorlaw14_StyleToggles.mono_l k
  unfold rubricatorlaw14_StyleToggles.f
  repeat' first
      | (with_reducible exact ih0 _ _ _ _ _)
      | (with_reducible exact ih1 _ _ _ _ _)
      | (with_reducible exact ih2 _ _ _ _ _)
      | (with_reducible exact ih3 _ _ _ _ _ _ _ _)
      | (with_reducible exact ih4 _ _ _ _ _ _)
      | (with_reducible exact rubricatorlaw14_known.mono _)
      | (with_reducible exact LeO.refl _)
      | (with_reducible exact LeO.none _)
      | (with_reducible refine LeO.ite ?_ ?_)
      | (with_reducible refine LeO.bind ?_ (fun _ => ?_))
      | exact ih0 _ _ _ _ _
      | exact ih1 _ _ _ _ _
      | exact ih2 _ _ _ _ _
      | exact ih3 _ _ _ _ _ _ _ _
      | exact ih4 _ _ _ _ _ _
      | exact rubricatorlaw14_known.mono _
      | exact LeO.none _
      | refine LeO.ite ?_ ?_
      | refine LeO.bind ?_ (fun _ => ?_)
set_option maxHeartbeats 8000000 in
set_option maxRecDepth 100000 in
theorem rubricatorlaw14_StyleToggles.calls (k : Nat) (a0 : Bool) (a1 : Bool) (a2 : Int) (a3 : Int) (r : Bool) (w : World) (h : rubricatorlaw14_StyleToggles.f k a0 a1 a2 a3 = some r) :
    Calls Tryd.prog 6 #[.bool a0, .bool a1, .int .i64 a2, .int .i64 a3] w fun e w' => e = .returned (.bool r) ∧ Below w.heap.size w w' := by
  have hu35 := Tryd.underlying35
  have HB := Aside0.mk (Below.refl w.heap.size w)
  have H : (if a3 < 0 then (rubricatorlaw14_StyleToggles.j0 k a0 a1 a2 a3 true) else (rubricatorlaw14_StyleToggles.j0 k a0 a1 a2 a3 (decide (a3 > 20)))) = some r := h
  clear h
  have HC5 := Aside0.mk H
  clear H
  go_enter Tryd.func6, Tryd.ntmps6
  go_upto_region 1 with (fail)
  go_cut [19] (fun v19 wc => ∃ (kq : Nat) (x19_4 : Bool), v19 = .bool x19_4 ∧ Aside0 (rubricatorlaw14_StyleToggles.j0 kq a0 a1 a2 a3 x19_4 = some r) ∧ Aside0 (kq ≤ k) ∧ Aside0 (Below w.heap.size w wc))
  case first =>
    have H := HC5.out
    clear HC5
    by_cases c6 : a3 < 0
    · rw [if_pos c6] at H
      have c6b0 : decide (a3 < 0) = true := decide_eq_true c6
      clear c6
      (first | rw [c6b0] | (simp only [i64_w, i32_w]; rw [c6b0]) | skip)
      have H' := Aside0.mk H
      clear H
      go_wp2
      go_meet
      case rel => exact ⟨_, (true), (by first | rfl | (simp; done) | (simp [*]; done)), H', ⟨by first | omega | exact Nat.le_refl _⟩, ⟨by repeat (first | (with_reducible first | exact HB.out | apply below_alloc | apply pw_below_drewN | apply below_drew1) | exact HB.out)⟩⟩
    · rw [if_neg c6] at H
      have c6b0 : decide (a3 < 0) = false := decide_eq_false c6
      clear c6
      (first | rw [c6b0] | (simp only [i64_w, i32_w]; rw [c6b0]) | skip)
      have H' := Aside0.mk H
      clear H
      go_wp2
      go_meet
      case rel => exact ⟨_, (decide (a3 > 20)), (by first | rfl | (simp; done) | (simp [*]; done)), H', ⟨by first | omega | exact Nat.le_refl _⟩, ⟨by repeat (first | (with_reducible first | exact HB.out | apply below_alloc | apply pw_below_drewN | apply below_drew1) | exact HB.out)⟩⟩
  case rest =>
    clear HC5
    try clear p2
    try clear c6
    try clear c6b0
    obtain ⟨kq, x19_4, rfl, HA, HJ4, HB⟩ := hcut
    cases kq with
    | zero => exact absurd HA.out (by simp [rubricatorlaw14_StyleToggles.j0])
    | succ kj4 =>
      have H := HA.out
      clear HA
      simp only [rubricatorlaw14_StyleToggles.j0] at H
      by_cases c7 : x19_4 = true
      · subst c7
        have H1 : ((rubricatorlaw14_known.f kj4).bind fun t249 => (some t249)) = some r := by rw [if_pos rfl] at H; exact H
        clear H
        have H := H1
        clear H1
        replace H := Option.bind_eq_some_iff.mp H
        obtain ⟨t249, A80, H⟩ := H
        replace H : (some t249) = some r := H
        have A8 := Aside0.mk A80
        clear A80
        obtain rfl := Option.some.inj H
        go_wp2_with (first | ((with_reducible refine gate_callee (f := 12) rfl ?_); refine goesL_ (some 20) rfl rfl Tryd.func12 (by kernel_rfl) rfl #[] rfl (by (try simp only [List.map_toArray, List.map_cons, List.map_nil]); first | done | rfl | (simp only [List.length_drop, List.length_take]; rfl)) ?_; (with_reducible refine (rubricatorlaw14_known.calls kj4  t249 _ A8.out).mono ?_); rintro e w9 ⟨rfl, hb⟩; refine ⟨_, rfl, ?_⟩; have n0_ := Aside0.mk (below_step (by repeat (first | (with_reducible first | exact HB.out | apply below_alloc | apply pw_below_drewN | apply below_drew1) | exact HB.out)) hb); clear HB; have HB := n0_; clear n0_; (try clear hb); (try clear hb2); (try clear hk); (try clear hi)))
        go_ret
        exact ⟨by first | rfl | (simp [errW_none, errW_some] <;> rfl) | (simp [*, errW_none, errW_some] <;> rfl), by repeat (first | (with_reducible first | exact HB.out | apply below_alloc | apply pw_below_drewN | apply below_drew1) | exact HB.out)⟩
      · replace c7 := Bool.eq_false_iff.mpr c7
        subst c7
        have H1 : ((some (([(⟨(⟨#[112]⟩ : ByteArray), (⟨#[]⟩ : ByteArray), false, 0, 0, 0⟩ : S35), (⟨(⟨#[114]⟩ : ByteArray), (⟨#[]⟩ : ByteArray), true, 0, 0, 0⟩ : S35)] : List (S35)) : List (S35))).bind fun y250 => (if a0 = true then (if 0 < (y250.length : Int) then (rubricatorlaw14_StyleToggles.j1 kj4 a0 a1 a2 a3 (y250.set (0 : Int).toNat (⟨(rd_T35 y250 0).f0, (rd_T35 y250 0).f1, (rd_T35 y250 0).f2, 1, (rd_T35 y250 0).f4, (rd_T35 y250 0).f5⟩ : S35))) else (none)) else (rubricatorlaw14_StyleToggles.j1 kj4 a0 a1 a2 a3 y250))) = some r := by rw [if_neg (show ¬ (false = true) by decide)] at H; exact H
        clear H
        have H := H1
        clear H1
        obtain ⟨y250, hy250⟩ : ∃ y_ : List (S35), y_ = (([(⟨(⟨#[112]⟩ : ByteArray), (⟨#[]⟩ : ByteArray), false, 0, 0, 0⟩ : S35), (⟨(⟨#[114]⟩ : ByteArray), (⟨#[]⟩ : ByteArray), true, 0, 0, 0⟩ : S35)] : List (S35))) := ⟨_, rfl⟩
        replace H : (if a0 = true then (if 0 < (y250.length : Int) then (rubricatorlaw14_StyleToggles.j1 kj4 a0 a1 a2 a3 (y250.set (0 : Int).toNat (⟨(rd_T35 y250 0).f0, (rd_T35 y250 0).f1, (rd_T35 y250 0).f2, 1, (rd_T35 y250 0).f4, (rd_T35 y250 0).f5⟩ : S35))) else (none)) else (rubricatorlaw14_StyleToggles.j1 kj4 a0 a1 a2 a3 y250)) = some r := by first | (rw [hy250]; with_reducible exact H) | (have H2_ := (Option.bind_some _ _).symm.trans H; rw [hy250]; with_reducible exact H2_) | (have H2_ := (Option.bind_some _ _).symm.trans H; with_reducible exact H2_) | with_reducible exact H | (rw [hy250]; exact H) | exact H
        have Ny250 := Aside0.mk hy250
        clear hy250
        have HC10 := Aside0.mk H
        clear H
        go_upto_if 24 with (first | ((with_reducible refine gate_dst (N := 23) rfl ?_); refine Kd.R_lit k35 _ 35 ?hg (N := 23) ?hd (xs := ([(⟨(⟨#[112]⟩ : ByteArray), (⟨#[]⟩ : ByteArray), false, 0, 0, 0⟩ : S35), (⟨(⟨#[114]⟩ : ByteArray), (⟨#[]⟩ : ByteArray), true, 0, 0, 0⟩ : S35)] : List (S35))) (inner := [.string (⟨#[112]⟩ : ByteArray), .string (⟨#[]⟩ : ByteArray), .bool false, .int .i64 0, .int .i64 0, .int .i64 0, .string (⟨#[114]⟩ : ByteArray), .string (⟨#[]⟩ : ByteArray), .bool true, .int .i64 0, .int .i64 0, .int .i64 0]) (ok := fun _ => True) (okp := fun _ => True) ?hr ?hp (fun _ hk => hk) trivial (Below.refl _ _) (Nat.le_refl _) (by simp) ?_; (case hd => rfl); (case hg => rfl); (case hr => first | (go_simp; done) | (go_simp; rfl)); (case hp => exact (Reps.c6 (show Kd.M k35 _ _ _ (⟨(⟨#[112]⟩ : ByteArray), (⟨#[]⟩ : ByteArray), false, 0, 0, 0⟩ : S35) [.string (⟨#[112]⟩ : ByteArray), .string (⟨#[]⟩ : ByteArray), .bool false, .int .i64 0, .int .i64 0, .int .i64 0] from (k35_mkM _ _ _ (⟨(⟨#[112]⟩ : ByteArray), (⟨#[]⟩ : ByteArray), false, 0, 0, 0⟩ : S35) )) (Reps.c6 (show Kd.M k35 _ _ _ (⟨(⟨#[114]⟩ : ByteArray), (⟨#[]⟩ : ByteArray), true, 0, 0, 0⟩ : S35) [.string (⟨#[114]⟩ : ByteArray), .string (⟨#[]⟩ : ByteArray), .bool true, .int .i64 0, .int .i64 0, .int .i64 0] from (k35_mkM _ _ _ (⟨(⟨#[114]⟩ : ByteArray), (⟨#[]⟩ : ByteArray), true, 0, 0, 0⟩ : S35) )) (Reps.none _ _)))); intro v251 w11 ho12 hb hg_ hnew_; clear hg_ hnew_; (first | rw [← Ny250.out] at ho12 | (simp only [Int.reduceToNat] at ho12; rw [← Ny250.out] at ho12)); have n0_ := Aside0.mk (Kd.R_lower ho12 (below_size (by repeat (first | (with_reducible first | exact HB.out | apply below_alloc | apply pw_below_drewN | apply below_drew1) | exact HB.out)))); have n1_ := Aside0.mk (below_step (by repeat (first | (with_reducible first | exact HB.out | apply below_alloc | apply pw_below_drewN | apply below_drew1) | exact HB.out)) hb); clear HB; have HO252 := n0_; have HB := n1_; clear n0_ n1_; clear hb ho12))
        (try simp only [Act.put, List.setIfInBounds_toArray, List.set_cons_zero, List.set_cons_succ])
        go_cut [] (fun wc => ∃ (kq : Nat) (x9_9 : List (S35)), Aside0 (rubricatorlaw14_StyleToggles.j1 kq a0 a1 a2 a3 x9_9 = some r) ∧ Aside0 (kq ≤ kj4) ∧ Aside0 (Kd.R k35 35 wc w.heap.size (fun _ => True) v251 x9_9) ∧ Aside0 (Below w.heap.size w wc))
        case first =>
          have H := HC10.out
          clear HC10
          by_cases c13 : a0 = true
          · subst c13
            have H1 : (if 0 < (y250.length : Int) then (rubricatorlaw14_StyleToggles.j1 kj4 true a1 a2 a3 (y250.set (0 : Int).toNat (⟨(rd_T35 y250 0).f0, (rd_T35 y250 0).f1, (rd_T35 y250 0).f2, 1, (rd_T35 y250 0).f4, (rd_T35 y250 0).f5⟩ : S35))) else (none)) = some r := by rw [if_pos rfl] at H; exact H
            clear H
            have H := H1
            clear H1
            by_cases c14 : 0 < (y250.length : Int)
            · rw [if_pos c14] at H
              have c14b0 : decide (0 < (y250.length : Int)) = true := decide_eq_true c14
              have c14b1 : decide (0 < y250.length) = true := decide_eq_true (by omega)
              clear c14
              (first | rw [c14b0] | (simp only [i64_w, i32_w]; rw [c14b0]) | skip)
              obtain ⟨y253, hy253⟩ : ∃ y_ : List (S35), y_ = (y250.set (0 : Int).toNat (⟨(rd_T35 y250 0).f0, (rd_T35 y250 0).f1, (rd_T35 y250 0).f2, 1, (rd_T35 y250 0).f4, (rd_T35 y250 0).f5⟩ : S35)) := ⟨_, rfl⟩
              replace H : (rubricatorlaw14_StyleToggles.j1 kj4 true a1 a2 a3 y253) = some r := by first | (rw [hy253]; with_reducible exact H) | (have H2_ := (Option.bind_some _ _).symm.trans H; rw [hy253]; with_reducible exact H2_) | (have H2_ := (Option.bind_some _ _).symm.trans H; with_reducible exact H2_) | with_reducible exact H | (rw [hy253]; exact H) | exact H
              have Ny253 := Aside0.mk hy253
              clear hy253
              have H' := Aside0.mk H
              clear H
              have p15 : 0 ≤ (0 : Int) := (by omega)
              have q15 : (0 : Int) < ((y250.length : Int) : Int) := of_decide_eq_true (by first | (with_reducible assumption) | assumption)
              have qi15 : (0 < y250.length) = True := eq_true (by omega)
              obtain ⟨go15, co15, eo15, gb15, gl15, cl15, HG15⟩ := Kd.R_form HO252.out (by omega)
              (first | cases eo15 | (injection eo15 with ea_ en_ ec_; (first | subst ea_ | (injection ea_ with ea_; subst ea_)); subst ec_; clear en_))
              have GB15 := Aside0.mk gb15
              have GG15 := Aside0.mk HG15
              clear gb15 gl15 HG15
              obtain ⟨ce15, hcl15, hM15, hcc15, hfr15⟩ := Kd.R_elem HO252.out z35 (0 : Int) p15 q15
              obtain rfl := k35_openM hM15
              have hx15_0 : w11.cell? ⟨go15, (0 : Int).toNat * 6, none⟩ = some (.string ((rd_T35 y250 0).f0)) := hcc15 0 _ rfl
              have hx15_1 : w11.cell? ⟨go15, (0 : Int).toNat * 6 + 1, none⟩ = some (.string ((rd_T35 y250 0).f1)) := hcc15 1 _ rfl
              have hx15_2 : w11.cell? ⟨go15, (0 : Int).toNat * 6 + 2, none⟩ = some (.bool ((rd_T35 y250 0).f2)) := hcc15 2 _ rfl
              have hx15_3 : w11.cell? ⟨go15, (0 : Int).toNat * 6 + 3, none⟩ = some (.int .i64 ((rd_T35 y250 0).f3)) := hcc15 3 _ rfl
              have hx15_4 : w11.cell? ⟨go15, (0 : Int).toNat * 6 + 4, none⟩ = some (.int .i64 ((rd_T35 y250 0).f4)) := hcc15 4 _ rfl
              have hx15_5 : w11.cell? ⟨go15, (0 : Int).toNat * 6 + 5, none⟩ = some (.int .i64 ((rd_T35 y250 0).f5)) := hcc15 5 _ rfl
              have hf15_0 : w11.frozen? ⟨go15, (0 : Int).toNat * 6, none⟩ = false := hfr15 0
              have hf15_1 : w11.frozen? ⟨go15, (0 : Int).toNat * 6 + 1, none⟩ = false := hfr15 1
              have hf15_2 : w11.frozen? ⟨go15, (0 : Int).toNat * 6 + 2, none⟩ = false := hfr15 2
              have hf15_3 : w11.frozen? ⟨go15, (0 : Int).toNat * 6 + 3, none⟩ = false := hfr15 3
              have hf15_4 : w11.frozen? ⟨go15, (0 : Int).toNat * 6 + 4, none⟩ = false := hfr15 4
              have hf15_5 : w11.frozen? ⟨go15, (0 : Int).toNat * 6 + 5, none⟩ = false := hfr15 5
              clear hcl15 hcc15 hfr15 hM15
              (try rw [show ((0 : Int)).toNat = 0 from rfl] at hx15_0)
              (try simp only [Nat.reduceMul, Nat.zero_mul, Nat.zero_add, Nat.reduceAdd] at hx15_0)
              (try rw [show ((0 : Int)).toNat = 0 from rfl] at hf15_0)
              (try simp only [Nat.reduceMul, Nat.zero_mul, Nat.zero_add, Nat.reduceAdd] at hf15_0)
              (try rw [show ((0 : Int)).toNat = 0 from rfl] at hx15_1)
              (try simp only [Nat.reduceMul, Nat.zero_mul, Nat.zero_add, Nat.reduceAdd] at hx15_1)
              (try rw [show ((0 : Int)).toNat = 0 from rfl] at hf15_1)
              (try simp only [Nat.reduceMul, Nat.zero_mul, Nat.zero_add, Nat.reduceAdd] at hf15_1)
              (try rw [show ((0 : Int)).toNat = 0 from rfl] at hx15_2)
              (try simp only [Nat.reduceMul, Nat.zero_mul, Nat.zero_add, Nat.reduceAdd] at hx15_2)
              (try rw [show ((0 : Int)).toNat = 0 from rfl] at hf15_2)
              (try simp only [Nat.reduceMul, Nat.zero_mul, Nat.zero_add, Nat.reduceAdd] at hf15_2)
              (try rw [show ((0 : Int)).toNat = 0 from rfl] at hx15_3)
              (try simp only [Nat.reduceMul, Nat.zero_mul, Nat.zero_add, Nat.reduceAdd] at hx15_3)
              (try rw [show ((0 : Int)).toNat = 0 from rfl] at hf15_3)
              (try simp only [Nat.reduceMul, Nat.zero_mul, Nat.zero_add, Nat.reduceAdd] at hf15_3)
              (try rw [show ((0 : Int)).toNat = 0 from rfl] at hx15_4)
              (try simp only [Nat.reduceMul, Nat.zero_mul, Nat.zero_add, Nat.reduceAdd] at hx15_4)
              (try rw [show ((0 : Int)).toNat = 0 from rfl] at hf15_4)
              (try simp only [Nat.reduceMul, Nat.zero_mul, Nat.zero_add, Nat.reduceAdd] at hf15_4)
              (try rw [show ((0 : Int)).toNat = 0 from rfl] at hx15_5)
              (try simp only [Nat.reduceMul, Nat.zero_mul, Nat.zero_add, Nat.reduceAdd] at hx15_5)
              (try rw [show ((0 : Int)).toNat = 0 from rfl] at hf15_5)
              (try simp only [Nat.reduceMul, Nat.zero_mul, Nat.zero_add, Nat.reduceAdd] at hf15_5)
              replace p15 := eq_true p15
              replace q15 := eq_true q15
              have HX16 := Aside0.mk (show Kd.R k35 35 w11 w.heap.size (fun _ => True) (.slice (some ⟨go15, 0, none⟩) y250.length co15) y250 from (by (with_reducible repeat (first | apply Kd.R_alloc | apply Kd.R_drewN | apply Kd.R_drew)); exact HO252.out))
              obtain ⟨ce16, hcl16, hM16, hcc16, hfr16⟩ := Kd.R_elem HX16.out z35 (0 : Int) (by omega) (by have h_ : (0 : Int) < ((y250.length : Int) : Int) := of_decide_eq_true (by first | (with_reducible assumption) | assumption); first | exact h_ | (have e_ := (Kd.R_reads' HO252.out).1; omega) | simpa using h_)
              obtain rfl := k35_openM hM16
              have HP16 := Kd.R_seg HX16.out (0 : Int) (by omega) (by have h_ : (0 : Int) < ((y250.length : Int) : Int) := of_decide_eq_true (by first | (with_reducible assumption) | assumption); first | exact h_ | (have e_ := (Kd.R_reads' HO252.out).1; omega) | simpa using h_) (seg := [.int .i64 1]) (j := 3) hcl16 hcc16 (show 4 ≤ 6 from by decide) (x' := (⟨(rd_T35 y250 0).f0, (rd_T35 y250 0).f1, (rd_T35 y250 0).f2, 1, (rd_T35 y250 0).f4, (rd_T35 y250 0).f5⟩ : S35)) (k35_mkM _ _ _ (⟨(rd_T35 y250 0).f0, (rd_T35 y250 0).f1, (rd_T35 y250 0).f2, 1, (rd_T35 y250 0).f4, (rd_T35 y250 0).f5⟩ : S35) ) (fun _ hk => hk)
              have hx16_3 := hcc16 3 _ rfl
              (try simp only [show (k35).sz = 6 from rfl, Nat.mul_one, Nat.add_zero] at hx16_3)
              (try rw [show ((0 : Int)).toNat = 0 from rfl] at hx16_3)
              (try simp only [Nat.reduceMul, Nat.zero_mul, Nat.zero_add, Nat.reduceAdd] at hx16_3)
              have hf16_3 := hfr16 3
              (try simp only [show (k35).sz = 6 from rfl, Nat.mul_one, Nat.add_zero] at hf16_3)
              (try rw [show ((0 : Int)).toNat = 0 from rfl] at hf16_3)
              (try simp only [Nat.reduceMul, Nat.zero_mul, Nat.zero_add, Nat.reduceAdd] at hf16_3)
              clear hcl16 hcc16 hfr16 hM16
              go_wp2_with (first | ((with_reducible refine gate_store (t := 3) (p := 27) rfl ?_); refine store_event (t := 3) (p := 27) (v := ?vo_w17) (w1 := (w11.setCell ⟨go15, 3, none⟩ (.int .i64 1))) ?hg ?ho ?hn ?hr ?_; (case ho => rfl); (case hg => rfl); (case hn => rfl); (case hr => first | (go_simp; done) | (go_simp; rfl)); intro w17 hw; have hg : w11.grownBy w17 (some go15) := (by rw [hw]; exact HP16.2); have hp_ : Kd.R k35 35 w17 w.heap.size (fun _ => True) (.slice (some ⟨go15, 0, none⟩) y250.length co15) y253 := (by rw [hw, Ny253.out]; exact HP16.1); clear HP16; have n0_ := Aside0.mk (hp_); have n1_ := Aside0.mk ((by rw [hw]; exact below_set (HB.out) GB15.out : Below w.heap.size w w17)); clear HO252; clear HB; have HO252 := n0_; have HB := n1_; clear n0_ n1_; clear hg hw hp_))
              go_meet
              case rel => exact ⟨_, (y253), H', ⟨by have := HJ4.out; first | omega | exact Nat.le_refl _⟩, ⟨by (with_reducible repeat (first | apply Kd.R_alloc | apply Kd.R_drewN | apply Kd.R_drew)); exact HO252.out⟩, ⟨by repeat (first | (with_reducible first | exact HB.out | apply below_alloc | apply pw_below_drewN | apply below_drew1) | exact HB.out)⟩⟩
            · rw [if_neg c14] at H
              exact absurd H (by simp)
          · replace c13 := Bool.eq_false_iff.mpr c13
            subst c13
            have H1 : (rubricatorlaw14_StyleToggles.j1 kj4 false a1 a2 a3 y250) = some r := by rw [if_neg (show ¬ (false = true) by decide)] at H; exact H
            clear H
            have H := H1
            clear H1
            have H' := Aside0.mk H
            clear H
            go_wp2
            go_meet
            case rel => exact ⟨_, (y250), H', ⟨by have := HJ4.out; first | omega | exact Nat.le_refl _⟩, ⟨by (with_reducible repeat (first | apply Kd.R_alloc | apply Kd.R_drewN | apply Kd.R_drew)); exact HO252.out⟩, ⟨by repeat (first | (with_reducible first | exact HB.out | apply below_alloc | apply pw_below_drewN | apply below_drew1) | exact HB.out)⟩⟩
        case rest =>
          clear HC10
          try clear c1
          try clear p1
          try clear q1
          try clear hx1
          try clear qi1
          try clear p2
          try clear c6
          try clear c6b0
          try clear c7
          try clear c12
          try clear c13
          try clear c14
          try clear c14b0
          try clear c14b1
          try clear c15
          try clear p15
          try clear q15
          try clear hx15
          try clear qi15
          try clear hf15
          try clear c16
          try clear hx16
          try clear hf16
          try clear hx15_0
          try clear hx15_1
          try clear hx15_2
          try clear hx15_3
          try clear hx15_4
          try clear hx15_5
          try clear hx16_3
          try clear p15
          try clear p2
          try clear q15
          obtain ⟨kq, x9_9, HA, HJ9, HO_9, HB⟩ := hcut
          cases kq with
          | zero => exact absurd HA.out (by simp [rubricatorlaw14_StyleToggles.j1])
          | succ kj9 =>
            have H := HA.out
            clear HA
            simp only [rubricatorlaw14_StyleToggles.j1] at H
            have HC18 := Aside0.mk H
            clear H
            go_upto_if 28 with (fail)
            go_cut [] (fun wc => ∃ (kq : Nat) (x9_17 : List (S35)), Aside0 (rubricatorlaw14_StyleToggles.j2 kq a0 a1 a2 a3 x9_17 = some r) ∧ Aside0 (kq ≤ kj9) ∧ Aside0 (Kd.R k35 35 wc w.heap.size (fun _ => True) v251 x9_17) ∧ Aside0 (Below w.heap.size w wc))
            case first =>
              have H := HC18.out
              clear HC18
              by_cases c19 : a1 = true
              · subst c19
                have H1 : (if 1 < (x9_9.length : Int) then (rubricatorlaw14_StyleToggles.j2 kj9 a0 true a2 a3 (x9_9.set (1 : Int).toNat (⟨(rd_T35 x9_9 1).f0, (rd_T35 x9_9 1).f1, (rd_T35 x9_9 1).f2, 1, (rd_T35 x9_9 1).f4, (rd_T35 x9_9 1).f5⟩ : S35))) else (none)) = some r := by rw [if_pos rfl] at H; exact H
                clear H
                have H := H1
                clear H1
                by_cases c20 : 1 < (x9_9.length : Int)
                · rw [if_pos c20] at H
                  have c20b0 : decide (1 < (x9_9.length : Int)) = true := decide_eq_true c20
                  have c20b1 : decide (1 < x9_9.length) = true := decide_eq_true (by omega)
                  clear c20
                  (first | rw [c20b0] | (simp only [i64_w, i32_w]; rw [c20b0]) | skip)
                  obtain ⟨y254, hy254⟩ : ∃ y_ : List (S35), y_ = (x9_9.set (1 : Int).toNat (⟨(rd_T35 x9_9 1).f0, (rd_T35 x9_9 1).f1, (rd_T35 x9_9 1).f2, 1, (rd_T35 x9_9 1).f4, (rd_T35 x9_9 1).f5⟩ : S35)) := ⟨_, rfl⟩
                  replace H : (rubricatorlaw14_StyleToggles.j2 kj9 a0 true a2 a3 y254) = some r := by first | (rw [hy254]; with_reducible exact H) | (have H2_ := (Option.bind_some _ _).symm.trans H; rw [hy254]; with_reducible exact H2_) | (have H2_ := (Option.bind_some _ _).symm.trans H; with_reducible exact H2_) | with_reducible exact H | (rw [hy254]; exact H) | exact H
                  have Ny254 := Aside0.mk hy254
                  clear hy254
                  have H' := Aside0.mk H
                  clear H
                  have p21 : 0 ≤ (1 : Int) := (by omega)
                  have q21 : (1 : Int) < ((x9_9.length : Int) : Int) := of_decide_eq_true (by first | (with_reducible assumption) | assumption)
                  have qi21 : (1 < x9_9.length) = True := eq_true (by omega)
                  obtain ⟨go21, co21, eo21, gb21, gl21, cl21, HG21⟩ := Kd.R_form HO_9.out (by omega)
                  (first | cases eo21 | (injection eo21 with ea_ en_ ec_; (first | subst ea_ | (injection ea_ with ea_; subst ea_)); subst ec_; clear en_))
                  have GB21 := Aside0.mk gb21
                  have GG21 := Aside0.mk HG21
                  clear gb21 gl21 HG21
                  obtain ⟨ce21, hcl21, hM21, hcc21, hfr21⟩ := Kd.R_elem HO_9.out z35 (1 : Int) p21 q21
                  obtain rfl := k35_openM hM21
                  have hx21_0 : wc.cell? ⟨go21, (1 : Int).toNat * 6, none⟩ = some (.string ((rd_T35 x9_9 1).f0)) := hcc21 0 _ rfl
                  have hx21_1 : wc.cell? ⟨go21, (1 : Int).toNat * 6 + 1, none⟩ = some (.string ((rd_T35 x9_9 1).f1)) := hcc21 1 _ rfl
                  have hx21_2 : wc.cell? ⟨go21, (1 : Int).toNat * 6 + 2, none⟩ = some (.bool ((rd_T35 x9_9 1).f2)) := hcc21 2 _ rfl
                  have hx21_3 : wc.cell? ⟨go21, (1 : Int).toNat * 6 + 3, none⟩ = some (.int .i64 ((rd_T35 x9_9 1).f3)) := hcc21 3 _ rfl
                  have hx21_4 : wc.cell? ⟨go21, (1 : Int).toNat * 6 + 4, none⟩ = some (.int .i64 ((rd_T35 x9_9 1).f4)) := hcc21 4 _ rfl
                  have hx21_5 : wc.cell? ⟨go21, (1 : Int).toNat * 6 + 5, none⟩ = some (.int .i64 ((rd_T35 x9_9 1).f5)) := hcc21 5 _ rfl
                  have hf21_0 : wc.frozen? ⟨go21, (1 : Int).toNat * 6, none⟩ = false := hfr21 0
                  have hf21_1 : wc.frozen? ⟨go21, (1 : Int).toNat * 6 + 1, none⟩ = false := hfr21 1
                  have hf21_2 : wc.frozen? ⟨go21, (1 : Int).toNat * 6 + 2, none⟩ = false := hfr21 2
                  have hf21_3 : wc.frozen? ⟨go21, (1 : Int).toNat * 6 + 3, none⟩ = false := hfr21 3
                  have hf21_4 : wc.frozen? ⟨go21, (1 : Int).toNat * 6 + 4, none⟩ = false := hfr21 4
                  have hf21_5 : wc.frozen? ⟨go21, (1 : Int).toNat * 6 + 5, none⟩ = false := hfr21 5
                  clear hcl21 hcc21 hfr21 hM21
                  (try rw [show ((1 : Int)).toNat = 1 from rfl] at hx21_0)
                  (try simp only [Nat.reduceMul, Nat.zero_mul, Nat.zero_add, Nat.reduceAdd] at hx21_0)
                  (try rw [show ((1 : Int)).toNat = 1 from rfl] at hf21_0)
                  (try simp only [Nat.reduceMul, Nat.zero_mul, Nat.zero_add, Nat.reduceAdd] at hf21_0)
                  (try rw [show ((1 : Int)).toNat = 1 from rfl] at hx21_1)
                  (try simp only [Nat.reduceMul, Nat.zero_mul, Nat.zero_add, Nat.reduceAdd] at hx21_1)
                  (try rw [show ((1 : Int)).toNat = 1 from rfl] at hf21_1)
                  (try simp only [Nat.reduceMul, Nat.zero_mul, Nat.zero_add, Nat.reduceAdd] at hf21_1)
                  (try rw [show ((1 : Int)).toNat = 1 from rfl] at hx21_2)
                  (try simp only [Nat.reduceMul, Nat.zero_mul, Nat.zero_add, Nat.reduceAdd] at hx21_2)
                  (try rw [show ((1 : Int)).toNat = 1 from rfl] at hf21_2)
                  (try simp only [Nat.reduceMul, Nat.zero_mul, Nat.zero_add, Nat.reduceAdd] at hf21_2)
                  (try rw [show ((1 : Int)).toNat = 1 from rfl] at hx21_3)
                  (try simp only [Nat.reduceMul, Nat.zero_mul, Nat.zero_add, Nat.reduceAdd] at hx21_3)
                  (try rw [show ((1 : Int)).toNat = 1 from rfl] at hf21_3)
                  (try simp only [Nat.reduceMul, Nat.zero_mul, Nat.zero_add, Nat.reduceAdd] at hf21_3)
                  (try rw [show ((1 : Int)).toNat = 1 from rfl] at hx21_4)
                  (try simp only [Nat.reduceMul, Nat.zero_mul, Nat.zero_add, Nat.reduceAdd] at hx21_4)
                  (try rw [show ((1 : Int)).toNat = 1 from rfl] at hf21_4)
                  (try simp only [Nat.reduceMul, Nat.zero_mul, Nat.zero_add, Nat.reduceAdd] at hf21_4)
                  (try rw [show ((1 : Int)).toNat = 1 from rfl] at hx21_5)
                  (try simp only [Nat.reduceMul, Nat.zero_mul, Nat.zero_add, Nat.reduceAdd] at hx21_5)
                  (try rw [show ((1 : Int)).toNat = 1 from rfl] at hf21_5)
                  (try simp only [Nat.reduceMul, Nat.zero_mul, Nat.zero_add, Nat.reduceAdd] at hf21_5)
                  replace p21 := eq_true p21
                  replace q21 := eq_true q21
                  have HX22 := Aside0.mk (show Kd.R k35 35 wc w.heap.size (fun _ => True) (.slice (some ⟨go21, 0, none⟩) x9_9.length co21) x9_9 from (by (with_reducible repeat (first | apply Kd.R_alloc | apply Kd.R_drewN | apply Kd.R_drew)); exact HO_9.out))
                  obtain ⟨ce22, hcl22, hM22, hcc22, hfr22⟩ := Kd.R_elem HX22.out z35 (1 : Int) (by omega) (by have h_ : (1 : Int) < ((x9_9.length : Int) : Int) := of_decide_eq_true (by first | (with_reducible assumption) | assumption); first | exact h_ | (have e_ := (Kd.R_reads' HO_9.out).1; omega) | simpa using h_)
                  obtain rfl := k35_openM hM22
                  have HP22 := Kd.R_seg HX22.out (1 : Int) (by omega) (by have h_ : (1 : Int) < ((x9_9.length : Int) : Int) := of_decide_eq_true (by first | (with_reducible assumption) | assumption); first | exact h_ | (have e_ := (Kd.R_reads' HO_9.out).1; omega) | simpa using h_) (seg := [.int .i64 1]) (j := 3) hcl22 hcc22 (show 4 ≤ 6 from by decide) (x' := (⟨(rd_T35 x9_9 1).f0, (rd_T35 x9_9 1).f1, (rd_T35 x9_9 1).f2, 1, (rd_T35 x9_9 1).f4, (rd_T35 x9_9 1).f5⟩ : S35)) (k35_mkM _ _ _ (⟨(rd_T35 x9_9 1).f0, (rd_T35 x9_9 1).f1, (rd_T35 x9_9 1).f2, 1, (rd_T35 x9_9 1).f4, (rd_T35 x9_9 1).f5⟩ : S35) ) (fun _ hk => hk)
                  have hx22_3 := hcc22 3 _ rfl
                  (try simp only [show (k35).sz = 6 from rfl, Nat.mul_one, Nat.add_zero] at hx22_3)
                  (try rw [show ((1 : Int)).toNat = 1 from rfl] at hx22_3)
                  (try simp only [Nat.reduceMul, Nat.zero_mul, Nat.zero_add, Nat.reduceAdd] at hx22_3)
                  have hf22_3 := hfr22 3
                  (try simp only [show (k35).sz = 6 from rfl, Nat.mul_one, Nat.add_zero] at hf22_3)
                  (try rw [show ((1 : Int)).toNat = 1 from rfl] at hf22_3)
                  (try simp only [Nat.reduceMul, Nat.zero_mul, Nat.zero_add, Nat.reduceAdd] at hf22_3)
                  clear hcl22 hcc22 hfr22 hM22
                  go_wp2_with (first | ((with_reducible refine gate_store (t := 3) (p := 31) rfl ?_); refine store_event (t := 3) (p := 31) (v := ?vo_w23) (w1 := (wc.setCell ⟨go21, 9, none⟩ (.int .i64 1))) ?hg ?ho ?hn ?hr ?_; (case ho => rfl); (case hg => rfl); (case hn => rfl); (case hr => first | (go_simp; done) | (go_simp; rfl)); intro w23 hw; have hg : wc.grownBy w23 (some go21) := (by rw [hw]; exact HP22.2); have hp_ : Kd.R k35 35 w23 w.heap.size (fun _ => True) (.slice (some ⟨go21, 0, none⟩) x9_9.length co21) y254 := (by rw [hw, Ny254.out]; exact HP22.1); clear HP22; have n0_ := Aside0.mk (hp_); have n1_ := Aside0.mk ((by rw [hw]; exact below_set (HB.out) GB21.out : Below w.heap.size w w23)); clear HO_9; clear HB; have HO_9 := n0_; have HB := n1_; clear n0_ n1_; clear hg hw hp_))
                  go_meet
                  case rel => exact ⟨_, (y254), H', ⟨by have := HJ4.out; have := HJ9.out; first | omega | exact Nat.le_refl _⟩, ⟨by (with_reducible repeat (first | apply Kd.R_alloc | apply Kd.R_drewN | apply Kd.R_drew)); exact HO_9.out⟩, ⟨by repeat (first | (with_reducible first | exact HB.out | apply below_alloc | apply pw_below_drewN | apply below_drew1) | exact HB.out)⟩⟩
                · rw [if_neg c20] at H
                  exact absurd H (by simp)
              · replace c19 := Bool.eq_false_iff.mpr c19
                subst c19
                have H1 : (rubricatorlaw14_StyleToggles.j2 kj9 a0 false a2 a3 x9_9) = some r := by rw [if_neg (show ¬ (false = true) by decide)] at H; exact H
                clear H
                have H := H1
                clear H1
                have H' := Aside0.mk H
                clear H
                go_wp2
                go_meet
                case rel => exact ⟨_, (x9_9), H', ⟨by have := HJ4.out; have := HJ9.out; first | omega | exact Nat.le_refl _⟩, ⟨by (with_reducible repeat (first | apply Kd.R_alloc | apply Kd.R_drewN | apply Kd.R_drew)); exact HO_9.out⟩, ⟨by repeat (first | (with_reducible first | exact HB.out | apply below_alloc | apply pw_below_drewN | apply below_drew1) | exact HB.out)⟩⟩
            case rest =>
              clear HC18
              try clear c1
              try clear p1
              try clear q1
              try clear hx1
              try clear qi1
              try clear c2
              try clear p2
              try clear q2
              try clear hx2
              try clear qi2
              try clear c6
              try clear c6b0
              try clear c7
              try clear c12
              try clear c13
              try clear c14
              try clear c14b0
              try clear c14b1
              try clear c15
              try clear p15
              try clear q15
              try clear hx15
              try clear qi15
              try clear hf15
              try clear c16
              try clear hx16
              try clear hf16
              try clear c19
              try clear c20
              try clear c20b0
              try clear c20b1
              try clear c21
              try clear p21
              try clear q21
              try clear hx21
              try clear qi21
              try clear hf21
              try clear c22
              try clear hx22
              try clear hf22
              try clear hx15_0
              try clear hx15_1
              try clear hx15_2
              try clear hx15_3
              try clear hx15_4
              try clear hx15_5
              try clear hx16_3
              try clear hx21_0
              try clear hx21_1
              try clear hx21_2
              try clear hx21_3
              try clear hx21_4
              try clear hx21_5
              try clear hx22_3
              try clear p1
              try clear p15
              try clear p2
              try clear p21
              try clear q1
              try clear q15
              try clear q21
              obtain ⟨kq, x9_17, HA, HJ17, HO_9, HB⟩ := hcut
              cases kq with
              | zero => exact absurd HA.out (by simp [rubricatorlaw14_StyleToggles.j2])
              | succ kj17 =>
                have H := HA.out
                clear HA
                simp only [rubricatorlaw14_StyleToggles.j2] at H
                have H' := Aside0.mk H
                clear H
                go_wp2
                go_loopg [9, 10, 11, 12] kj17 (fun kq v9 v10 v11 v12 w' => ∃ (x9_4 : List (S35)) (x10_4 : ByteArray) (x11_4 : ByteArray) (x12_4 : Int), v10 = .string x10_4 ∧ v11 = .string x11_4 ∧ v12 = .int .i64 x12_4 ∧ Aside0 (rubricatorlaw14_StyleToggles.l0 kq a0 a1 a2 a3 x9_4 x10_4 x11_4 x12_4 = some r) ∧ Aside0 (kq ≤ kj17) ∧ Aside0 (Kd.R k35 35 w' w.heap.size (fun _ => True) v9 x9_4) ∧ Aside0 (Below w.heap.size w w'))
                case atStart => exact ⟨(x9_17), ((⟨#[112]⟩ : ByteArray)), ((⟨#[114]⟩ : ByteArray)), (0), (by first | rfl | (simp; done) | (simp [*]; done)), (by first | rfl | (simp; done) | (simp [*]; done)), (by first | rfl | (simp; done) | (simp [*]; done)), H', ⟨Nat.le_refl _⟩, ⟨by (with_reducible repeat (first | apply Kd.R_alloc | apply Kd.R_drewN | apply Kd.R_drew)); exact HO_9.out⟩, ⟨by repeat (first | (with_reducible first | exact HB.out | apply below_alloc | apply pw_below_drewN | apply below_drew1) | exact HB.out)⟩⟩
                case round =>
                  clear H'
                  try clear c1
                  try clear p1
                  try clear q1
                  try clear hx1
                  try clear qi1
                  try clear c2
                  try clear p2
                  try clear q2
                  try clear hx2
                  try clear qi2
                  try clear c6
                  try clear c6b0
                  try clear c7
                  try clear c12
                  try clear c13
                  try clear c14
                  try clear c14b0
                  try clear c14b1
                  try clear c15
                  try clear p15
                  try clear q15
                  try clear hx15
                  try clear qi15
                  try clear hf15
                  try clear c16
                  try clear hx16
                  try clear hf16
                  try clear c19
                  try clear c20
                  try clear c20b0
                  try clear c20b1
                  try clear c21
                  try clear p21
                  try clear q21
                  try clear hx21
                  try clear qi21
                  try clear hf21
                  try clear c22
                  try clear hx22
                  try clear hf22
                  try clear hx15_0
                  try clear hx15_1
                  try clear hx15_2
                  try clear hx15_3
                  try clear hx15_4
                  try clear hx15_5
                  try clear hx16_3
                  try clear hx21_0
                  try clear hx21_1
                  try clear hx21_2
                  try clear hx21_3
                  try clear hx21_4
                  try clear hx21_5
                  try clear hx22_3
                  try clear p1
                  try clear p15
                  try clear p2
                  try clear p21
                  try clear q1
                  try clear q15
                  try clear q2
                  try clear q21
                  obtain ⟨x9_4, x10_4, x11_4, x12_4, rfl, rfl, rfl, HA, HK4, HO_9, HB⟩ := hrel
                  cases gk with
                  | zero => exact absurd HA.out (by simp [rubricatorlaw14_StyleToggles.l0])
                  | succ k4 =>
                    have H := HA.out
                    clear HA
                    simp only [rubricatorlaw14_StyleToggles.l0] at H
                    by_cases c24 : x12_4 < a3
                    · rw [if_pos c24] at H
                      have c24b0 : decide (x12_4 < a3) = true := decide_eq_true c24
                      clear c24
                      by_cases c25 : x10_4.size + 1 ≤ 9223372036854775807
                      · rw [if_pos c25] at H
                        have c25b0 := eq_true c25
                        have c25b1 : decide (x10_4.size + 1 ≤ 9223372036854775807) = true := decide_eq_true c25
                        try have c25b2 : (9223372036854775807 < x10_4.size + 1) = False := eq_false (Nat.not_lt.2 c25)
                        by_cases c26 : x11_4.size + 1 ≤ 9223372036854775807
                        · rw [if_pos c26] at H
                          have c26b0 := eq_true c26
                          have c26b1 : decide (x11_4.size + 1 ≤ 9223372036854775807) = true := decide_eq_true c26
                          try have c26b2 : (9223372036854775807 < x11_4.size + 1) = False := eq_false (Nat.not_lt.2 c26)
                          obtain ⟨y255, hy255⟩ : ∃ y_ : List (S35), y_ = (([(⟨x10_4 ++ (⟨#[112]⟩ : ByteArray), x10_4, false, 0, 0, 0⟩ : S35), (⟨x11_4 ++ (⟨#[114]⟩ : ByteArray), x11_4, true, 0, 0, 0⟩ : S35)] : List (S35))) := ⟨_, rfl⟩
                          replace H : (if x9_4.length + y255.length < 2199023255552 then (rubricatorlaw14_StyleToggles.l0 k4 a0 a1 a2 a3 (x9_4 ++ y255) (x10_4 ++ (⟨#[112]⟩ : ByteArray)) (x11_4 ++ (⟨#[114]⟩ : ByteArray)) (wrap64 (x12_4 + 1))) else (none)) = some r := by first | (rw [hy255]; with_reducible exact H) | (have H2_ := (Option.bind_some _ _).symm.trans H; rw [hy255]; with_reducible exact H2_) | (have H2_ := (Option.bind_some _ _).symm.trans H; with_reducible exact H2_) | with_reducible exact H | (rw [hy255]; exact H) | exact H
                          have Ny255 := Aside0.mk hy255
                          clear hy255
                          by_cases c27 : x9_4.length + y255.length < 2199023255552
                          · rw [if_pos c27] at H
                            have LMc27 := Aside0.mk c27
                            clear c27
                            obtain ⟨y258, hy258⟩ : ∃ y_ : List (S35), y_ = (x9_4 ++ y255) := ⟨_, rfl⟩
                            replace H : (rubricatorlaw14_StyleToggles.l0 k4 a0 a1 a2 a3 y258 (x10_4 ++ (⟨#[112]⟩ : ByteArray)) (x11_4 ++ (⟨#[114]⟩ : ByteArray)) (wrap64 (x12_4 + 1))) = some r := by first | (rw [hy258]; with_reducible exact H) | (have H2_ := (Option.bind_some _ _).symm.trans H; rw [hy258]; with_reducible exact H2_) | (have H2_ := (Option.bind_some _ _).symm.trans H; with_reducible exact H2_) | with_reducible exact H | (rw [hy258]; exact H) | exact H
                            have Ny258 := Aside0.mk hy258
                            clear hy258
                            have H' := Aside0.mk H
                            clear H
                            go_wp2_with (first | ((with_reducible refine gate_dst (N := 46) rfl ?_); refine Kd.R_lit k35 _ 35 ?hg (N := 46) ?hd (xs := ([(⟨x10_4 ++ (⟨#[112]⟩ : ByteArray), x10_4, false, 0, 0, 0⟩ : S35), (⟨x11_4 ++ (⟨#[114]⟩ : ByteArray), x11_4, true, 0, 0, 0⟩ : S35)] : List (S35))) (inner := [.string (x10_4 ++ (⟨#[112]⟩ : ByteArray)), .string x10_4, .bool false, .int .i64 0, .int .i64 0, .int .i64 0, .string (x11_4 ++ (⟨#[114]⟩ : ByteArray)), .string x11_4, .bool true, .int .i64 0, .int .i64 0, .int .i64 0]) (ok := fun _ => True) (okp := fun _ => True) ?hr ?hp (fun _ hk => hk) trivial (Below.refl _ _) (Nat.le_refl _) (by simp) ?_; (case hd => rfl); (case hg => rfl); (case hr => first | (go_simp; done) | (go_simp; rfl)); (case hp => exact (Reps.c6 (show Kd.M k35 _ _ _ (⟨x10_4 ++ (⟨#[112]⟩ : ByteArray), x10_4, false, 0, 0, 0⟩ : S35) [.string (x10_4 ++ (⟨#[112]⟩ : ByteArray)), .string x10_4, .bool false, .int .i64 0, .int .i64 0, .int .i64 0] from (k35_mkM _ _ _ (⟨x10_4 ++ (⟨#[112]⟩ : ByteArray), x10_4, false, 0, 0, 0⟩ : S35) )) (Reps.c6 (show Kd.M k35 _ _ _ (⟨x11_4 ++ (⟨#[114]⟩ : ByteArray), x11_4, true, 0, 0, 0⟩ : S35) [.string (x11_4 ++ (⟨#[114]⟩ : ByteArray)), .string x11_4, .bool true, .int .i64 0, .int .i64 0, .int .i64 0] from (k35_mkM _ _ _ (⟨x11_4 ++ (⟨#[114]⟩ : ByteArray), x11_4, true, 0, 0, 0⟩ : S35) )) (Reps.none _ _)))); intro v256 w28 ho29 hb hg_ hnew_; clear hg_ hnew_; (first | rw [← Ny255.out] at ho29 | (simp only [Int.reduceToNat] at ho29; rw [← Ny255.out] at ho29)); have n0_ := Aside0.mk (Kd.R_elder' (by (with_reducible repeat (first | apply Kd.R_alloc | apply Kd.R_drewN | apply Kd.R_drew)); exact HO_9.out) (Kd.R_base ho29) hb); have n1_ := Aside0.mk (Kd.R_lower (Kd.R_new' ho29 (Kd.R_lt (by (with_reducible repeat (first | apply Kd.R_alloc | apply Kd.R_drewN | apply Kd.R_drew)); exact HO_9.out))) (below_size (by repeat (first | (with_reducible first | exact HB.out | apply below_alloc | apply pw_below_drewN | apply below_drew1) | exact HB.out)))); have n2_ := Aside0.mk (below_step (by repeat (first | (with_reducible first | exact HB.out | apply below_alloc | apply pw_below_drewN | apply below_drew1) | exact HB.out)) hb); clear HO_9; clear HB; have HO_9 := n0_; have HO257 := n1_; have HB := n2_; clear n0_ n1_ n2_; clear hb ho29; obtain ⟨Ao31, co31, eo31⟩ := Kd.R_slice HO257.out; subst eo31) | ((with_reducible refine gate_builtin (b := .append) (xs := #[.tmp 37, .tmp 46]) rfl ?_); at_builtin; refine Kd.R_append_rows k35 (w0 := w) w.heap.size rfl (.tmp 37) (.tmp 46) 22 35 (.agg #[(.string ⟨#[]⟩), (.string ⟨#[]⟩), (.bool false), (.int .i64 0), (.int .i64 0), (.int .i64 0)]) 64 rfl Tryd.underlying22 info35 rfl (by decide) (by omega) u9 x9_4 y255 _ _ _ (fun k_ => some k_ ≠ (.slice Ao31 y255.length co31 : Value).ownBlock) (fun _ => False) rfl rfl ?aO ?aR (fun _ _ h => h) (fun _ h => h.elim) ?aF ?aB ?aS ?aL ?_; (case aR => repeat (first | exact (Kd.R_reads' HO257.out).2.2 | (with_reducible refine Kd.C_alloc ?_ _) | (with_reducible refine Kd.C_drewN ?_ _) | (with_reducible refine Kd.C_drew ?_))); (case aB => exact (by repeat (first | (with_reducible first | exact HB.out | apply below_alloc | apply pw_below_drewN | apply below_drew1) | exact HB.out))); (case aF => exact (fun k_ hk => Kd.fresh' (Kd.R_lt (by (with_reducible repeat (first | apply Kd.R_alloc | apply Kd.R_drewN | apply Kd.R_drew)); exact HO257.out)) k_ hk)); (case aO => exact (by (with_reducible repeat (first | apply Kd.R_alloc | apply Kd.R_drewN | apply Kd.R_drew)); exact Kd.R_mono HO_9.out (fun _ hk => hk.2))); (case aS => exact (below_size (by repeat (first | (with_reducible first | exact HB.out | apply below_alloc | apply pw_below_drewN | apply below_drew1) | exact HB.out)))); (case aL => have := LMc27.out; omega); intro v259 w30 ho hb hg hat; rw [← Ny258.out] at ho; have n0_ := Aside0.mk (Kd.R_after (ok := (fun _ => True)) (by (with_reducible repeat (first | apply Kd.R_alloc | apply Kd.R_drewN | apply Kd.R_drew)); exact HO257.out) hg hat); have n1_ := Aside0.mk (hb); have n2_ := Aside0.mk (ho); clear HO257; clear HB; clear HO_9; have HO257 := n0_; have HB := n1_; have HO260 := n2_; clear n0_ n1_ n2_; clear ho hb hg hat))
                            go_roundg k4
                            case measure => have := HJ4.out; have := HJ9.out; have := HJ17.out; have := HK4.out; omega
                            case rel => exact ⟨(y258), (x10_4 ++ (⟨#[112]⟩ : ByteArray)), (x11_4 ++ (⟨#[114]⟩ : ByteArray)), (wrap64 (x12_4 + 1)), (by first | rfl | (simp; done) | (simp [*]; done)), (by first | rfl | (simp; done) | (simp [*]; done)), (by first | rfl | (simp; done) | (simp [*]; done)), H', ⟨by have := HJ4.out; have := HJ9.out; have := HJ17.out; have := HK4.out; omega⟩, ⟨by (with_reducible repeat (first | apply Kd.R_alloc | apply Kd.R_drewN | apply Kd.R_drew)); exact Kd.R_mono HO260.out (fun _ hk => trivial)⟩, ⟨by repeat (first | (with_reducible first | exact HB.out | apply below_alloc | apply pw_below_drewN | apply below_drew1) | exact HB.out)⟩⟩
                          · rw [if_neg c27] at H
                            exact absurd H (by simp)
                        · rw [if_neg c26] at H
                          exact absurd H (by simp)
                      · rw [if_neg c25] at H
                        exact absurd H (by simp)
                    · rw [if_neg c24] at H
                      have c24b0 : decide (x12_4 < a3) = false := decide_eq_false c24
                      clear c24
                      have HC32 := Aside0.mk H
                      clear H
                      go_upto_region 15 with (fail)
                      go_cut [62] (fun v62 wc => ∃ (kq : Nat) (x62_31 : Bool), v62 = .bool x62_31 ∧ Aside0 (rubricatorlaw14_StyleToggles.j4 kq a2 x9_4 x10_4 x11_4 0 x62_31 = some r) ∧ Aside0 (kq ≤ k4) ∧ Aside0 (Kd.R k35 35 wc w.heap.size (fun _ => True) u9 x9_4) ∧ Aside0 (Below w.heap.size w wc))
                      case first =>
                        have H := HC32.out
                        clear HC32
                        by_cases c33 : a2 = 1
                        · rw [if_pos c33] at H
                          have c33b0 : (a2 == 1) = true := beq_iff_eq.mpr c33
                          have c33b1 : (a2 != 1) = false := bne_eq_false_iff_eq.mpr c33
                          clear c33
                          (first | rw [c33b0] | (simp only [i64_w, i32_w]; rw [c33b0]) | skip)
                          have H' := Aside0.mk H
                          clear H
                          go_wp2
                          go_meet
                          case rel => exact ⟨_, (true), (by first | rfl | (simp; done) | (simp [*]; done)), H', ⟨by have := HJ4.out; have := HJ9.out; have := HJ17.out; have := HK4.out; first | omega | exact Nat.le_refl _⟩, ⟨by (with_reducible repeat (first | apply Kd.R_alloc | apply Kd.R_drewN | apply Kd.R_drew)); exact HO_9.out⟩, ⟨by repeat (first | (with_reducible first | exact HB.out | apply below_alloc | apply pw_below_drewN | apply below_drew1) | exact HB.out)⟩⟩
                        · rw [if_neg c33] at H
                          have c33b0 : (a2 == 1) = false := beq_eq_false_iff_ne.mpr c33
                          have c33b1 : (a2 != 1) = true := bne_iff_ne.mpr c33
                          (first | rw [c33b0] | (simp only [i64_w, i32_w]; rw [c33b0]) | skip)
                          by_cases c34 : a2 = 0
                          · rw [if_pos c34] at H
                            have c34b0 : (a2 == 0) = true := beq_iff_eq.mpr c34
                            have c34b1 : (a2 != 0) = false := bne_eq_false_iff_eq.mpr c34
                            clear c34
                            have H' := Aside0.mk H
                            clear H
                            go_wp2
                            go_meet
                            case rel => exact ⟨_, ((a0 != a1)), (by first | rfl | (simp; done) | (simp [*]; done)), H', ⟨by have := HJ4.out; have := HJ9.out; have := HJ17.out; have := HK4.out; first | omega | exact Nat.le_refl _⟩, ⟨by (with_reducible repeat (first | apply Kd.R_alloc | apply Kd.R_drewN | apply Kd.R_drew)); exact HO_9.out⟩, ⟨by repeat (first | (with_reducible first | exact HB.out | apply below_alloc | apply pw_below_drewN | apply below_drew1) | exact HB.out)⟩⟩
                          · rw [if_neg c34] at H
                            have c34b0 : (a2 == 0) = false := beq_eq_false_iff_ne.mpr c34
                            have c34b1 : (a2 != 0) = true := bne_iff_ne.mpr c34
                            have H' := Aside0.mk H
                            clear H
                            go_wp2
                            go_meet
                            case rel => exact ⟨_, (false), (by first | rfl | (simp; done) | (simp [*]; done)), H', ⟨by have := HJ4.out; have := HJ9.out; have := HJ17.out; have := HK4.out; first | omega | exact Nat.le_refl _⟩, ⟨by (with_reducible repeat (first | apply Kd.R_alloc | apply Kd.R_drewN | apply Kd.R_drew)); exact HO_9.out⟩, ⟨by repeat (first | (with_reducible first | exact HB.out | apply below_alloc | apply pw_below_drewN | apply below_drew1) | exact HB.out)⟩⟩
                      case rest =>
                        clear HC32
                        try clear c1
                        try clear p1
                        try clear q1
                        try clear hx1
                        try clear qi1
                        try clear c2
                        try clear p2
                        try clear q2
                        try clear hx2
                        try clear qi2
                        try clear c3
                        try clear c6
                        try clear c6b0
                        try clear p6
                        try clear c7
                        try clear c12
                        try clear c13
                        try clear c14
                        try clear c14b0
                        try clear c14b1
                        try clear c15
                        try clear p15
                        try clear q15
                        try clear hx15
                        try clear qi15
                        try clear hf15
                        try clear c16
                        try clear hx16
                        try clear hf16
                        try clear c19
                        try clear c20
                        try clear c20b0
                        try clear c20b1
                        try clear c21
                        try clear p21
                        try clear q21
                        try clear hx21
                        try clear qi21
                        try clear hf21
                        try clear c22
                        try clear hx22
                        try clear hf22
                        try clear c24
                        try clear c24b0
                        try clear c25
                        try clear c25b0
                        try clear c25b1
                        try clear c25b2
                        try clear c26
                        try clear c26b0
                        try clear c26b1
                        try clear c26b2
                        try clear c27
                        try clear c33
                        try clear c33b0
                        try clear c33b1
                        try clear c34
                        try clear c34b0
                        try clear c34b1
                        try clear hx15_0
                        try clear hx15_1
                        try clear hx15_2
                        try clear hx15_3
                        try clear hx15_4
                        try clear hx15_5
                        try clear hx16_3
                        try clear hx21_0
                        try clear hx21_1
                        try clear hx21_2
                        try clear hx21_3
                        try clear hx21_4
                        try clear hx21_5
                        try clear hx22_3
                        try clear p1
                        try clear p15
                        try clear p2
                        try clear p21
                        try clear q1
                        try clear q15
                        try clear q2
                        try clear q21
                        obtain ⟨kq, x62_31, rfl, HA, HJ31, HO_9, HB⟩ := hcut
                        cases kq with
                        | zero => exact absurd HA.out (by simp [rubricatorlaw14_StyleToggles.j4])
                        | succ kj31 =>
                          have H := HA.out
                          clear HA
                          simp only [rubricatorlaw14_StyleToggles.j4] at H
                          by_cases c35 : x62_31 = true
                          · subst c35
                            have H1 : ((style_Run.f x9_4 x10_4 x11_4 a2 0).bind fun t261 => (if t261 = 1 then ((rubricatorlaw14_known.f kj31).bind fun t262 => (some t262)) else (some false))) = some r := by rw [if_pos rfl] at H; exact H
                            clear H
                            have H := H1
                            clear H1
                            replace H := Option.bind_eq_some_iff.mp H
                            obtain ⟨t261, A360, H⟩ := H
                            replace H : (if t261 = 1 then ((rubricatorlaw14_known.f kj31).bind fun t262 => (some t262)) else (some false)) = some r := H
                            have A36 := Aside0.mk A360
                            clear A360
                            by_cases c37 : t261 = 1
                            · rw [if_pos c37] at H
                              have c37b0 : (t261 == 1) = true := beq_iff_eq.mpr c37
                              have c37b1 : (t261 != 1) = false := bne_eq_false_iff_eq.mpr c37
                              clear c37
                              replace H := Option.bind_eq_some_iff.mp H
                              obtain ⟨t262, A380, H⟩ := H
                              replace H : (some t262) = some r := H
                              have A38 := Aside0.mk A380
                              clear A380
                              obtain rfl := Option.some.inj H
                              obtain ⟨Ao39, co39, eo39⟩ := Kd.R_slice HO_9.out
                              subst eo39
                              go_wp2_with (first | ((with_reducible refine gate_callee (f := 17) rfl ?_); refine goesL_ (some 67) rfl rfl Tryd.func17 (by kernel_rfl) rfl #[.slice Ao39 x9_4.length co39, .string x10_4, .string x11_4, .int .i64 a2, .int .i64 0] rfl (by (try simp only [List.map_toArray, List.map_cons, List.map_nil]); first | done | rfl | (simp only [List.length_drop, List.length_take]; rfl)) ?_; (with_reducible refine (style_Run.calls _ _ x9_4 x10_4 x11_4 a2 0 t261 _ ?side1 ?side2 A36.out).mono ?_); (case side1 => repeat (first | exact (Kd.R_reads' HO_9.out).2.2 | (with_reducible refine Kd.C_alloc ?_ _) | (with_reducible refine Kd.C_drewN ?_ _) | (with_reducible refine Kd.C_drew ?_))); (case side2 => exact (Kd.R_reads' HO_9.out).2.1); rintro e w40 ⟨rfl, hb⟩; refine ⟨_, rfl, ?_⟩; have n0_ := Aside0.mk (Kd.R_below (by (with_reducible repeat (first | apply Kd.R_alloc | apply Kd.R_drewN | apply Kd.R_drew)); exact HO_9.out) hb); have n1_ := Aside0.mk (below_step (by repeat (first | (with_reducible first | exact HB.out | apply below_alloc | apply pw_below_drewN | apply below_drew1) | exact HB.out)) hb); clear HO_9; clear HB; have HO_9 := n0_; have HB := n1_; clear n0_ n1_; (try clear hb); (try clear hb2); (try clear hk); (try clear hi)) | ((first | ((with_reducible refine gate_callee (f := 12) rfl ?_); (with_reducible refine gate_dst (N := 71) rfl ?_); refine gate_guard (by rfl) ?_; dsimp only; refine goesL_ (some 71) rfl rfl Tryd.func12 (by kernel_rfl) rfl #[] rfl (by (try simp only [List.map_toArray, List.map_cons, List.map_nil]); first | done | rfl | (simp only [List.length_drop, List.length_take]; rfl)) ?_; (with_reducible refine (rubricatorlaw14_known.calls kj31  t262 _ A38.out).mono ?_); rintro e w41 ⟨rfl, hb⟩; refine ⟨_, rfl, ?_⟩) | (go_at_call 12; (with_reducible refine (rubricatorlaw14_known.calls kj31  t262 _ A38.out).mono ?_); rintro e w41 ⟨rfl, hb⟩)); have n0_ := Aside0.mk (Kd.R_below (by (with_reducible repeat (first | apply Kd.R_alloc | apply Kd.R_drewN | apply Kd.R_drew)); exact HO_9.out) hb); have n1_ := Aside0.mk (below_step (by repeat (first | (with_reducible first | exact HB.out | apply below_alloc | apply pw_below_drewN | apply below_drew1) | exact HB.out)) hb); clear HO_9; clear HB; have HO_9 := n0_; have HB := n1_; clear n0_ n1_; (try clear hb); (try clear hb2); (try clear hk); (try clear hi)))
                              go_ret
                              exact ⟨by first | rfl | (simp [errW_none, errW_some] <;> rfl) | (simp [*, errW_none, errW_some] <;> rfl), by repeat (first | (with_reducible first | exact HB.out | apply below_alloc | apply pw_below_drewN | apply below_drew1) | exact HB.out)⟩
                            · rw [if_neg c37] at H
                              have c37b0 : (t261 == 1) = false := beq_eq_false_iff_ne.mpr c37
                              have c37b1 : (t261 != 1) = true := bne_iff_ne.mpr c37
                              obtain rfl := Option.some.inj H
                              obtain ⟨Ao42, co42, eo42⟩ := Kd.R_slice HO_9.out
                              subst eo42
                              go_wp2_with (first | ((with_reducible refine gate_callee (f := 17) rfl ?_); refine goesL_ (some 67) rfl rfl Tryd.func17 (by kernel_rfl) rfl #[.slice Ao42 x9_4.length co42, .string x10_4, .string x11_4, .int .i64 a2, .int .i64 0] rfl (by (try simp only [List.map_toArray, List.map_cons, List.map_nil]); first | done | rfl | (simp only [List.length_drop, List.length_take]; rfl)) ?_; (with_reducible refine (style_Run.calls _ _ x9_4 x10_4 x11_4 a2 0 t261 _ ?side1 ?side2 A36.out).mono ?_); (case side1 => repeat (first | exact (Kd.R_reads' HO_9.out).2.2 | (with_reducible refine Kd.C_alloc ?_ _) | (with_reducible refine Kd.C_drewN ?_ _) | (with_reducible refine Kd.C_drew ?_))); (case side2 => exact (Kd.R_reads' HO_9.out).2.1); rintro e w43 ⟨rfl, hb⟩; refine ⟨_, rfl, ?_⟩; have n0_ := Aside0.mk (Kd.R_below (by (with_reducible repeat (first | apply Kd.R_alloc | apply Kd.R_drewN | apply Kd.R_drew)); exact HO_9.out) hb); have n1_ := Aside0.mk (below_step (by repeat (first | (with_reducible first | exact HB.out | apply below_alloc | apply pw_below_drewN | apply below_drew1) | exact HB.out)) hb); clear HO_9; clear HB; have HO_9 := n0_; have HB := n1_; clear n0_ n1_; (try clear hb); (try clear hb2); (try clear hk); (try clear hi)))
                              go_ret
                              exact ⟨by first | rfl | (simp [errW_none, errW_some] <;> rfl) | (simp [*, errW_none, errW_some] <;> rfl), by repeat (first | (with_reducible first | exact HB.out | apply below_alloc | apply pw_below_drewN | apply below_drew1) | exact HB.out)⟩
                          · replace c35 := Bool.eq_false_iff.mpr c35
                            subst c35
                            have H1 : ((style_Run.f x9_4 x10_4 x11_4 a2 0).bind fun t263 => (if t263 = 0 then ((rubricatorlaw14_known.f kj31).bind fun t264 => (some t264)) else (some false))) = some r := by rw [if_neg (show ¬ (false = true) by decide)] at H; exact H
                            clear H
                            have H := H1
                            clear H1
                            replace H := Option.bind_eq_some_iff.mp H
                            obtain ⟨t263, A440, H⟩ := H
                            replace H : (if t263 = 0 then ((rubricatorlaw14_known.f kj31).bind fun t264 => (some t264)) else (some false)) = some r := H
                            have A44 := Aside0.mk A440
                            clear A440
                            by_cases c45 : t263 = 0
                            · rw [if_pos c45] at H
                              have c45b0 : (t263 == 0) = true := beq_iff_eq.mpr c45
                              have c45b1 : (t263 != 0) = false := bne_eq_false_iff_eq.mpr c45
                              clear c45
                              replace H := Option.bind_eq_some_iff.mp H
                              obtain ⟨t264, A460, H⟩ := H
                              replace H : (some t264) = some r := H
                              have A46 := Aside0.mk A460
                              clear A460
                              obtain rfl := Option.some.inj H
                              obtain ⟨Ao47, co47, eo47⟩ := Kd.R_slice HO_9.out
                              subst eo47
                              go_wp2_with (first | ((with_reducible refine gate_callee (f := 17) rfl ?_); refine goesL_ (some 67) rfl rfl Tryd.func17 (by kernel_rfl) rfl #[.slice Ao47 x9_4.length co47, .string x10_4, .string x11_4, .int .i64 a2, .int .i64 0] rfl (by (try simp only [List.map_toArray, List.map_cons, List.map_nil]); first | done | rfl | (simp only [List.length_drop, List.length_take]; rfl)) ?_; (with_reducible refine (style_Run.calls _ _ x9_4 x10_4 x11_4 a2 0 t263 _ ?side1 ?side2 A44.out).mono ?_); (case side1 => repeat (first | exact (Kd.R_reads' HO_9.out).2.2 | (with_reducible refine Kd.C_alloc ?_ _) | (with_reducible refine Kd.C_drewN ?_ _) | (with_reducible refine Kd.C_drew ?_))); (case side2 => exact (Kd.R_reads' HO_9.out).2.1); rintro e w48 ⟨rfl, hb⟩; refine ⟨_, rfl, ?_⟩; have n0_ := Aside0.mk (Kd.R_below (by (with_reducible repeat (first | apply Kd.R_alloc | apply Kd.R_drewN | apply Kd.R_drew)); exact HO_9.out) hb); have n1_ := Aside0.mk (below_step (by repeat (first | (with_reducible first | exact HB.out | apply below_alloc | apply pw_below_drewN | apply below_drew1) | exact HB.out)) hb); clear HO_9; clear HB; have HO_9 := n0_; have HB := n1_; clear n0_ n1_; (try clear hb); (try clear hb2); (try clear hk); (try clear hi)) | ((first | ((with_reducible refine gate_callee (f := 12) rfl ?_); (with_reducible refine gate_dst (N := 71) rfl ?_); refine gate_guard (by rfl) ?_; dsimp only; refine goesL_ (some 71) rfl rfl Tryd.func12 (by kernel_rfl) rfl #[] rfl (by (try simp only [List.map_toArray, List.map_cons, List.map_nil]); first | done | rfl | (simp only [List.length_drop, List.length_take]; rfl)) ?_; (with_reducible refine (rubricatorlaw14_known.calls kj31  t264 _ A46.out).mono ?_); rintro e w49 ⟨rfl, hb⟩; refine ⟨_, rfl, ?_⟩) | (go_at_call 12; (with_reducible refine (rubricatorlaw14_known.calls kj31  t264 _ A46.out).mono ?_); rintro e w49 ⟨rfl, hb⟩)); have n0_ := Aside0.mk (Kd.R_below (by (with_reducible repeat (first | apply Kd.R_alloc | apply Kd.R_drewN | apply Kd.R_drew)); exact HO_9.out) hb); have n1_ := Aside0.mk (below_step (by repeat (first | (with_reducible first | exact HB.out | apply below_alloc | apply pw_below_drewN | apply below_drew1) | exact HB.out)) hb); clear HO_9; clear HB; have HO_9 := n0_; have HB := n1_; clear n0_ n1_; (try clear hb); (try clear hb2); (try clear hk); (try clear hi)))
                              go_ret
                              exact ⟨by first | rfl | (simp [errW_none, errW_some] <;> rfl) | (simp [*, errW_none, errW_some] <;> rfl), by repeat (first | (with_reducible first | exact HB.out | apply below_alloc | apply pw_below_drewN | apply below_drew1) | exact HB.out)⟩
                            · rw [if_neg c45] at H
                              have c45b0 : (t263 == 0) = false := beq_eq_false_iff_ne.mpr c45
                              have c45b1 : (t263 != 0) = true := bne_iff_ne.mpr c45
                              obtain rfl := Option.some.inj H
                              obtain ⟨Ao50, co50, eo50⟩ := Kd.R_slice HO_9.out
                              subst eo50
                              go_wp2_with (first | ((with_reducible refine gate_callee (f := 17) rfl ?_); refine goesL_ (some 67) rfl rfl Tryd.func17 (by kernel_rfl) rfl #[.slice Ao50 x9_4.length co50, .string x10_4, .string x11_4, .int .i64 a2, .int .i64 0] rfl (by (try simp only [List.map_toArray, List.map_cons, List.map_nil]); first | done | rfl | (simp only [List.length_drop, List.length_take]; rfl)) ?_; (with_reducible refine (style_Run.calls _ _ x9_4 x10_4 x11_4 a2 0 t263 _ ?side1 ?side2 A44.out).mono ?_); (case side1 => repeat (first | exact (Kd.R_reads' HO_9.out).2.2 | (with_reducible refine Kd.C_alloc ?_ _) | (with_reducible refine Kd.C_drewN ?_ _) | (with_reducible refine Kd.C_drew ?_))); (case side2 => exact (Kd.R_reads' HO_9.out).2.1); rintro e w51 ⟨rfl, hb⟩; refine ⟨_, rfl, ?_⟩; have n0_ := Aside0.mk (Kd.R_below (by (with_reducible repeat (first | apply Kd.R_alloc | apply Kd.R_drewN | apply Kd.R_drew)); exact HO_9.out) hb); have n1_ := Aside0.mk (below_step (by repeat (first | (with_reducible first | exact HB.out | apply below_alloc | apply pw_below_drewN | apply below_drew1) | exact HB.out)) hb); clear HO_9; clear HB; have HO_9 := n0_; have HB := n1_; clear n0_ n1_; (try clear hb); (try clear hb2); (try clear hk); (try clear hi)))
                              go_ret
                              exact ⟨by first | rfl | (simp [errW_none, errW_some] <;> rfl) | (simp [*, errW_none, errW_some] <;> rfl), by repeat (first | (with_reducible first | exact HB.out | apply below_alloc | apply pw_below_drewN | apply below_drew1) | exact HB.out)⟩

/-- THE ONE PURE STATEMENT of rubricatorlaw14_StyleToggles: yours. -/
def rubricatorlaw14_StyleToggles.Pure : Prop := ∀ (a0 : Bool) (a1 : Bool) (a2 : Int) (a3 : Int), (Lit.int .i64 a2).wf = true → (Lit.int .i64 a3).wf = true → ∃ k, rubricatorlaw14_StyleToggles.f k a0 a1 a2 a3 = some true
theorem rubricatorlaw14_StyleToggles.walk (P : rubricatorlaw14_StyleToggles.Pure) (a0 : Bool) (a1 : Bool) (a2 : Int) (a3 : Int) (w : World) (w2 : (Lit.int .i64 a2).wf = true) (w3 : (Lit.int .i64 a3).wf = true) :
    Calls Tryd.prog 6 #[.bool a0, .bool a1, .int .i64 a2, .int .i64 a3] w fun e w' => e = .returned (.bool true) ∧ Below w.heap.size w w' := by
  obtain ⟨k, h⟩ := P a0 a1 a2 a3 w2 w3
  refine (rubricatorlaw14_StyleToggles.calls k a0 a1 a2 a3 true w h).mono ?_
  rintro e w' ⟨rfl, hd⟩
  exact ⟨rfl, hd⟩

end Go.Proofs.YtahgfbficidjlaaDoor.PA
