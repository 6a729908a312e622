-- Printed by a program of this workplace (a turned printer): functions, and proofs that the calls come to them.
import Derived.Test.YtachnclfgjdglaaPAx0
import Derived.Test.YtachnclfgjdglaaPAx1
import Derived.Test.YtachnclfgjdglaaPAx2
namespace Go.Proofs.Ytachnclfgjdglaa.PA
open Go.RowKit Go.Proofs.YtachnclfgjdglaaW.PrintWords Go.Proofs.YtachnclfgjdglaaW.PrintLast Go.Proofs.YtachnclfgjdglaaW.PrintMore
attribute [local go_sem] max2_int min2_int max_two min_two max_three min_three max_four min_four   -- for this text's walks alone
set_option linter.unusedVariables false
set_option linter.unusedSimpArgs false

/-! ### rubricatorlaw3_HuffOrder: function 4 -/
mutual
def rubricatorlaw3_HuffOrder.l0 : Nat → List Int → List Int → Int → Option (Bool)
  | 0, _, _, _ => none
  | k + 1, x0, x3, x5 => if x5 < (x0.length : Int) then (rubricatorlaw3_HuffOrder.l1 k x0 x3 x5 0) else ((rubricatorlaw3_known.f k).bind fun t174 => (some t174))
def rubricatorlaw3_HuffOrder.l1 : Nat → List Int → List Int → Int → Int → Option (Bool)
  | 0, _, _, _, _ => none
  | k + 1, x0, x3, x5, x6 => if x6 < (x0.length : Int) then (if 0 ≤ x5 then (if x5 < (x0.length : Int) then (if (rd x0 x5) = 0 then (rubricatorlaw3_HuffOrder.j2 k x0 x3 x5 x6 true) else (if 0 ≤ x6 then (if (rd x0 x6) = 0 then (rubricatorlaw3_HuffOrder.j2 k x0 x3 x5 x6 true) else (rubricatorlaw3_HuffOrder.j2 k x0 x3 x5 x6 (x5 == x6))) else (none))) else (none)) else (none)) else (rubricatorlaw3_HuffOrder.l0 k x0 x3 (wrap64 (x5 + 1)))
def rubricatorlaw3_HuffOrder.j2 : Nat → List Int → List Int → Int → Int → Bool → Option (Bool)
  | 0, _, _, _, _, _ => none
  | k + 1, x0, x3, x5, x6, x58 => if x58 = true then (rubricatorlaw3_HuffOrder.l1 k x0 x3 x5 (wrap64 (x6 + 1))) else (if 0 ≤ x5 then (if x5 < (x3.length : Int) then (if x5 < (x0.length : Int) then (if 0 ≤ (IntKind.u64.wrap (wrap64 (15 - (rd x0 x5)))) then (if 0 ≤ x6 then (if x6 < (x3.length : Int) then (if x6 < (x0.length : Int) then (if 0 ≤ (IntKind.u64.wrap (wrap64 (15 - (rd x0 x6)))) then (if (rd x0 x5) < (rd x0 x6) then (rubricatorlaw3_HuffOrder.j3 k x0 x3 x5 x6 (decide ((shl .i64 (rd x3 x5) (IntKind.u64.wrap (wrap64 (15 - (rd x0 x5))))) ≥ (shl .i64 (rd x3 x6) (IntKind.u64.wrap (wrap64 (15 - (rd x0 x6)))))))) else (if (rd x0 x5) = (rd x0 x6) then (if x5 < x6 then (rubricatorlaw3_HuffOrder.j3 k x0 x3 x5 x6 (decide ((shl .i64 (rd x3 x5) (IntKind.u64.wrap (wrap64 (15 - (rd x0 x5))))) ≥ (shl .i64 (rd x3 x6) (IntKind.u64.wrap (wrap64 (15 - (rd x0 x6)))))))) else (rubricatorlaw3_HuffOrder.j3 k x0 x3 x5 x6 false)) else (rubricatorlaw3_HuffOrder.j3 k x0 x3 x5 x6 false))) else (none)) else (none)) else (none)) else (none)) else (none)) else (none)) else (none)) else (none))
def rubricatorlaw3_HuffOrder.j3 : Nat → List Int → List Int → Int → Int → Bool → Option (Bool)
  | 0, _, _, _, _, _ => none
  | k + 1, x0, x3, x5, x6, x110 => if x110 = true then (some false) else (if 0 ≤ x5 then (if x5 < (x0.length : Int) then (if 0 ≤ x6 then (if x6 < (x0.length : Int) then (if (rd x0 x5) ≤ (rd x0 x6) then (if x6 < (x3.length : Int) then (if 0 ≤ (IntKind.u64.wrap (wrap64 ((rd x0 x6) - (rd x0 x5)))) then (if x5 < (x3.length : Int) then (if (shr .i64 (rd x3 x6) (IntKind.u64.wrap (wrap64 ((rd x0 x6) - (rd x0 x5))))) = (rd x3 x5) then (some false) else (rubricatorlaw3_HuffOrder.l1 k x0 x3 x5 (wrap64 (x6 + 1)))) else (none)) else (none)) else (none)) else (rubricatorlaw3_HuffOrder.l1 k x0 x3 x5 (wrap64 (x6 + 1)))) else (none)) else (none)) else (none)) else (none))
end
def rubricatorlaw3_HuffOrder.f (k : Nat) (l0 : List Int) : Option (Bool) := if (l0.length : Int) > 200 then (some true) else ((huff_Codes.f l0).bind fun bt169 => (if bt169.2 = 0 then (if (bt169.1.length : Int) = (l0.length : Int) then (rubricatorlaw3_HuffOrder.l0 k l0 bt169.1 0) else (some false)) else (if (bt169.1.length : Int) = 0 then ((rubricatorlaw3_known.f k).bind fun t173 => (some t173)) else (some false))))
theorem rubricatorlaw3_HuffOrder.mono_l : ∀ k, (∀ y0 y1 y2, LeO (rubricatorlaw3_HuffOrder.l0 k y0 y1 y2) (rubricatorlaw3_HuffOrder.l0 (k + 1) y0 y1 y2)) ∧ (∀ y0 y1 y2 y3, LeO (rubricatorlaw3_HuffOrder.l1 k y0 y1 y2 y3) (rubricatorlaw3_HuffOrder.l1 (k + 1) y0 y1 y2 y3)) ∧ (∀ y0 y1 y2 y3 y4, LeO (rubricatorlaw3_HuffOrder.j2 k y0 y1 y2 y3 y4) (rubricatorlaw3_HuffOrder.j2 (k + 1) y0 y1 y2 y3 y4)) ∧ (∀ y0 y1 y2 y3 y4, LeO (rubricatorlaw3_HuffOrder.j3 k y0 y1 y2 y3 y4) (rubricatorlaw3_HuffOrder.j3 (k + 1) y0 y1 y2 y3 y4))
  | 0 => ⟨fun _ _ _ r h => by simp [rubricatorlaw3_HuffOrder.l0] at h, fun _ _ _ _ r h => by simp [rubricatorlaw3_HuffOrder.l1] at h, fun _ _ _ _ _ r h => by simp [rubricatorlaw3_HuffOrder.j2] at h, fun _ _ _ _ _ r h => by simp [rubricatorlaw3_HuffOrder.j3] at h⟩
  | k + 1 => by
    obtain ⟨ih0, ih1, ih2, ih3⟩ := rubricatorlaw3_HuffOrder.mono_l k
    refine ⟨?_, ?_, ?_, ?_⟩
    · intro y0 y1 y2
      unfold rubricatorlaw3_HuffOrder.l0
      repeat' first
      | (with_reducible exact ih0 _ _ _)
      | (with_reducible exact ih1 _ _ _ _)
      | (with_reducible exact ih2 _ _ _ _ _)
      | (with_reducible exact ih3 _ _ _ _ _)
      | (with_reducible exact rubricatorlaw3_known.mono _)
      | (with_reducible exact LeO.refl _)
      | (with_reducible exact LeO.none _)
      | (with_reducible refine LeO.ite ?_ ?_)
      | (with_reducible refine LeO.bind ?_ (fun _ => ?_))
      | exact ih0 _ _ _
      | exact ih1 _ _ _ _
      | exact ih2 _ _ _ _ _
      | exact ih3 _ _ _ _ _
      | exact rubricatorlaw3_known.mono _
      | exact LeO.none _
      | refine LeO.ite ?_ ?_
      | refine LeO.bind ?_ (fun _ => ?_)
    · intro y0 y1 y2 y3
      unfold rubricatorlaw3_HuffOrder.l1
      repeat' first
      | (with_reducible exact ih0 _ _ _)
      | (with_reducible exact ih1 _ _ _ _)
      | (with_reducible exact ih2 _ _ _ _ _)
      | (with_reducible exact ih3 _ _ _ _ _)
      | (with_reducible exact rubricatorlaw3_known.mono _)
      | (with_reducible exact LeO.refl _)
      | (with_reducible exact LeO.none _)
      | (with_reducible refine LeO.ite ?_ ?_)
      | (with_reducible refine LeO.bind ?_ (fun _ => ?_))
      | exact ih0 _ _ _
      | exact ih1 _ _ _ _
      | exact ih2 _ _ _ _ _
      | exact ih3 _ _ _ _ _
      | exact rubricatorlaw3_known.mono _
      | exact LeO.none _
      | refine LeO.ite ?_ ?_
      | refine LeO.bind ?_ (fun _ => ?_)
    · intro y0 y1 y2 y3 y4
      unfold rubricatorlaw3_HuffOrder.j2
      repeat' first
      | (with_reducible exact ih0 _ _ _)
      | (with_reducible exact ih1 _ _ _ _)
      | (with_reducible exact ih2 _ _ _ _ _)
      | (with_reducible exact ih3 _ _ _ _ _)
      | (with_reducible exact rubricatorlaw3_known.mono _)
      | (with_reducible exact LeO.refl _)
      | (with_reducible exact LeO.none _)
      | (with_reducible refine LeO.ite ?_ ?_)
      | (with_reducible refine LeO.bind ?_ (fun _ => ?_))
      | exact ih0 _ _ _
      | exact ih1 _ _ _ _
      | exact ih2 _ _ _ _ _
      | exact ih3 _ _ _ _ _
      | exact rubricatorlaw3_known.mono _
      | exact LeO.none _
      | refine LeO.ite ?_ ?_
      | refine LeO.bind ?_ (fun _ => ?_)
    · intro y0 y1 y2 y3 y4
      unfold rubricatorlaw3_HuffOrder.j3
      repeat' first
      | (with_reducible exact ih0 _ _ _)
      | (with_reducible exact ih1 _ _ _ _)
      | (with_reducible exact ih2 _ _ _ _ _)
      | (with_reducible exact ih3 _ _ _ _ _)
      | (with_reducible exact rubricatorlaw3_known.mono _)
      | (with_reducible exact LeO.refl _)
      | (with_reducible exact LeO.none _)
      | (with_reducible refine LeO.ite ?_ ?_)
      | (with_reducible refine LeO.bind ?_ (fun _ => ?_))
      | exact ih0 _ _ _
      | exact ih1 _ _ _ _
      | exact ih2 _ _ _ _ _
      | exact ih3 _ _ _ _ _
      | exact rubricatorlaw3_known.mono _
      | exact LeO.none _
      | refine LeO.ite ?_ ?_
      | refine LeO.bind ?_ (fun _ => ?_)
theorem rubricatorlaw3_HuffOrder.mono : ∀ a0 k, LeO (rubricatorlaw3_HuffOrder.f k a0) (rubricatorlaw3_HuffOrder.f (k + 1) a0) := by
  intro a0 k
  obtain ⟨ih0, ih1, ih2, ih3⟩ := rubricatorlaw3_HuffOrder.mono_l k
  unfold rubricatorlaw3_HuffOrder.f
  repeat' first
      | (with_reducible exact ih0 _ _ _)
      | (with_reducible exact ih1 _ _ _ _)
      | (with_reducible exact ih2 _ _ _ _ _)
      | (with_reducible exact ih3 _ _ _ _ _)
      | (with_reducible exact rubricatorlaw3_known.mono _)
      | (with_reducible exact LeO.refl _)
      | (with_reducible exact LeO.none _)
      | (with_reducible refine LeO.ite ?_ ?_)
      | (with_reducible refine LeO.bind ?_ (fun _ => ?_))
      | exact ih0 _ _ _
      | exact ih1 _ _ _ _
      | exact ih2 _ _ _ _ _
      | exact ih3 _ _ _ _ _
      | exact rubricatorlaw3_known.mono _
      | exact LeO.none _
      | refine LeO.ite ?_ ?_
      | refine LeO.bind ?_ (fun _ => ?_)
set_option maxHeartbeats 8000000 in
set_option maxRecDepth 100000 in
theorem rubricatorlaw3_HuffOrder.calls (k : Nat) (A0 : Option Addr) (c0 : Nat) (l0 : List Int) (r : Bool) (w : World) (hr0 : Kd.C (Kd.int .i64) w A0 l0.length l0) (hc0 : l0.length ≤ c0) (h : rubricatorlaw3_HuffOrder.f k l0 = some r) :
    Calls Try.prog 4 #[.slice A0 l0.length c0] w fun e w' => e = .returned (.bool r) ∧ Below w.heap.size w w' := by
  have HR0 := Aside0.mk hr0
  have HC0 := Aside0.mk hc0
  clear hr0 hc0
  have HB := Aside0.mk (Below.refl w.heap.size w)
  have H : (if (l0.length : Int) > 200 then (some true) else ((huff_Codes.f l0).bind fun bt169 => (if bt169.2 = 0 then (if (bt169.1.length : Int) = (l0.length : Int) then (rubricatorlaw3_HuffOrder.l0 k l0 bt169.1 0) else (some false)) else (if (bt169.1.length : Int) = 0 then ((rubricatorlaw3_known.f k).bind fun t173 => (some t173)) else (some false))))) = some r := h
  clear h
  by_cases c2 : (l0.length : Int) > 200
  · rw [if_pos c2] at H
    have c2b0 : decide (200 < (l0.length : Int)) = true := decide_eq_true c2
    have c2b1 : decide (200 < l0.length) = true := decide_eq_true (by omega)
    clear c2
    obtain rfl := Option.some.inj H
    go_enter Try.func4, Try.ntmps4
    go_wp2
    repeat (go_quiet (fail); try go_wp2)
    go_ret
    exact ⟨by first | rfl | (simp [errW_none, errW_some] <;> rfl) | (simp [*, errW_none, errW_some] <;> rfl), by repeat (first | (with_reducible first | exact HB.out | apply below_alloc | apply pw_below_drewN | apply below_drew1) | exact HB.out)⟩
  · rw [if_neg c2] at H
    have c2b0 : decide (200 < (l0.length : Int)) = false := decide_eq_false c2
    have c2b1 : decide (200 < l0.length) = false := decide_eq_false (by omega)
    clear c2
    replace H := Option.bind_eq_some_iff.mp H
    obtain ⟨⟨t169, t170⟩, A30, H⟩ := H
    replace H : (if t170 = 0 then (if (t169.length : Int) = (l0.length : Int) then (rubricatorlaw3_HuffOrder.l0 k l0 t169 0) else (some false)) else (if (t169.length : Int) = 0 then ((rubricatorlaw3_known.f k).bind fun t173 => (some t173)) else (some false))) = some r := H
    have A3 := Aside0.mk A30
    clear A30
    by_cases c4 : t170 = 0
    · rw [if_pos c4] at H
      have c4b0 : (t170 == 0) = true := beq_iff_eq.mpr c4
      have c4b1 : (t170 != 0) = false := bne_eq_false_iff_eq.mpr c4
      clear c4
      by_cases c5 : (t169.length : Int) = (l0.length : Int)
      · rw [if_pos c5] at H
        have c5b0 : ((t169.length : Int) == (l0.length : Int)) = true := beq_iff_eq.mpr c5
        have c5b1 : ((t169.length : Int) != (l0.length : Int)) = false := bne_eq_false_iff_eq.mpr c5
        have c5b2 : (t169.length == l0.length) = true := by first | simpa using c5 | (simp at c5 ⊢; omega)
        clear c5
        have H' := Aside0.mk H
        clear H
        go_enter Try.func4, Try.ntmps4
        go_wp2_with (first | (go_at_call 13; (with_reducible refine (huff_Codes.calls _ _ l0 t169 t170 _ ?side1 ?side2 A3.out).mono ?_); (case side1 => repeat (first | exact HR0.out | (with_reducible refine Kd.C_alloc ?_ _) | (with_reducible refine Kd.C_drewN ?_ _) | (with_reducible refine Kd.C_drew ?_))); (case side2 => exact HC0.out); rintro e w6 ⟨v171, rfl, ho0, hb⟩; have n0_ := Aside0.mk (Kd.R_lower ho0 (below_size (by repeat (first | (with_reducible first | exact HB.out | apply below_alloc | apply pw_below_drewN | apply below_drew1) | exact HB.out)))); have n1_ := Aside0.mk (below_step (by repeat (first | (with_reducible first | exact HB.out | apply below_alloc | apply pw_below_drewN | apply below_drew1) | exact HB.out)) hb); clear HB; have HO172 := n0_; have HB := n1_; clear n0_ n1_; (try clear hb); (try clear hb2); (try clear hk); (try clear hi); (try clear ho0); obtain ⟨Ao7, co7, eo7⟩ := Kd.R_slice HO172.out; subst eo7))
        repeat (go_quiet (first | (go_at_call 13; (with_reducible refine (huff_Codes.calls _ _ l0 t169 t170 _ ?side1 ?side2 A3.out).mono ?_); (case side1 => repeat (first | exact HR0.out | (with_reducible refine Kd.C_alloc ?_ _) | (with_reducible refine Kd.C_drewN ?_ _) | (with_reducible refine Kd.C_drew ?_))); (case side2 => exact HC0.out); rintro e w6 ⟨v171, rfl, ho0, hb⟩; have n0_ := Aside0.mk (Kd.R_lower ho0 (below_size (by repeat (first | (with_reducible first | exact HB.out | apply below_alloc | apply pw_below_drewN | apply below_drew1) | exact HB.out)))); have n1_ := Aside0.mk (below_step (by repeat (first | (with_reducible first | exact HB.out | apply below_alloc | apply pw_below_drewN | apply below_drew1) | exact HB.out)) hb); clear HB; have HO172 := n0_; have HB := n1_; clear n0_ n1_; (try clear hb); (try clear hb2); (try clear hk); (try clear hi); (try clear ho0); obtain ⟨Ao7, co7, eo7⟩ := Kd.R_slice HO172.out; subst eo7)); try go_wp2_with (first | (go_at_call 13; (with_reducible refine (huff_Codes.calls _ _ l0 t169 t170 _ ?side1 ?side2 A3.out).mono ?_); (case side1 => repeat (first | exact HR0.out | (with_reducible refine Kd.C_alloc ?_ _) | (with_reducible refine Kd.C_drewN ?_ _) | (with_reducible refine Kd.C_drew ?_))); (case side2 => exact HC0.out); rintro e w6 ⟨v171, rfl, ho0, hb⟩; have n0_ := Aside0.mk (Kd.R_lower ho0 (below_size (by repeat (first | (with_reducible first | exact HB.out | apply below_alloc | apply pw_below_drewN | apply below_drew1) | exact HB.out)))); have n1_ := Aside0.mk (below_step (by repeat (first | (with_reducible first | exact HB.out | apply below_alloc | apply pw_below_drewN | apply below_drew1) | exact HB.out)) hb); clear HB; have HO172 := n0_; have HB := n1_; clear n0_ n1_; (try clear hb); (try clear hb2); (try clear hk); (try clear hi); (try clear ho0); obtain ⟨Ao7, co7, eo7⟩ := Kd.R_slice HO172.out; subst eo7)))
        go_loopg [5] k (fun kq v5 w' => ∃ (x5_1 : Int), v5 = .int .i64 x5_1 ∧ Aside0 (rubricatorlaw3_HuffOrder.l0 kq l0 t169 x5_1 = some r) ∧ Aside0 (kq ≤ k) ∧ Aside0 (Kd.R (Kd.int .i64) 3 w' w.heap.size (fun _ => True) (.slice Ao7 t169.length co7) t169) ∧ Aside0 (Below w.heap.size w w'))
        case atStart => exact ⟨(0), (by first | rfl | (simp; done) | (simp [*]; done)), H', ⟨Nat.le_refl _⟩, ⟨by (with_reducible repeat (first | apply Kd.R_alloc | apply Kd.R_drewN | apply Kd.R_drew)); exact HO172.out⟩, ⟨by repeat (first | (with_reducible first | exact HB.out | apply below_alloc | apply pw_below_drewN | apply below_drew1) | exact HB.out)⟩⟩
        case round =>
          clear H'
          try clear c2
          try clear c2b0
          try clear c2b1
          try clear p2
          try clear c4
          try clear c4b0
          try clear c4b1
          try clear c5
          try clear c5b0
          try clear c5b1
          try clear c5b2
          obtain ⟨x5_1, rfl, HA, HK1, HO_3, HB⟩ := hrel
          cases gk with
          | zero => exact absurd HA.out (by simp [rubricatorlaw3_HuffOrder.l0])
          | succ k1 =>
            have H := HA.out
            clear HA
            simp only [rubricatorlaw3_HuffOrder.l0] at H
            by_cases c8 : x5_1 < (l0.length : Int)
            · rw [if_pos c8] at H
              have c8b0 : decide (x5_1 < (l0.length : Int)) = true := decide_eq_true c8
              clear c8
              have H' := Aside0.mk H
              clear H
              go_wp2
              repeat (go_quiet (fail); try go_wp2)
              go_loopg [6] k1 (fun kq v6 w' => ∃ (x6_2 : Int), v6 = .int .i64 x6_2 ∧ Aside0 (rubricatorlaw3_HuffOrder.l1 kq l0 t169 x5_1 x6_2 = some r) ∧ Aside0 (kq ≤ k1) ∧ Aside0 (Kd.R (Kd.int .i64) 3 w' w.heap.size (fun _ => True) (.slice Ao7 t169.length co7) t169) ∧ Aside0 (Below w.heap.size w w'))
              case atStart => exact ⟨(0), (by first | rfl | (simp; done) | (simp [*]; done)), H', ⟨Nat.le_refl _⟩, ⟨by (with_reducible repeat (first | apply Kd.R_alloc | apply Kd.R_drewN | apply Kd.R_drew)); exact HO_3.out⟩, ⟨by repeat (first | (with_reducible first | exact HB.out | apply below_alloc | apply pw_below_drewN | apply below_drew1) | exact HB.out)⟩⟩
              case round =>
                clear H'
                try clear c2
                try clear c2b0
                try clear c2b1
                try clear p2
                try clear c4
                try clear c4b0
                try clear c4b1
                try clear c5
                try clear c5b0
                try clear c5b1
                try clear c5b2
                try clear c8
                try clear c8b0
                try clear p2
                obtain ⟨x6_2, rfl, HA, HK2, HO_3, HB⟩ := hrel
                cases gk with
                | zero => exact absurd HA.out (by simp [rubricatorlaw3_HuffOrder.l1])
                | succ k2 =>
                  have H := HA.out
                  clear HA
                  simp only [rubricatorlaw3_HuffOrder.l1] at H
                  by_cases c9 : x6_2 < (l0.length : Int)
                  · rw [if_pos c9] at H
                    have c9b0 : decide (x6_2 < (l0.length : Int)) = true := decide_eq_true c9
                    clear c9
                    have HC10 := Aside0.mk H
                    clear H
                    go_upto_region 14 with (fail)
                    repeat (go_quiet (fail); go_upto_region 14 with (fail))
                    go_cut [58] (fun v58 wc => ∃ (kq : Nat) (x58_9 : Bool), v58 = .bool x58_9 ∧ Aside0 (rubricatorlaw3_HuffOrder.j2 kq l0 t169 x5_1 x6_2 x58_9 = some r) ∧ Aside0 (kq ≤ k2) ∧ Aside0 (Kd.R (Kd.int .i64) 3 wc w.heap.size (fun _ => True) (.slice Ao7 t169.length co7) t169) ∧ Aside0 (Below w.heap.size w wc))
                    case first =>
                      have H := HC10.out
                      clear HC10
                      by_cases c11 : 0 ≤ x5_1
                      · rw [if_pos c11] at H
                        have c11b0 : decide (0 ≤ x5_1) = true := decide_eq_true c11
                        clear c11
                        (first | rw [c11b0] | (simp only [i64_w, i32_w]; rw [c11b0]) | skip)
                        by_cases c12 : x5_1 < (l0.length : Int)
                        · rw [if_pos c12] at H
                          have c12b0 : decide (x5_1 < (l0.length : Int)) = true := decide_eq_true c12
                          clear c12
                          by_cases c13 : (rd l0 x5_1) = 0
                          · rw [if_pos c13] at H
                            have c13b0 : ((rd l0 x5_1) == 0) = true := beq_iff_eq.mpr c13
                            have c13b1 : ((rd l0 x5_1) != 0) = false := bne_eq_false_iff_eq.mpr c13
                            clear c13
                            have H' := Aside0.mk H
                            clear H
                            have p175 : 0 ≤ (x5_1 : Int) := of_decide_eq_true (by first | (with_reducible assumption) | assumption)
                            have q175 : x5_1 < (l0.length : Int) := of_decide_eq_true (by first | (with_reducible assumption) | assumption)
                            obtain ⟨ad175, e175, hx175_0⟩ := Kd.at_int HR0.out x5_1 p175 q175
                            cases e175
                            replace hx175_0 := (HB.out.cell (World.block_lt_of_cell? w _ hx175_0)).trans hx175_0
                            replace p175 := eq_true p175
                            replace q175 := eq_true q175
                            go_wp2
                            repeat (go_quiet (fail); try go_wp2)
                            go_meet
                            case rel => exact ⟨_, (true), (by first | rfl | (simp; done) | (simp [*]; done)), H', ⟨by have := HK1.out; have := HK2.out; first | omega | exact Nat.le_refl _⟩, ⟨by (with_reducible repeat (first | apply Kd.R_alloc | apply Kd.R_drewN | apply Kd.R_drew)); exact HO_3.out⟩, ⟨by repeat (first | (with_reducible first | exact HB.out | apply below_alloc | apply pw_below_drewN | apply below_drew1) | exact HB.out)⟩⟩
                          · rw [if_neg c13] at H
                            have c13b0 : ((rd l0 x5_1) == 0) = false := beq_eq_false_iff_ne.mpr c13
                            have c13b1 : ((rd l0 x5_1) != 0) = true := bne_iff_ne.mpr c13
                            by_cases c14 : 0 ≤ x6_2
                            · rw [if_pos c14] at H
                              have c14b0 : decide (0 ≤ x6_2) = true := decide_eq_true c14
                              clear c14
                              by_cases c15 : (rd l0 x6_2) = 0
                              · rw [if_pos c15] at H
                                have c15b0 : ((rd l0 x6_2) == 0) = true := beq_iff_eq.mpr c15
                                have c15b1 : ((rd l0 x6_2) != 0) = false := bne_eq_false_iff_eq.mpr c15
                                clear c15
                                have H' := Aside0.mk H
                                clear H
                                have p175 : 0 ≤ (x5_1 : Int) := of_decide_eq_true (by first | (with_reducible assumption) | assumption)
                                have q175 : x5_1 < (l0.length : Int) := of_decide_eq_true (by first | (with_reducible assumption) | assumption)
                                obtain ⟨ad175, e175, hx175_0⟩ := Kd.at_int HR0.out x5_1 p175 q175
                                cases e175
                                replace hx175_0 := (HB.out.cell (World.block_lt_of_cell? w _ hx175_0)).trans hx175_0
                                replace p175 := eq_true p175
                                replace q175 := eq_true q175
                                have p176 : 0 ≤ (x6_2 : Int) := of_decide_eq_true (by first | (with_reducible assumption) | assumption)
                                have q176 : x6_2 < (l0.length : Int) := of_decide_eq_true (by first | (with_reducible assumption) | assumption)
                                obtain ⟨ad176, e176, hx176_0⟩ := Kd.at_int HR0.out x6_2 p176 q176
                                obtain rfl : ad175 = ad176 := (by injection e176)
                                replace hx176_0 := (HB.out.cell (World.block_lt_of_cell? w _ hx176_0)).trans hx176_0
                                replace p176 := eq_true p176
                                replace q176 := eq_true q176
                                go_wp2
                                repeat (go_quiet (fail); try go_wp2)
                                go_meet
                                case rel => exact ⟨_, (true), (by first | rfl | (simp; done) | (simp [*]; done)), H', ⟨by have := HK1.out; have := HK2.out; first | omega | exact Nat.le_refl _⟩, ⟨by (with_reducible repeat (first | apply Kd.R_alloc | apply Kd.R_drewN | apply Kd.R_drew)); exact HO_3.out⟩, ⟨by repeat (first | (with_reducible first | exact HB.out | apply below_alloc | apply pw_below_drewN | apply below_drew1) | exact HB.out)⟩⟩
                              · rw [if_neg c15] at H
                                have c15b0 : ((rd l0 x6_2) == 0) = false := beq_eq_false_iff_ne.mpr c15
                                have c15b1 : ((rd l0 x6_2) != 0) = true := bne_iff_ne.mpr c15
                                have H' := Aside0.mk H
                                clear H
                                have p175 : 0 ≤ (x5_1 : Int) := of_decide_eq_true (by first | (with_reducible assumption) | assumption)
                                have q175 : x5_1 < (l0.length : Int) := of_decide_eq_true (by first | (with_reducible assumption) | assumption)
                                obtain ⟨ad175, e175, hx175_0⟩ := Kd.at_int HR0.out x5_1 p175 q175
                                cases e175
                                replace hx175_0 := (HB.out.cell (World.block_lt_of_cell? w _ hx175_0)).trans hx175_0
                                replace p175 := eq_true p175
                                replace q175 := eq_true q175
                                have p176 : 0 ≤ (x6_2 : Int) := of_decide_eq_true (by first | (with_reducible assumption) | assumption)
                                have q176 : x6_2 < (l0.length : Int) := of_decide_eq_true (by first | (with_reducible assumption) | assumption)
                                obtain ⟨ad176, e176, hx176_0⟩ := Kd.at_int HR0.out x6_2 p176 q176
                                obtain rfl : ad175 = ad176 := (by injection e176)
                                replace hx176_0 := (HB.out.cell (World.block_lt_of_cell? w _ hx176_0)).trans hx176_0
                                replace p176 := eq_true p176
                                replace q176 := eq_true q176
                                go_wp2
                                repeat (go_quiet (fail); try go_wp2)
                                go_meet
                                case rel => exact ⟨_, ((x5_1 == x6_2)), (by first | rfl | (simp; done) | (simp [*]; done)), H', ⟨by have := HK1.out; have := HK2.out; first | omega | exact Nat.le_refl _⟩, ⟨by (with_reducible repeat (first | apply Kd.R_alloc | apply Kd.R_drewN | apply Kd.R_drew)); exact HO_3.out⟩, ⟨by repeat (first | (with_reducible first | exact HB.out | apply below_alloc | apply pw_below_drewN | apply below_drew1) | exact HB.out)⟩⟩
                            · rw [if_neg c14] at H
                              exact absurd H (by simp)
                        · rw [if_neg c12] at H
                          exact absurd H (by simp)
                      · rw [if_neg c11] at H
                        exact absurd H (by simp)
                    case rest =>
                      clear HC10
                      try clear c1
                      try clear p1
                      try clear q1
                      try clear hx1
                      try clear c2
                      try clear c2b0
                      try clear c2b1
                      try clear p2
                      try clear c4
                      try clear c4b0
                      try clear c4b1
                      try clear c5
                      try clear c5b0
                      try clear c5b1
                      try clear c5b2
                      try clear c8
                      try clear c8b0
                      try clear c9
                      try clear c9b0
                      try clear c11
                      try clear c11b0
                      try clear c12
                      try clear c12b0
                      try clear c13
                      try clear c13b0
                      try clear c13b1
                      try clear c14
                      try clear c14b0
                      try clear c15
                      try clear c15b0
                      try clear c15b1
                      try clear hx175_0
                      try clear hx176_0
                      try clear p175
                      try clear p176
                      try clear p2
                      try clear q175
                      try clear q176
                      obtain ⟨kq, x58_9, rfl, HA, HJ9, HO_3, HB⟩ := hcut
                      cases kq with
                      | zero => exact absurd HA.out (by simp [rubricatorlaw3_HuffOrder.j2])
                      | succ kj9 =>
                        have H := HA.out
                        clear HA
                        simp only [rubricatorlaw3_HuffOrder.j2] at H
                        by_cases c16 : x58_9 = true
                        · subst c16
                          have H1 : (rubricatorlaw3_HuffOrder.l1 kj9 l0 t169 x5_1 (wrap64 (x6_2 + 1))) = some r := by rw [if_pos rfl] at H; exact H
                          clear H
                          have H := H1
                          clear H1
                          have H' := Aside0.mk H
                          clear H
                          go_wp2
                          repeat (go_quiet (fail); try go_wp2)
                          go_roundg kj9
                          case measure => have := HK1.out; have := HK2.out; have := HJ9.out; omega
                          case rel => exact ⟨(wrap64 (x6_2 + 1)), (by first | rfl | (simp; done) | (simp [*]; done)), H', ⟨by have := HK1.out; have := HK2.out; have := HJ9.out; omega⟩, ⟨by (with_reducible repeat (first | apply Kd.R_alloc | apply Kd.R_drewN | apply Kd.R_drew)); exact HO_3.out⟩, ⟨by repeat (first | (with_reducible first | exact HB.out | apply below_alloc | apply pw_below_drewN | apply below_drew1) | exact HB.out)⟩⟩
                        · replace c16 := Bool.eq_false_iff.mpr c16
                          subst c16
                          have H1 : (if 0 ≤ x5_1 then (if x5_1 < (t169.length : Int) then (if x5_1 < (l0.length : Int) then (if 0 ≤ (IntKind.u64.wrap (wrap64 (15 - (rd l0 x5_1)))) then (if 0 ≤ x6_2 then (if x6_2 < (t169.length : Int) then (if x6_2 < (l0.length : Int) then (if 0 ≤ (IntKind.u64.wrap (wrap64 (15 - (rd l0 x6_2)))) then (if (rd l0 x5_1) < (rd l0 x6_2) then (rubricatorlaw3_HuffOrder.j3 kj9 l0 t169 x5_1 x6_2 (decide ((shl .i64 (rd t169 x5_1) (IntKind.u64.wrap (wrap64 (15 - (rd l0 x5_1))))) ≥ (shl .i64 (rd t169 x6_2) (IntKind.u64.wrap (wrap64 (15 - (rd l0 x6_2)))))))) else (if (rd l0 x5_1) = (rd l0 x6_2) then (if x5_1 < x6_2 then (rubricatorlaw3_HuffOrder.j3 kj9 l0 t169 x5_1 x6_2 (decide ((shl .i64 (rd t169 x5_1) (IntKind.u64.wrap (wrap64 (15 - (rd l0 x5_1))))) ≥ (shl .i64 (rd t169 x6_2) (IntKind.u64.wrap (wrap64 (15 - (rd l0 x6_2)))))))) else (rubricatorlaw3_HuffOrder.j3 kj9 l0 t169 x5_1 x6_2 false)) else (rubricatorlaw3_HuffOrder.j3 kj9 l0 t169 x5_1 x6_2 false))) else (none)) else (none)) else (none)) else (none)) else (none)) else (none)) else (none)) else (none)) = some r := by rw [if_neg (show ¬ (false = true) by decide)] at H; exact H
                          clear H
                          have H := H1
                          clear H1
                          by_cases c17 : 0 ≤ x5_1
                          · rw [if_pos c17] at H
                            have c17b0 : decide (0 ≤ x5_1) = true := decide_eq_true c17
                            clear c17
                            by_cases c18 : x5_1 < (t169.length : Int)
                            · rw [if_pos c18] at H
                              have c18b0 : decide (x5_1 < (t169.length : Int)) = true := decide_eq_true c18
                              clear c18
                              by_cases c19 : x5_1 < (l0.length : Int)
                              · rw [if_pos c19] at H
                                have c19b0 : decide (x5_1 < (l0.length : Int)) = true := decide_eq_true c19
                                clear c19
                                obtain ⟨ji20, hji20⟩ : ∃ j_ : Int, (IntKind.u64.wrap (wrap64 (15 - (rd l0 x5_1)))) = j_ := ⟨_, rfl⟩
                                replace H : (if 0 ≤ (ji20) then (if 0 ≤ x6_2 then (if x6_2 < (t169.length : Int) then (if x6_2 < (l0.length : Int) then (if 0 ≤ (IntKind.u64.wrap (wrap64 (15 - (rd l0 x6_2)))) then (if (rd l0 x5_1) < (rd l0 x6_2) then (rubricatorlaw3_HuffOrder.j3 kj9 l0 t169 x5_1 x6_2 (decide ((shl .i64 (rd t169 x5_1) (ji20)) ≥ (shl .i64 (rd t169 x6_2) (IntKind.u64.wrap (wrap64 (15 - (rd l0 x6_2)))))))) else (if (rd l0 x5_1) = (rd l0 x6_2) then (if x5_1 < x6_2 then (rubricatorlaw3_HuffOrder.j3 kj9 l0 t169 x5_1 x6_2 (decide ((shl .i64 (rd t169 x5_1) (ji20)) ≥ (shl .i64 (rd t169 x6_2) (IntKind.u64.wrap (wrap64 (15 - (rd l0 x6_2)))))))) else (rubricatorlaw3_HuffOrder.j3 kj9 l0 t169 x5_1 x6_2 false)) else (rubricatorlaw3_HuffOrder.j3 kj9 l0 t169 x5_1 x6_2 false))) else (none)) else (none)) else (none)) else (none)) else (none)) = some r := by first | (rw [hji20] at H; exact H) | (simp only [hji20] at H ⊢; exact H)
                                by_cases c21 : 0 ≤ (ji20)
                                · rw [if_pos c21] at H
                                  have c21b0 := eq_true c21
                                  have c21b1 : decide (0 ≤ (ji20)) = true := decide_eq_true c21
                                  clear c21
                                  obtain ⟨ji22, hji22⟩ : ∃ j_ : Int, (shl .i64 (rd t169 x5_1) (ji20)) = j_ := ⟨_, rfl⟩
                                  replace H : (if 0 ≤ x6_2 then (if x6_2 < (t169.length : Int) then (if x6_2 < (l0.length : Int) then (if 0 ≤ (IntKind.u64.wrap (wrap64 (15 - (rd l0 x6_2)))) then (if (rd l0 x5_1) < (rd l0 x6_2) then (rubricatorlaw3_HuffOrder.j3 kj9 l0 t169 x5_1 x6_2 (decide ((ji22) ≥ (shl .i64 (rd t169 x6_2) (IntKind.u64.wrap (wrap64 (15 - (rd l0 x6_2)))))))) else (if (rd l0 x5_1) = (rd l0 x6_2) then (if x5_1 < x6_2 then (rubricatorlaw3_HuffOrder.j3 kj9 l0 t169 x5_1 x6_2 (decide ((ji22) ≥ (shl .i64 (rd t169 x6_2) (IntKind.u64.wrap (wrap64 (15 - (rd l0 x6_2)))))))) else (rubricatorlaw3_HuffOrder.j3 kj9 l0 t169 x5_1 x6_2 false)) else (rubricatorlaw3_HuffOrder.j3 kj9 l0 t169 x5_1 x6_2 false))) else (none)) else (none)) else (none)) else (none)) = some r := by first | (rw [hji22] at H; exact H) | (simp only [hji22] at H ⊢; exact H)
                                  have hji22_ : (IntKind.i64.wrap ((rd t169 x5_1) * 2 ^ min (ji20).toNat 64)) = ji22 := hji22
                                  have hji22z : (ji20) ≤ 64 → (IntKind.i64.wrap ((rd t169 x5_1) * 2 ^ (ji20).toNat)) = ji22 := shl_small hji22
                                  have hji22y : (wrap64 ((rd t169 x5_1) * 2 ^ min (ji20).toNat 64)) = ji22 := (i64_w _).symm.trans hji22_
                                  have hji22x : (ji20) ≤ 64 → (wrap64 ((rd t169 x5_1) * 2 ^ (ji20).toNat)) = ji22 := fun h_ => (i64_w _).symm.trans (hji22z h_)
                                  by_cases c23 : 0 ≤ x6_2
                                  · rw [if_pos c23] at H
                                    have c23b0 : decide (0 ≤ x6_2) = true := decide_eq_true c23
                                    clear c23
                                    by_cases c24 : x6_2 < (t169.length : Int)
                                    · rw [if_pos c24] at H
                                      have c24b0 : decide (x6_2 < (t169.length : Int)) = true := decide_eq_true c24
                                      clear c24
                                      by_cases c25 : x6_2 < (l0.length : Int)
                                      · rw [if_pos c25] at H
                                        have c25b0 : decide (x6_2 < (l0.length : Int)) = true := decide_eq_true c25
                                        clear c25
                                        obtain ⟨ji26, hji26⟩ : ∃ j_ : Int, (IntKind.u64.wrap (wrap64 (15 - (rd l0 x6_2)))) = j_ := ⟨_, rfl⟩
                                        replace H : (if 0 ≤ (ji26) then (if (rd l0 x5_1) < (rd l0 x6_2) then (rubricatorlaw3_HuffOrder.j3 kj9 l0 t169 x5_1 x6_2 (decide ((ji22) ≥ (shl .i64 (rd t169 x6_2) (ji26))))) else (if (rd l0 x5_1) = (rd l0 x6_2) then (if x5_1 < x6_2 then (rubricatorlaw3_HuffOrder.j3 kj9 l0 t169 x5_1 x6_2 (decide ((ji22) ≥ (shl .i64 (rd t169 x6_2) (ji26))))) else (rubricatorlaw3_HuffOrder.j3 kj9 l0 t169 x5_1 x6_2 false)) else (rubricatorlaw3_HuffOrder.j3 kj9 l0 t169 x5_1 x6_2 false))) else (none)) = some r := by first | (rw [hji26] at H; exact H) | (simp only [hji26] at H ⊢; exact H)
                                        by_cases c27 : 0 ≤ (ji26)
                                        · rw [if_pos c27] at H
                                          have c27b0 := eq_true c27
                                          have c27b1 : decide (0 ≤ (ji26)) = true := decide_eq_true c27
                                          clear c27
                                          obtain ⟨ji28, hji28⟩ : ∃ j_ : Int, (shl .i64 (rd t169 x6_2) (ji26)) = j_ := ⟨_, rfl⟩
                                          replace H : (if (rd l0 x5_1) < (rd l0 x6_2) then (rubricatorlaw3_HuffOrder.j3 kj9 l0 t169 x5_1 x6_2 (decide ((ji22) ≥ (ji28)))) else (if (rd l0 x5_1) = (rd l0 x6_2) then (if x5_1 < x6_2 then (rubricatorlaw3_HuffOrder.j3 kj9 l0 t169 x5_1 x6_2 (decide ((ji22) ≥ (ji28)))) else (rubricatorlaw3_HuffOrder.j3 kj9 l0 t169 x5_1 x6_2 false)) else (rubricatorlaw3_HuffOrder.j3 kj9 l0 t169 x5_1 x6_2 false))) = some r := by first | (rw [hji28] at H; exact H) | (simp only [hji28] at H ⊢; exact H)
                                          have hji28_ : (IntKind.i64.wrap ((rd t169 x6_2) * 2 ^ min (ji26).toNat 64)) = ji28 := hji28
                                          have hji28z : (ji26) ≤ 64 → (IntKind.i64.wrap ((rd t169 x6_2) * 2 ^ (ji26).toNat)) = ji28 := shl_small hji28
                                          have hji28y : (wrap64 ((rd t169 x6_2) * 2 ^ min (ji26).toNat 64)) = ji28 := (i64_w _).symm.trans hji28_
                                          have hji28x : (ji26) ≤ 64 → (wrap64 ((rd t169 x6_2) * 2 ^ (ji26).toNat)) = ji28 := fun h_ => (i64_w _).symm.trans (hji28z h_)
                                          have HC29 := Aside0.mk H
                                          clear H
                                          have p177 : 0 ≤ (x5_1 : Int) := of_decide_eq_true (by first | (with_reducible assumption) | assumption)
                                          have q177 : x5_1 < (t169.length : Int) := of_decide_eq_true (by first | (with_reducible assumption) | assumption)
                                          obtain ⟨ad177, e177, hx177_0⟩ := Kd.at_int (Kd.R_reads' HO_3.out).2.2 x5_1 p177 q177
                                          cases e177
                                          replace p177 := eq_true p177
                                          replace q177 := eq_true q177
                                          have p178 : 0 ≤ (x5_1 : Int) := of_decide_eq_true (by first | (with_reducible assumption) | assumption)
                                          have q178 : x5_1 < (l0.length : Int) := of_decide_eq_true (by first | (with_reducible assumption) | assumption)
                                          obtain ⟨ad178, e178, hx178_0⟩ := Kd.at_int HR0.out x5_1 p178 q178
                                          cases e178
                                          replace hx178_0 := (HB.out.cell (World.block_lt_of_cell? w _ hx178_0)).trans hx178_0
                                          replace p178 := eq_true p178
                                          replace q178 := eq_true q178
                                          have p179 : 0 ≤ (x6_2 : Int) := of_decide_eq_true (by first | (with_reducible assumption) | assumption)
                                          have q179 : x6_2 < (t169.length : Int) := of_decide_eq_true (by first | (with_reducible assumption) | assumption)
                                          obtain ⟨ad179, e179, hx179_0⟩ := Kd.at_int (Kd.R_reads' HO_3.out).2.2 x6_2 p179 q179
                                          obtain rfl : ad177 = ad179 := (by injection e179)
                                          replace p179 := eq_true p179
                                          replace q179 := eq_true q179
                                          have p180 : 0 ≤ (x6_2 : Int) := of_decide_eq_true (by first | (with_reducible assumption) | assumption)
                                          have q180 : x6_2 < (l0.length : Int) := of_decide_eq_true (by first | (with_reducible assumption) | assumption)
                                          obtain ⟨ad180, e180, hx180_0⟩ := Kd.at_int HR0.out x6_2 p180 q180
                                          obtain rfl : ad178 = ad180 := (by injection e180)
                                          replace hx180_0 := (HB.out.cell (World.block_lt_of_cell? w _ hx180_0)).trans hx180_0
                                          replace p180 := eq_true p180
                                          replace q180 := eq_true q180
                                          go_upto_region 16 with (fail)
                                          repeat (go_quiet (fail); go_upto_region 16 with (fail))
                                          go_cut [110] (fun v110 wc => ∃ (kq : Nat) (x110_28 : Bool), v110 = .bool x110_28 ∧ Aside0 (rubricatorlaw3_HuffOrder.j3 kq l0 t169 x5_1 x6_2 x110_28 = some r) ∧ Aside0 (kq ≤ kj9) ∧ Aside0 (Kd.R (Kd.int .i64) 3 wc w.heap.size (fun _ => True) (.slice (some ad177) t169.length co7) t169) ∧ Aside0 (Below w.heap.size w wc))
                                          case first =>
                                            have H := HC29.out
                                            clear HC29
                                            by_cases c30 : (rd l0 x5_1) < (rd l0 x6_2)
                                            · rw [if_pos c30] at H
                                              have c30b0 : decide ((rd l0 x5_1) < (rd l0 x6_2)) = true := decide_eq_true c30
                                              clear c30
                                              (first | rw [c30b0] | (simp only [i64_w, i32_w]; rw [c30b0]) | skip)
                                              have H' := Aside0.mk H
                                              clear H
                                              have p181 : 0 ≤ (x5_1 : Int) := of_decide_eq_true (by first | (with_reducible assumption) | assumption)
                                              have q181 : x5_1 < (l0.length : Int) := of_decide_eq_true (by first | (with_reducible assumption) | assumption)
                                              obtain ⟨ad181, e181, hx181_0⟩ := Kd.at_int HR0.out x5_1 p181 q181
                                              obtain rfl : ad178 = ad181 := (by injection e181)
                                              replace hx181_0 := (HB.out.cell (World.block_lt_of_cell? w _ hx181_0)).trans hx181_0
                                              replace p181 := eq_true p181
                                              replace q181 := eq_true q181
                                              have p182 : 0 ≤ (x6_2 : Int) := of_decide_eq_true (by first | (with_reducible assumption) | assumption)
                                              have q182 : x6_2 < (l0.length : Int) := of_decide_eq_true (by first | (with_reducible assumption) | assumption)
                                              obtain ⟨ad182, e182, hx182_0⟩ := Kd.at_int HR0.out x6_2 p182 q182
                                              obtain rfl : ad178 = ad182 := (by injection e182)
                                              replace hx182_0 := (HB.out.cell (World.block_lt_of_cell? w _ hx182_0)).trans hx182_0
                                              replace p182 := eq_true p182
                                              replace q182 := eq_true q182
                                              go_wp2
                                              repeat (go_quiet (fail); try go_wp2)
                                              go_meet
                                              case rel => exact ⟨_, (decide ((ji22) ≥ (ji28))), (by first | rfl | (simp; done) | (simp only [← hji22, ← hji28] <;> (first | rfl | simp)) | (simp [*]; done)), H', ⟨by have := HK1.out; have := HK2.out; have := HJ9.out; first | omega | exact Nat.le_refl _⟩, ⟨by (with_reducible repeat (first | apply Kd.R_alloc | apply Kd.R_drewN | apply Kd.R_drew)); exact HO_3.out⟩, ⟨by repeat (first | (with_reducible first | exact HB.out | apply below_alloc | apply pw_below_drewN | apply below_drew1) | exact HB.out)⟩⟩
                                            · rw [if_neg c30] at H
                                              have c30b0 : decide ((rd l0 x5_1) < (rd l0 x6_2)) = false := decide_eq_false c30
                                              clear c30
                                              (first | rw [c30b0] | (simp only [i64_w, i32_w]; rw [c30b0]) | skip)
                                              by_cases c31 : (rd l0 x5_1) = (rd l0 x6_2)
                                              · rw [if_pos c31] at H
                                                have c31b0 : ((rd l0 x5_1) == (rd l0 x6_2)) = true := beq_iff_eq.mpr c31
                                                have c31b1 : ((rd l0 x5_1) != (rd l0 x6_2)) = false := bne_eq_false_iff_eq.mpr c31
                                                clear c31
                                                by_cases c32 : x5_1 < x6_2
                                                · rw [if_pos c32] at H
                                                  have c32b0 : decide (x5_1 < x6_2) = true := decide_eq_true c32
                                                  clear c32
                                                  have H' := Aside0.mk H
                                                  clear H
                                                  have p181 : 0 ≤ (x5_1 : Int) := of_decide_eq_true (by first | (with_reducible assumption) | assumption)
                                                  have q181 : x5_1 < (l0.length : Int) := of_decide_eq_true (by first | (with_reducible assumption) | assumption)
                                                  obtain ⟨ad181, e181, hx181_0⟩ := Kd.at_int HR0.out x5_1 p181 q181
                                                  obtain rfl : ad178 = ad181 := (by injection e181)
                                                  replace hx181_0 := (HB.out.cell (World.block_lt_of_cell? w _ hx181_0)).trans hx181_0
                                                  replace p181 := eq_true p181
                                                  replace q181 := eq_true q181
                                                  have p182 : 0 ≤ (x6_2 : Int) := of_decide_eq_true (by first | (with_reducible assumption) | assumption)
                                                  have q182 : x6_2 < (l0.length : Int) := of_decide_eq_true (by first | (with_reducible assumption) | assumption)
                                                  obtain ⟨ad182, e182, hx182_0⟩ := Kd.at_int HR0.out x6_2 p182 q182
                                                  obtain rfl : ad178 = ad182 := (by injection e182)
                                                  replace hx182_0 := (HB.out.cell (World.block_lt_of_cell? w _ hx182_0)).trans hx182_0
                                                  replace p182 := eq_true p182
                                                  replace q182 := eq_true q182
                                                  have p183 : 0 ≤ (x5_1 : Int) := of_decide_eq_true (by first | (with_reducible assumption) | assumption)
                                                  have q183 : x5_1 < (l0.length : Int) := of_decide_eq_true (by first | (with_reducible assumption) | assumption)
                                                  obtain ⟨ad183, e183, hx183_0⟩ := Kd.at_int HR0.out x5_1 p183 q183
                                                  obtain rfl : ad178 = ad183 := (by injection e183)
                                                  replace hx183_0 := (HB.out.cell (World.block_lt_of_cell? w _ hx183_0)).trans hx183_0
                                                  replace p183 := eq_true p183
                                                  replace q183 := eq_true q183
                                                  have p184 : 0 ≤ (x6_2 : Int) := of_decide_eq_true (by first | (with_reducible assumption) | assumption)
                                                  have q184 : x6_2 < (l0.length : Int) := of_decide_eq_true (by first | (with_reducible assumption) | assumption)
                                                  obtain ⟨ad184, e184, hx184_0⟩ := Kd.at_int HR0.out x6_2 p184 q184
                                                  obtain rfl : ad178 = ad184 := (by injection e184)
                                                  replace hx184_0 := (HB.out.cell (World.block_lt_of_cell? w _ hx184_0)).trans hx184_0
                                                  replace p184 := eq_true p184
                                                  replace q184 := eq_true q184
                                                  go_wp2
                                                  repeat (go_quiet (fail); try go_wp2)
                                                  go_meet
                                                  case rel => exact ⟨_, (decide ((ji22) ≥ (ji28))), (by first | rfl | (simp; done) | (simp only [← hji22, ← hji28] <;> (first | rfl | simp)) | (simp [*]; done)), H', ⟨by have := HK1.out; have := HK2.out; have := HJ9.out; first | omega | exact Nat.le_refl _⟩, ⟨by (with_reducible repeat (first | apply Kd.R_alloc | apply Kd.R_drewN | apply Kd.R_drew)); exact HO_3.out⟩, ⟨by repeat (first | (with_reducible first | exact HB.out | apply below_alloc | apply pw_below_drewN | apply below_drew1) | exact HB.out)⟩⟩
                                                · rw [if_neg c32] at H
                                                  have c32b0 : decide (x5_1 < x6_2) = false := decide_eq_false c32
                                                  clear c32
                                                  have H' := Aside0.mk H
                                                  clear H
                                                  have p181 : 0 ≤ (x5_1 : Int) := of_decide_eq_true (by first | (with_reducible assumption) | assumption)
                                                  have q181 : x5_1 < (l0.length : Int) := of_decide_eq_true (by first | (with_reducible assumption) | assumption)
                                                  obtain ⟨ad181, e181, hx181_0⟩ := Kd.at_int HR0.out x5_1 p181 q181
                                                  obtain rfl : ad178 = ad181 := (by injection e181)
                                                  replace hx181_0 := (HB.out.cell (World.block_lt_of_cell? w _ hx181_0)).trans hx181_0
                                                  replace p181 := eq_true p181
                                                  replace q181 := eq_true q181
                                                  have p182 : 0 ≤ (x6_2 : Int) := of_decide_eq_true (by first | (with_reducible assumption) | assumption)
                                                  have q182 : x6_2 < (l0.length : Int) := of_decide_eq_true (by first | (with_reducible assumption) | assumption)
                                                  obtain ⟨ad182, e182, hx182_0⟩ := Kd.at_int HR0.out x6_2 p182 q182
                                                  obtain rfl : ad178 = ad182 := (by injection e182)
                                                  replace hx182_0 := (HB.out.cell (World.block_lt_of_cell? w _ hx182_0)).trans hx182_0
                                                  replace p182 := eq_true p182
                                                  replace q182 := eq_true q182
                                                  have p183 : 0 ≤ (x5_1 : Int) := of_decide_eq_true (by first | (with_reducible assumption) | assumption)
                                                  have q183 : x5_1 < (l0.length : Int) := of_decide_eq_true (by first | (with_reducible assumption) | assumption)
                                                  obtain ⟨ad183, e183, hx183_0⟩ := Kd.at_int HR0.out x5_1 p183 q183
                                                  obtain rfl : ad178 = ad183 := (by injection e183)
                                                  replace hx183_0 := (HB.out.cell (World.block_lt_of_cell? w _ hx183_0)).trans hx183_0
                                                  replace p183 := eq_true p183
                                                  replace q183 := eq_true q183
                                                  have p184 : 0 ≤ (x6_2 : Int) := of_decide_eq_true (by first | (with_reducible assumption) | assumption)
                                                  have q184 : x6_2 < (l0.length : Int) := of_decide_eq_true (by first | (with_reducible assumption) | assumption)
                                                  obtain ⟨ad184, e184, hx184_0⟩ := Kd.at_int HR0.out x6_2 p184 q184
                                                  obtain rfl : ad178 = ad184 := (by injection e184)
                                                  replace hx184_0 := (HB.out.cell (World.block_lt_of_cell? w _ hx184_0)).trans hx184_0
                                                  replace p184 := eq_true p184
                                                  replace q184 := eq_true q184
                                                  go_wp2
                                                  repeat (go_quiet (fail); try go_wp2)
                                                  go_meet
                                                  case rel => exact ⟨_, (false), (by first | rfl | (simp; done) | (simp [*]; done)), H', ⟨by have := HK1.out; have := HK2.out; have := HJ9.out; first | omega | exact Nat.le_refl _⟩, ⟨by (with_reducible repeat (first | apply Kd.R_alloc | apply Kd.R_drewN | apply Kd.R_drew)); exact HO_3.out⟩, ⟨by repeat (first | (with_reducible first | exact HB.out | apply below_alloc | apply pw_below_drewN | apply below_drew1) | exact HB.out)⟩⟩
                                              · rw [if_neg c31] at H
                                                have c31b0 : ((rd l0 x5_1) == (rd l0 x6_2)) = false := beq_eq_false_iff_ne.mpr c31
                                                have c31b1 : ((rd l0 x5_1) != (rd l0 x6_2)) = true := bne_iff_ne.mpr c31
                                                have H' := Aside0.mk H
                                                clear H
                                                have p181 : 0 ≤ (x5_1 : Int) := of_decide_eq_true (by first | (with_reducible assumption) | assumption)
                                                have q181 : x5_1 < (l0.length : Int) := of_decide_eq_true (by first | (with_reducible assumption) | assumption)
                                                obtain ⟨ad181, e181, hx181_0⟩ := Kd.at_int HR0.out x5_1 p181 q181
                                                obtain rfl : ad178 = ad181 := (by injection e181)
                                                replace hx181_0 := (HB.out.cell (World.block_lt_of_cell? w _ hx181_0)).trans hx181_0
                                                replace p181 := eq_true p181
                                                replace q181 := eq_true q181
                                                have p182 : 0 ≤ (x6_2 : Int) := of_decide_eq_true (by first | (with_reducible assumption) | assumption)
                                                have q182 : x6_2 < (l0.length : Int) := of_decide_eq_true (by first | (with_reducible assumption) | assumption)
                                                obtain ⟨ad182, e182, hx182_0⟩ := Kd.at_int HR0.out x6_2 p182 q182
                                                obtain rfl : ad178 = ad182 := (by injection e182)
                                                replace hx182_0 := (HB.out.cell (World.block_lt_of_cell? w _ hx182_0)).trans hx182_0
                                                replace p182 := eq_true p182
                                                replace q182 := eq_true q182
                                                have p183 : 0 ≤ (x5_1 : Int) := of_decide_eq_true (by first | (with_reducible assumption) | assumption)
                                                have q183 : x5_1 < (l0.length : Int) := of_decide_eq_true (by first | (with_reducible assumption) | assumption)
                                                obtain ⟨ad183, e183, hx183_0⟩ := Kd.at_int HR0.out x5_1 p183 q183
                                                obtain rfl : ad178 = ad183 := (by injection e183)
                                                replace hx183_0 := (HB.out.cell (World.block_lt_of_cell? w _ hx183_0)).trans hx183_0
                                                replace p183 := eq_true p183
                                                replace q183 := eq_true q183
                                                have p184 : 0 ≤ (x6_2 : Int) := of_decide_eq_true (by first | (with_reducible assumption) | assumption)
                                                have q184 : x6_2 < (l0.length : Int) := of_decide_eq_true (by first | (with_reducible assumption) | assumption)
                                                obtain ⟨ad184, e184, hx184_0⟩ := Kd.at_int HR0.out x6_2 p184 q184
                                                obtain rfl : ad178 = ad184 := (by injection e184)
                                                replace hx184_0 := (HB.out.cell (World.block_lt_of_cell? w _ hx184_0)).trans hx184_0
                                                replace p184 := eq_true p184
                                                replace q184 := eq_true q184
                                                go_wp2
                                                repeat (go_quiet (fail); try go_wp2)
                                                go_meet
                                                case rel => exact ⟨_, (false), (by first | rfl | (simp; done) | (simp [*]; done)), H', ⟨by have := HK1.out; have := HK2.out; have := HJ9.out; first | omega | exact Nat.le_refl _⟩, ⟨by (with_reducible repeat (first | apply Kd.R_alloc | apply Kd.R_drewN | apply Kd.R_drew)); exact HO_3.out⟩, ⟨by repeat (first | (with_reducible first | exact HB.out | apply below_alloc | apply pw_below_drewN | apply below_drew1) | exact HB.out)⟩⟩
                                          case rest =>
                                            clear HC29
                                            try clear c1
                                            try clear p1
                                            try clear q1
                                            try clear hx1
                                            try clear c2
                                            try clear c2b0
                                            try clear c2b1
                                            try clear p2
                                            try clear c3
                                            try clear c4
                                            try clear c4b0
                                            try clear c4b1
                                            try clear c5
                                            try clear c5b0
                                            try clear c5b1
                                            try clear c5b2
                                            try clear p6
                                            try clear c8
                                            try clear c8b0
                                            try clear c9
                                            try clear c9b0
                                            try clear c11
                                            try clear c11b0
                                            try clear c12
                                            try clear c12b0
                                            try clear c13
                                            try clear c13b0
                                            try clear c13b1
                                            try clear c14
                                            try clear c14b0
                                            try clear c15
                                            try clear c15b0
                                            try clear c15b1
                                            try clear c16
                                            try clear c17
                                            try clear c17b0
                                            try clear p17
                                            try clear q17
                                            try clear hx17
                                            try clear c18
                                            try clear c18b0
                                            try clear p18
                                            try clear q18
                                            try clear hx18
                                            try clear c19
                                            try clear c19b0
                                            try clear c21
                                            try clear c21b0
                                            try clear c21b1
                                            try clear c23
                                            try clear c23b0
                                            try clear c24
                                            try clear c24b0
                                            try clear c25
                                            try clear c25b0
                                            try clear c27
                                            try clear c27b0
                                            try clear c27b1
                                            try clear c30
                                            try clear c30b0
                                            try clear c31
                                            try clear c31b0
                                            try clear c31b1
                                            try clear c32
                                            try clear c32b0
                                            try clear hx175_0
                                            try clear hx176_0
                                            try clear hx177_0
                                            try clear hx178_0
                                            try clear hx179_0
                                            try clear hx180_0
                                            try clear hx181_0
                                            try clear hx182_0
                                            try clear hx183_0
                                            try clear hx184_0
                                            try clear p1
                                            try clear p175
                                            try clear p176
                                            try clear p177
                                            try clear p178
                                            try clear p179
                                            try clear p180
                                            try clear p181
                                            try clear p182
                                            try clear p183
                                            try clear p184
                                            try clear p2
                                            try clear q1
                                            try clear q175
                                            try clear q176
                                            try clear q177
                                            try clear q178
                                            try clear q179
                                            try clear q180
                                            try clear q181
                                            try clear q182
                                            try clear q183
                                            try clear q184
                                            obtain ⟨kq, x110_28, rfl, HA, HJ28, HO_3, HB⟩ := hcut
                                            cases kq with
                                            | zero => exact absurd HA.out (by simp [rubricatorlaw3_HuffOrder.j3])
                                            | succ kj28 =>
                                              have H := HA.out
                                              clear HA
                                              simp only [rubricatorlaw3_HuffOrder.j3] at H
                                              by_cases c33 : x110_28 = true
                                              · subst c33
                                                have H1 : (some false) = some r := by rw [if_pos rfl] at H; exact H
                                                clear H
                                                have H := H1
                                                clear H1
                                                obtain rfl := Option.some.inj H
                                                go_wp2
                                                repeat (go_quiet (fail); try go_wp2)
                                                go_ret
                                                exact ⟨by first | rfl | (simp [errW_none, errW_some] <;> rfl) | (simp only [← hji20, ← hji22, ← hji26, ← hji28]; first | rfl | (simp [errW_none, errW_some] <;> rfl)) | (simp [*, errW_none, errW_some] <;> rfl), by repeat (first | (with_reducible first | exact HB.out | apply below_alloc | apply pw_below_drewN | apply below_drew1) | exact HB.out)⟩
                                              · replace c33 := Bool.eq_false_iff.mpr c33
                                                subst c33
                                                have H1 : (if 0 ≤ x5_1 then (if x5_1 < (l0.length : Int) then (if 0 ≤ x6_2 then (if x6_2 < (l0.length : Int) then (if (rd l0 x5_1) ≤ (rd l0 x6_2) then (if x6_2 < (t169.length : Int) then (if 0 ≤ (IntKind.u64.wrap (wrap64 ((rd l0 x6_2) - (rd l0 x5_1)))) then (if x5_1 < (t169.length : Int) then (if (shr .i64 (rd t169 x6_2) (IntKind.u64.wrap (wrap64 ((rd l0 x6_2) - (rd l0 x5_1))))) = (rd t169 x5_1) then (some false) else (rubricatorlaw3_HuffOrder.l1 kj28 l0 t169 x5_1 (wrap64 (x6_2 + 1)))) else (none)) else (none)) else (none)) else (rubricatorlaw3_HuffOrder.l1 kj28 l0 t169 x5_1 (wrap64 (x6_2 + 1)))) else (none)) else (none)) else (none)) else (none)) = some r := by rw [if_neg (show ¬ (false = true) by decide)] at H; exact H
                                                clear H
                                                have H := H1
                                                clear H1
                                                by_cases c34 : 0 ≤ x5_1
                                                · rw [if_pos c34] at H
                                                  have c34b0 : decide (0 ≤ x5_1) = true := decide_eq_true c34
                                                  clear c34
                                                  by_cases c35 : x5_1 < (l0.length : Int)
                                                  · rw [if_pos c35] at H
                                                    have c35b0 : decide (x5_1 < (l0.length : Int)) = true := decide_eq_true c35
                                                    clear c35
                                                    by_cases c36 : 0 ≤ x6_2
                                                    · rw [if_pos c36] at H
                                                      have c36b0 : decide (0 ≤ x6_2) = true := decide_eq_true c36
                                                      clear c36
                                                      by_cases c37 : x6_2 < (l0.length : Int)
                                                      · rw [if_pos c37] at H
                                                        have c37b0 : decide (x6_2 < (l0.length : Int)) = true := decide_eq_true c37
                                                        clear c37
                                                        by_cases c38 : (rd l0 x5_1) ≤ (rd l0 x6_2)
                                                        · rw [if_pos c38] at H
                                                          have c38b0 : decide ((rd l0 x5_1) ≤ (rd l0 x6_2)) = true := decide_eq_true c38
                                                          clear c38
                                                          by_cases c39 : x6_2 < (t169.length : Int)
                                                          · rw [if_pos c39] at H
                                                            have c39b0 : decide (x6_2 < (t169.length : Int)) = true := decide_eq_true c39
                                                            clear c39
                                                            obtain ⟨ji40, hji40⟩ : ∃ j_ : Int, (IntKind.u64.wrap (wrap64 ((rd l0 x6_2) - (rd l0 x5_1)))) = j_ := ⟨_, rfl⟩
                                                            replace H : (if 0 ≤ (ji40) then (if x5_1 < (t169.length : Int) then (if (shr .i64 (rd t169 x6_2) (ji40)) = (rd t169 x5_1) then (some false) else (rubricatorlaw3_HuffOrder.l1 kj28 l0 t169 x5_1 (wrap64 (x6_2 + 1)))) else (none)) else (none)) = some r := by first | (rw [hji40] at H; exact H) | (simp only [hji40] at H ⊢; exact H)
                                                            by_cases c41 : 0 ≤ (ji40)
                                                            · rw [if_pos c41] at H
                                                              have c41b0 := eq_true c41
                                                              have c41b1 : decide (0 ≤ (ji40)) = true := decide_eq_true c41
                                                              clear c41
                                                              obtain ⟨ji42, hji42⟩ : ∃ j_ : Int, (shr .i64 (rd t169 x6_2) (ji40)) = j_ := ⟨_, rfl⟩
                                                              replace H : (if x5_1 < (t169.length : Int) then (if (ji42) = (rd t169 x5_1) then (some false) else (rubricatorlaw3_HuffOrder.l1 kj28 l0 t169 x5_1 (wrap64 (x6_2 + 1)))) else (none)) = some r := by first | (rw [hji42] at H; exact H) | (simp only [hji42] at H ⊢; exact H)
                                                              have hji42_ : ((rd t169 x6_2) / 2 ^ min (ji40).toNat 64) = ji42 := hji42
                                                              have hji42z : (ji40) ≤ 64 → ((rd t169 x6_2) / 2 ^ (ji40).toNat) = ji42 := shr_small hji42
                                                              by_cases c43 : x5_1 < (t169.length : Int)
                                                              · rw [if_pos c43] at H
                                                                have c43b0 : decide (x5_1 < (t169.length : Int)) = true := decide_eq_true c43
                                                                clear c43
                                                                by_cases c44 : (ji42) = (rd t169 x5_1)
                                                                · rw [if_pos c44] at H
                                                                  have c44b0 : ((ji42) == (rd t169 x5_1)) = true := beq_iff_eq.mpr c44
                                                                  have c44b1 : ((ji42) != (rd t169 x5_1)) = false := bne_eq_false_iff_eq.mpr c44
                                                                  clear c44
                                                                  obtain rfl := Option.some.inj H
                                                                  have p185 : 0 ≤ (x5_1 : Int) := of_decide_eq_true (by first | (with_reducible assumption) | assumption)
                                                                  have q185 : x5_1 < (l0.length : Int) := of_decide_eq_true (by first | (with_reducible assumption) | assumption)
                                                                  obtain ⟨ad185, e185, hx185_0⟩ := Kd.at_int HR0.out x5_1 p185 q185
                                                                  obtain rfl : ad178 = ad185 := (by injection e185)
                                                                  replace hx185_0 := (HB.out.cell (World.block_lt_of_cell? w _ hx185_0)).trans hx185_0
                                                                  replace p185 := eq_true p185
                                                                  replace q185 := eq_true q185
                                                                  have p186 : 0 ≤ (x6_2 : Int) := of_decide_eq_true (by first | (with_reducible assumption) | assumption)
                                                                  have q186 : x6_2 < (l0.length : Int) := of_decide_eq_true (by first | (with_reducible assumption) | assumption)
                                                                  obtain ⟨ad186, e186, hx186_0⟩ := Kd.at_int HR0.out x6_2 p186 q186
                                                                  obtain rfl : ad178 = ad186 := (by injection e186)
                                                                  replace hx186_0 := (HB.out.cell (World.block_lt_of_cell? w _ hx186_0)).trans hx186_0
                                                                  replace p186 := eq_true p186
                                                                  replace q186 := eq_true q186
                                                                  have p187 : 0 ≤ (x6_2 : Int) := of_decide_eq_true (by first | (with_reducible assumption) | assumption)
                                                                  have q187 : x6_2 < (t169.length : Int) := of_decide_eq_true (by first | (with_reducible assumption) | assumption)
                                                                  obtain ⟨ad187, e187, hx187_0⟩ := Kd.at_int (Kd.R_reads' HO_3.out).2.2 x6_2 p187 q187
                                                                  obtain rfl : ad177 = ad187 := (by injection e187)
                                                                  replace p187 := eq_true p187
                                                                  replace q187 := eq_true q187
                                                                  have p188 : 0 ≤ (x6_2 : Int) := of_decide_eq_true (by first | (with_reducible assumption) | assumption)
                                                                  have q188 : x6_2 < (l0.length : Int) := of_decide_eq_true (by first | (with_reducible assumption) | assumption)
                                                                  obtain ⟨ad188, e188, hx188_0⟩ := Kd.at_int HR0.out x6_2 p188 q188
                                                                  obtain rfl : ad178 = ad188 := (by injection e188)
                                                                  replace hx188_0 := (HB.out.cell (World.block_lt_of_cell? w _ hx188_0)).trans hx188_0
                                                                  replace p188 := eq_true p188
                                                                  replace q188 := eq_true q188
                                                                  have p189 : 0 ≤ (x5_1 : Int) := of_decide_eq_true (by first | (with_reducible assumption) | assumption)
                                                                  have q189 : x5_1 < (l0.length : Int) := of_decide_eq_true (by first | (with_reducible assumption) | assumption)
                                                                  obtain ⟨ad189, e189, hx189_0⟩ := Kd.at_int HR0.out x5_1 p189 q189
                                                                  obtain rfl : ad178 = ad189 := (by injection e189)
                                                                  replace hx189_0 := (HB.out.cell (World.block_lt_of_cell? w _ hx189_0)).trans hx189_0
                                                                  replace p189 := eq_true p189
                                                                  replace q189 := eq_true q189
                                                                  have p190 : 0 ≤ (x5_1 : Int) := of_decide_eq_true (by first | (with_reducible assumption) | assumption)
                                                                  have q190 : x5_1 < (t169.length : Int) := of_decide_eq_true (by first | (with_reducible assumption) | assumption)
                                                                  obtain ⟨ad190, e190, hx190_0⟩ := Kd.at_int (Kd.R_reads' HO_3.out).2.2 x5_1 p190 q190
                                                                  obtain rfl : ad177 = ad190 := (by injection e190)
                                                                  replace p190 := eq_true p190
                                                                  replace q190 := eq_true q190
                                                                  go_wp2
                                                                  repeat (go_quiet (fail); try go_wp2)
                                                                  go_ret
                                                                  exact ⟨by first | rfl | (simp [errW_none, errW_some] <;> rfl) | (simp only [← hji20, ← hji22, ← hji26, ← hji28, ← hji40, ← hji42]; first | rfl | (simp [errW_none, errW_some] <;> rfl)) | (simp [*, errW_none, errW_some] <;> rfl), by repeat (first | (with_reducible first | exact HB.out | apply below_alloc | apply pw_below_drewN | apply below_drew1) | exact HB.out)⟩
                                                                · rw [if_neg c44] at H
                                                                  have c44b0 : ((ji42) == (rd t169 x5_1)) = false := beq_eq_false_iff_ne.mpr c44
                                                                  have c44b1 : ((ji42) != (rd t169 x5_1)) = true := bne_iff_ne.mpr c44
                                                                  have H' := Aside0.mk H
                                                                  clear H
                                                                  have p185 : 0 ≤ (x5_1 : Int) := of_decide_eq_true (by first | (with_reducible assumption) | assumption)
                                                                  have q185 : x5_1 < (l0.length : Int) := of_decide_eq_true (by first | (with_reducible assumption) | assumption)
                                                                  obtain ⟨ad185, e185, hx185_0⟩ := Kd.at_int HR0.out x5_1 p185 q185
                                                                  obtain rfl : ad178 = ad185 := (by injection e185)
                                                                  replace hx185_0 := (HB.out.cell (World.block_lt_of_cell? w _ hx185_0)).trans hx185_0
                                                                  replace p185 := eq_true p185
                                                                  replace q185 := eq_true q185
                                                                  have p186 : 0 ≤ (x6_2 : Int) := of_decide_eq_true (by first | (with_reducible assumption) | assumption)
                                                                  have q186 : x6_2 < (l0.length : Int) := of_decide_eq_true (by first | (with_reducible assumption) | assumption)
                                                                  obtain ⟨ad186, e186, hx186_0⟩ := Kd.at_int HR0.out x6_2 p186 q186
                                                                  obtain rfl : ad178 = ad186 := (by injection e186)
                                                                  replace hx186_0 := (HB.out.cell (World.block_lt_of_cell? w _ hx186_0)).trans hx186_0
                                                                  replace p186 := eq_true p186
                                                                  replace q186 := eq_true q186
                                                                  have p187 : 0 ≤ (x6_2 : Int) := of_decide_eq_true (by first | (with_reducible assumption) | assumption)
                                                                  have q187 : x6_2 < (t169.length : Int) := of_decide_eq_true (by first | (with_reducible assumption) | assumption)
                                                                  obtain ⟨ad187, e187, hx187_0⟩ := Kd.at_int (Kd.R_reads' HO_3.out).2.2 x6_2 p187 q187
                                                                  obtain rfl : ad177 = ad187 := (by injection e187)
                                                                  replace p187 := eq_true p187
                                                                  replace q187 := eq_true q187
                                                                  have p188 : 0 ≤ (x6_2 : Int) := of_decide_eq_true (by first | (with_reducible assumption) | assumption)
                                                                  have q188 : x6_2 < (l0.length : Int) := of_decide_eq_true (by first | (with_reducible assumption) | assumption)
                                                                  obtain ⟨ad188, e188, hx188_0⟩ := Kd.at_int HR0.out x6_2 p188 q188
                                                                  obtain rfl : ad178 = ad188 := (by injection e188)
                                                                  replace hx188_0 := (HB.out.cell (World.block_lt_of_cell? w _ hx188_0)).trans hx188_0
                                                                  replace p188 := eq_true p188
                                                                  replace q188 := eq_true q188
                                                                  have p189 : 0 ≤ (x5_1 : Int) := of_decide_eq_true (by first | (with_reducible assumption) | assumption)
                                                                  have q189 : x5_1 < (l0.length : Int) := of_decide_eq_true (by first | (with_reducible assumption) | assumption)
                                                                  obtain ⟨ad189, e189, hx189_0⟩ := Kd.at_int HR0.out x5_1 p189 q189
                                                                  obtain rfl : ad178 = ad189 := (by injection e189)
                                                                  replace hx189_0 := (HB.out.cell (World.block_lt_of_cell? w _ hx189_0)).trans hx189_0
                                                                  replace p189 := eq_true p189
                                                                  replace q189 := eq_true q189
                                                                  have p190 : 0 ≤ (x5_1 : Int) := of_decide_eq_true (by first | (with_reducible assumption) | assumption)
                                                                  have q190 : x5_1 < (t169.length : Int) := of_decide_eq_true (by first | (with_reducible assumption) | assumption)
                                                                  obtain ⟨ad190, e190, hx190_0⟩ := Kd.at_int (Kd.R_reads' HO_3.out).2.2 x5_1 p190 q190
                                                                  obtain rfl : ad177 = ad190 := (by injection e190)
                                                                  replace p190 := eq_true p190
                                                                  replace q190 := eq_true q190
                                                                  go_wp2
                                                                  repeat (go_quiet (fail); try go_wp2)
                                                                  go_roundg kj28
                                                                  case measure => have := HK1.out; have := HK2.out; have := HJ9.out; have := HJ28.out; omega
                                                                  case rel => exact ⟨(wrap64 (x6_2 + 1)), (by first | rfl | (simp; done) | (simp [*]; done)), H', ⟨by have := HK1.out; have := HK2.out; have := HJ9.out; have := HJ28.out; omega⟩, ⟨by (with_reducible repeat (first | apply Kd.R_alloc | apply Kd.R_drewN | apply Kd.R_drew)); exact HO_3.out⟩, ⟨by repeat (first | (with_reducible first | exact HB.out | apply below_alloc | apply pw_below_drewN | apply below_drew1) | exact HB.out)⟩⟩
                                                              · rw [if_neg c43] at H
                                                                exact absurd H (by simp)
                                                            · rw [if_neg c41] at H
                                                              exact absurd H (by simp)
                                                          · rw [if_neg c39] at H
                                                            exact absurd H (by simp)
                                                        · rw [if_neg c38] at H
                                                          have c38b0 : decide ((rd l0 x5_1) ≤ (rd l0 x6_2)) = false := decide_eq_false c38
                                                          clear c38
                                                          have H' := Aside0.mk H
                                                          clear H
                                                          have p185 : 0 ≤ (x5_1 : Int) := of_decide_eq_true (by first | (with_reducible assumption) | assumption)
                                                          have q185 : x5_1 < (l0.length : Int) := of_decide_eq_true (by first | (with_reducible assumption) | assumption)
                                                          obtain ⟨ad185, e185, hx185_0⟩ := Kd.at_int HR0.out x5_1 p185 q185
                                                          obtain rfl : ad178 = ad185 := (by injection e185)
                                                          replace hx185_0 := (HB.out.cell (World.block_lt_of_cell? w _ hx185_0)).trans hx185_0
                                                          replace p185 := eq_true p185
                                                          replace q185 := eq_true q185
                                                          have p186 : 0 ≤ (x6_2 : Int) := of_decide_eq_true (by first | (with_reducible assumption) | assumption)
                                                          have q186 : x6_2 < (l0.length : Int) := of_decide_eq_true (by first | (with_reducible assumption) | assumption)
                                                          obtain ⟨ad186, e186, hx186_0⟩ := Kd.at_int HR0.out x6_2 p186 q186
                                                          obtain rfl : ad178 = ad186 := (by injection e186)
                                                          replace hx186_0 := (HB.out.cell (World.block_lt_of_cell? w _ hx186_0)).trans hx186_0
                                                          replace p186 := eq_true p186
                                                          replace q186 := eq_true q186
                                                          go_wp2
                                                          repeat (go_quiet (fail); try go_wp2)
                                                          go_roundg kj28
                                                          case measure => have := HK1.out; have := HK2.out; have := HJ9.out; have := HJ28.out; omega
                                                          case rel => exact ⟨(wrap64 (x6_2 + 1)), (by first | rfl | (simp; done) | (simp [*]; done)), H', ⟨by have := HK1.out; have := HK2.out; have := HJ9.out; have := HJ28.out; omega⟩, ⟨by (with_reducible repeat (first | apply Kd.R_alloc | apply Kd.R_drewN | apply Kd.R_drew)); exact HO_3.out⟩, ⟨by repeat (first | (with_reducible first | exact HB.out | apply below_alloc | apply pw_below_drewN | apply below_drew1) | exact HB.out)⟩⟩
                                                      · rw [if_neg c37] at H
                                                        exact absurd H (by simp)
                                                    · rw [if_neg c36] at H
                                                      exact absurd H (by simp)
                                                  · rw [if_neg c35] at H
                                                    exact absurd H (by simp)
                                                · rw [if_neg c34] at H
                                                  exact absurd H (by simp)
                                        · rw [if_neg c27] at H
                                          exact absurd H (by simp)
                                      · rw [if_neg c25] at H
                                        exact absurd H (by simp)
                                    · rw [if_neg c24] at H
                                      exact absurd H (by simp)
                                  · rw [if_neg c23] at H
                                    exact absurd H (by simp)
                                · rw [if_neg c21] at H
                                  exact absurd H (by simp)
                              · rw [if_neg c19] at H
                                exact absurd H (by simp)
                            · rw [if_neg c18] at H
                              exact absurd H (by simp)
                          · rw [if_neg c17] at H
                            exact absurd H (by simp)
                  · rw [if_neg c9] at H
                    have c9b0 : decide (x6_2 < (l0.length : Int)) = false := decide_eq_false c9
                    clear c9
                    have H' := Aside0.mk H
                    clear H
                    go_wp2
                    repeat (go_quiet (fail); try go_wp2)
                    go_roundg k2
                    case measure => have := HK1.out; have := HK2.out; omega
                    case rel => exact ⟨(wrap64 (x5_1 + 1)), (by first | rfl | (simp; done) | (simp [*]; done)), H', ⟨by have := HK1.out; have := HK2.out; omega⟩, ⟨by (with_reducible repeat (first | apply Kd.R_alloc | apply Kd.R_drewN | apply Kd.R_drew)); exact HO_3.out⟩, ⟨by repeat (first | (with_reducible first | exact HB.out | apply below_alloc | apply pw_below_drewN | apply below_drew1) | exact HB.out)⟩⟩
            · rw [if_neg c8] at H
              have c8b0 : decide (x5_1 < (l0.length : Int)) = false := decide_eq_false c8
              clear c8
              replace H := Option.bind_eq_some_iff.mp H
              obtain ⟨t174, A450, H⟩ := H
              replace H : (some t174) = some r := H
              have A45 := Aside0.mk A450
              clear A450
              obtain rfl := Option.some.inj H
              go_wp2_with (first | (go_at_call 16; (with_reducible refine (rubricatorlaw3_known.calls k1  t174 _ A45.out).mono ?_); rintro e w46 ⟨rfl, hb⟩; have n0_ := Aside0.mk (Kd.R_below (by (with_reducible repeat (first | apply Kd.R_alloc | apply Kd.R_drewN | apply Kd.R_drew)); exact HO_3.out) hb); have n1_ := Aside0.mk (below_step (by repeat (first | (with_reducible first | exact HB.out | apply below_alloc | apply pw_below_drewN | apply below_drew1) | exact HB.out)) hb); clear HO_3; clear HB; have HO_3 := n0_; have HB := n1_; clear n0_ n1_; (try clear hb); (try clear hb2); (try clear hk); (try clear hi)))
              repeat (go_quiet (first | (go_at_call 16; (with_reducible refine (rubricatorlaw3_known.calls k1  t174 _ A45.out).mono ?_); rintro e w46 ⟨rfl, hb⟩; have n0_ := Aside0.mk (Kd.R_below (by (with_reducible repeat (first | apply Kd.R_alloc | apply Kd.R_drewN | apply Kd.R_drew)); exact HO_3.out) hb); have n1_ := Aside0.mk (below_step (by repeat (first | (with_reducible first | exact HB.out | apply below_alloc | apply pw_below_drewN | apply below_drew1) | exact HB.out)) hb); clear HO_3; clear HB; have HO_3 := n0_; have HB := n1_; clear n0_ n1_; (try clear hb); (try clear hb2); (try clear hk); (try clear hi))); try go_wp2_with (first | (go_at_call 16; (with_reducible refine (rubricatorlaw3_known.calls k1  t174 _ A45.out).mono ?_); rintro e w46 ⟨rfl, hb⟩; have n0_ := Aside0.mk (Kd.R_below (by (with_reducible repeat (first | apply Kd.R_alloc | apply Kd.R_drewN | apply Kd.R_drew)); exact HO_3.out) hb); have n1_ := Aside0.mk (below_step (by repeat (first | (with_reducible first | exact HB.out | apply below_alloc | apply pw_below_drewN | apply below_drew1) | exact HB.out)) hb); clear HO_3; clear HB; have HO_3 := n0_; have HB := n1_; clear n0_ n1_; (try clear hb); (try clear hb2); (try clear hk); (try clear hi))))
              go_ret
              exact ⟨by first | rfl | (simp [errW_none, errW_some] <;> rfl) | (simp [*, errW_none, errW_some] <;> rfl), by repeat (first | (with_reducible first | exact HB.out | apply below_alloc | apply pw_below_drewN | apply below_drew1) | exact HB.out)⟩
      · rw [if_neg c5] at H
        have c5b0 : ((t169.length : Int) == (l0.length : Int)) = false := beq_eq_false_iff_ne.mpr c5
        have c5b1 : ((t169.length : Int) != (l0.length : Int)) = true := bne_iff_ne.mpr c5
        have c5b2 : (t169.length == l0.length) = false := by first | simpa using c5 | (simp at c5 ⊢; omega)
        obtain rfl := Option.some.inj H
        go_enter Try.func4, Try.ntmps4
        go_wp2_with (first | (go_at_call 13; (with_reducible refine (huff_Codes.calls _ _ l0 t169 t170 _ ?side1 ?side2 A3.out).mono ?_); (case side1 => repeat (first | exact HR0.out | (with_reducible refine Kd.C_alloc ?_ _) | (with_reducible refine Kd.C_drewN ?_ _) | (with_reducible refine Kd.C_drew ?_))); (case side2 => exact HC0.out); rintro e w47 ⟨v171, rfl, ho0, hb⟩; have n0_ := Aside0.mk (Kd.R_lower ho0 (below_size (by repeat (first | (with_reducible first | exact HB.out | apply below_alloc | apply pw_below_drewN | apply below_drew1) | exact HB.out)))); have n1_ := Aside0.mk (below_step (by repeat (first | (with_reducible first | exact HB.out | apply below_alloc | apply pw_below_drewN | apply below_drew1) | exact HB.out)) hb); clear HB; have HO172 := n0_; have HB := n1_; clear n0_ n1_; (try clear hb); (try clear hb2); (try clear hk); (try clear hi); (try clear ho0); obtain ⟨Ao48, co48, eo48⟩ := Kd.R_slice HO172.out; subst eo48))
        repeat (go_quiet (first | (go_at_call 13; (with_reducible refine (huff_Codes.calls _ _ l0 t169 t170 _ ?side1 ?side2 A3.out).mono ?_); (case side1 => repeat (first | exact HR0.out | (with_reducible refine Kd.C_alloc ?_ _) | (with_reducible refine Kd.C_drewN ?_ _) | (with_reducible refine Kd.C_drew ?_))); (case side2 => exact HC0.out); rintro e w47 ⟨v171, rfl, ho0, hb⟩; have n0_ := Aside0.mk (Kd.R_lower ho0 (below_size (by repeat (first | (with_reducible first | exact HB.out | apply below_alloc | apply pw_below_drewN | apply below_drew1) | exact HB.out)))); have n1_ := Aside0.mk (below_step (by repeat (first | (with_reducible first | exact HB.out | apply below_alloc | apply pw_below_drewN | apply below_drew1) | exact HB.out)) hb); clear HB; have HO172 := n0_; have HB := n1_; clear n0_ n1_; (try clear hb); (try clear hb2); (try clear hk); (try clear hi); (try clear ho0); obtain ⟨Ao48, co48, eo48⟩ := Kd.R_slice HO172.out; subst eo48)); try go_wp2_with (first | (go_at_call 13; (with_reducible refine (huff_Codes.calls _ _ l0 t169 t170 _ ?side1 ?side2 A3.out).mono ?_); (case side1 => repeat (first | exact HR0.out | (with_reducible refine Kd.C_alloc ?_ _) | (with_reducible refine Kd.C_drewN ?_ _) | (with_reducible refine Kd.C_drew ?_))); (case side2 => exact HC0.out); rintro e w47 ⟨v171, rfl, ho0, hb⟩; have n0_ := Aside0.mk (Kd.R_lower ho0 (below_size (by repeat (first | (with_reducible first | exact HB.out | apply below_alloc | apply pw_below_drewN | apply below_drew1) | exact HB.out)))); have n1_ := Aside0.mk (below_step (by repeat (first | (with_reducible first | exact HB.out | apply below_alloc | apply pw_below_drewN | apply below_drew1) | exact HB.out)) hb); clear HB; have HO172 := n0_; have HB := n1_; clear n0_ n1_; (try clear hb); (try clear hb2); (try clear hk); (try clear hi); (try clear ho0); obtain ⟨Ao48, co48, eo48⟩ := Kd.R_slice HO172.out; subst eo48)))
        go_ret
        exact ⟨by first | rfl | (simp [errW_none, errW_some] <;> rfl) | (simp [*, errW_none, errW_some] <;> rfl), by repeat (first | (with_reducible first | exact HB.out | apply below_alloc | apply pw_below_drewN | apply below_drew1) | exact HB.out)⟩
    · rw [if_neg c4] at H
      have c4b0 : (t170 == 0) = false := beq_eq_false_iff_ne.mpr c4
      have c4b1 : (t170 != 0) = true := bne_iff_ne.mpr c4
      by_cases c49 : (t169.length : Int) = 0
      · rw [if_pos c49] at H
        have c49b0 : ((t169.length : Int) == 0) = true := beq_iff_eq.mpr c49
        have c49b1 : ((t169.length : Int) != 0) = false := bne_eq_false_iff_eq.mpr c49
        clear c49
        replace H := Option.bind_eq_some_iff.mp H
        obtain ⟨t173, A500, H⟩ := H
        replace H : (some t173) = some r := H
        have A50 := Aside0.mk A500
        clear A500
        obtain rfl := Option.some.inj H
        go_enter Try.func4, Try.ntmps4
        go_wp2_with (first | (go_at_call 13; (with_reducible refine (huff_Codes.calls _ _ l0 t169 t170 _ ?side1 ?side2 A3.out).mono ?_); (case side1 => repeat (first | exact HR0.out | (with_reducible refine Kd.C_alloc ?_ _) | (with_reducible refine Kd.C_drewN ?_ _) | (with_reducible refine Kd.C_drew ?_))); (case side2 => exact HC0.out); rintro e w51 ⟨v171, rfl, ho0, hb⟩; have n0_ := Aside0.mk (Kd.R_lower ho0 (below_size (by repeat (first | (with_reducible first | exact HB.out | apply below_alloc | apply pw_below_drewN | apply below_drew1) | exact HB.out)))); have n1_ := Aside0.mk (below_step (by repeat (first | (with_reducible first | exact HB.out | apply below_alloc | apply pw_below_drewN | apply below_drew1) | exact HB.out)) hb); clear HB; have HO172 := n0_; have HB := n1_; clear n0_ n1_; (try clear hb); (try clear hb2); (try clear hk); (try clear hi); (try clear ho0); obtain ⟨Ao52, co52, eo52⟩ := Kd.R_slice HO172.out; subst eo52) | (go_at_call 16; (with_reducible refine (rubricatorlaw3_known.calls k  t173 _ A50.out).mono ?_); rintro e w53 ⟨rfl, hb⟩; have n0_ := Aside0.mk (Kd.R_below (by (with_reducible repeat (first | apply Kd.R_alloc | apply Kd.R_drewN | apply Kd.R_drew)); exact HO172.out) hb); have n1_ := Aside0.mk (below_step (by repeat (first | (with_reducible first | exact HB.out | apply below_alloc | apply pw_below_drewN | apply below_drew1) | exact HB.out)) hb); clear HO172; clear HB; have HO172 := n0_; have HB := n1_; clear n0_ n1_; (try clear hb); (try clear hb2); (try clear hk); (try clear hi)))
        repeat (go_quiet (first | (go_at_call 13; (with_reducible refine (huff_Codes.calls _ _ l0 t169 t170 _ ?side1 ?side2 A3.out).mono ?_); (case side1 => repeat (first | exact HR0.out | (with_reducible refine Kd.C_alloc ?_ _) | (with_reducible refine Kd.C_drewN ?_ _) | (with_reducible refine Kd.C_drew ?_))); (case side2 => exact HC0.out); rintro e w51 ⟨v171, rfl, ho0, hb⟩; have n0_ := Aside0.mk (Kd.R_lower ho0 (below_size (by repeat (first | (with_reducible first | exact HB.out | apply below_alloc | apply pw_below_drewN | apply below_drew1) | exact HB.out)))); have n1_ := Aside0.mk (below_step (by repeat (first | (with_reducible first | exact HB.out | apply below_alloc | apply pw_below_drewN | apply below_drew1) | exact HB.out)) hb); clear HB; have HO172 := n0_; have HB := n1_; clear n0_ n1_; (try clear hb); (try clear hb2); (try clear hk); (try clear hi); (try clear ho0); obtain ⟨Ao52, co52, eo52⟩ := Kd.R_slice HO172.out; subst eo52) | (go_at_call 16; (with_reducible refine (rubricatorlaw3_known.calls k  t173 _ A50.out).mono ?_); rintro e w53 ⟨rfl, hb⟩; have n0_ := Aside0.mk (Kd.R_below (by (with_reducible repeat (first | apply Kd.R_alloc | apply Kd.R_drewN | apply Kd.R_drew)); exact HO172.out) hb); have n1_ := Aside0.mk (below_step (by repeat (first | (with_reducible first | exact HB.out | apply below_alloc | apply pw_below_drewN | apply below_drew1) | exact HB.out)) hb); clear HO172; clear HB; have HO172 := n0_; have HB := n1_; clear n0_ n1_; (try clear hb); (try clear hb2); (try clear hk); (try clear hi))); try go_wp2_with (first | (go_at_call 13; (with_reducible refine (huff_Codes.calls _ _ l0 t169 t170 _ ?side1 ?side2 A3.out).mono ?_); (case side1 => repeat (first | exact HR0.out | (with_reducible refine Kd.C_alloc ?_ _) | (with_reducible refine Kd.C_drewN ?_ _) | (with_reducible refine Kd.C_drew ?_))); (case side2 => exact HC0.out); rintro e w51 ⟨v171, rfl, ho0, hb⟩; have n0_ := Aside0.mk (Kd.R_lower ho0 (below_size (by repeat (first | (with_reducible first | exact HB.out | apply below_alloc | apply pw_below_drewN | apply below_drew1) | exact HB.out)))); have n1_ := Aside0.mk (below_step (by repeat (first | (with_reducible first | exact HB.out | apply below_alloc | apply pw_below_drewN | apply below_drew1) | exact HB.out)) hb); clear HB; have HO172 := n0_; have HB := n1_; clear n0_ n1_; (try clear hb); (try clear hb2); (try clear hk); (try clear hi); (try clear ho0); obtain ⟨Ao52, co52, eo52⟩ := Kd.R_slice HO172.out; subst eo52) | (go_at_call 16; (with_reducible refine (rubricatorlaw3_known.calls k  t173 _ A50.out).mono ?_); rintro e w53 ⟨rfl, hb⟩; have n0_ := Aside0.mk (Kd.R_below (by (with_reducible repeat (first | apply Kd.R_alloc | apply Kd.R_drewN | apply Kd.R_drew)); exact HO172.out) hb); have n1_ := Aside0.mk (below_step (by repeat (first | (with_reducible first | exact HB.out | apply below_alloc | apply pw_below_drewN | apply below_drew1) | exact HB.out)) hb); clear HO172; clear HB; have HO172 := n0_; have HB := n1_; clear n0_ n1_; (try clear hb); (try clear hb2); (try clear hk); (try clear hi))))
        go_ret
        exact ⟨by first | rfl | (simp [errW_none, errW_some] <;> rfl) | (simp [*, errW_none, errW_some] <;> rfl), by repeat (first | (with_reducible first | exact HB.out | apply below_alloc | apply pw_below_drewN | apply below_drew1) | exact HB.out)⟩
      · rw [if_neg c49] at H
        have c49b0 : ((t169.length : Int) == 0) = false := beq_eq_false_iff_ne.mpr c49
        have c49b1 : ((t169.length : Int) != 0) = true := bne_iff_ne.mpr c49
        have c49b2 : ¬ (t169 = []) := fun h_ => c49 (by rw [h_]; rfl)
        obtain rfl := Option.some.inj H
        go_enter Try.func4, Try.ntmps4
        go_wp2_with (first | (go_at_call 13; (with_reducible refine (huff_Codes.calls _ _ l0 t169 t170 _ ?side1 ?side2 A3.out).mono ?_); (case side1 => repeat (first | exact HR0.out | (with_reducible refine Kd.C_alloc ?_ _) | (with_reducible refine Kd.C_drewN ?_ _) | (with_reducible refine Kd.C_drew ?_))); (case side2 => exact HC0.out); rintro e w54 ⟨v171, rfl, ho0, hb⟩; have n0_ := Aside0.mk (Kd.R_lower ho0 (below_size (by repeat (first | (with_reducible first | exact HB.out | apply below_alloc | apply pw_below_drewN | apply below_drew1) | exact HB.out)))); have n1_ := Aside0.mk (below_step (by repeat (first | (with_reducible first | exact HB.out | apply below_alloc | apply pw_below_drewN | apply below_drew1) | exact HB.out)) hb); clear HB; have HO172 := n0_; have HB := n1_; clear n0_ n1_; (try clear hb); (try clear hb2); (try clear hk); (try clear hi); (try clear ho0); obtain ⟨Ao55, co55, eo55⟩ := Kd.R_slice HO172.out; subst eo55))
        repeat (go_quiet (first | (go_at_call 13; (with_reducible refine (huff_Codes.calls _ _ l0 t169 t170 _ ?side1 ?side2 A3.out).mono ?_); (case side1 => repeat (first | exact HR0.out | (with_reducible refine Kd.C_alloc ?_ _) | (with_reducible refine Kd.C_drewN ?_ _) | (with_reducible refine Kd.C_drew ?_))); (case side2 => exact HC0.out); rintro e w54 ⟨v171, rfl, ho0, hb⟩; have n0_ := Aside0.mk (Kd.R_lower ho0 (below_size (by repeat (first | (with_reducible first | exact HB.out | apply below_alloc | apply pw_below_drewN | apply below_drew1) | exact HB.out)))); have n1_ := Aside0.mk (below_step (by repeat (first | (with_reducible first | exact HB.out | apply below_alloc | apply pw_below_drewN | apply below_drew1) | exact HB.out)) hb); clear HB; have HO172 := n0_; have HB := n1_; clear n0_ n1_; (try clear hb); (try clear hb2); (try clear hk); (try clear hi); (try clear ho0); obtain ⟨Ao55, co55, eo55⟩ := Kd.R_slice HO172.out; subst eo55)); try go_wp2_with (first | (go_at_call 13; (with_reducible refine (huff_Codes.calls _ _ l0 t169 t170 _ ?side1 ?side2 A3.out).mono ?_); (case side1 => repeat (first | exact HR0.out | (with_reducible refine Kd.C_alloc ?_ _) | (with_reducible refine Kd.C_drewN ?_ _) | (with_reducible refine Kd.C_drew ?_))); (case side2 => exact HC0.out); rintro e w54 ⟨v171, rfl, ho0, hb⟩; have n0_ := Aside0.mk (Kd.R_lower ho0 (below_size (by repeat (first | (with_reducible first | exact HB.out | apply below_alloc | apply pw_below_drewN | apply below_drew1) | exact HB.out)))); have n1_ := Aside0.mk (below_step (by repeat (first | (with_reducible first | exact HB.out | apply below_alloc | apply pw_below_drewN | apply below_drew1) | exact HB.out)) hb); clear HB; have HO172 := n0_; have HB := n1_; clear n0_ n1_; (try clear hb); (try clear hb2); (try clear hk); (try clear hi); (try clear ho0); obtain ⟨Ao55, co55, eo55⟩ := Kd.R_slice HO172.out; subst eo55)))
        go_ret
        exact ⟨by first | rfl | (simp [errW_none, errW_some] <;> rfl) | (simp [*, errW_none, errW_some] <;> rfl), by repeat (first | (with_reducible first | exact HB.out | apply below_alloc | apply pw_below_drewN | apply below_drew1) | exact HB.out)⟩

/-- THE ONE PURE STATEMENT of rubricatorlaw3_HuffOrder: yours. -/
def rubricatorlaw3_HuffOrder.Pure : Prop := ∀ (l0 : List Int), l0.length ≤ maxLen → l0.length * 8 ≤ 140737488351232 → (∀ x ∈ l0, (Lit.int .i64 x).wf = true) → ∃ k, rubricatorlaw3_HuffOrder.f k l0 = some true
theorem rubricatorlaw3_HuffOrder.walk (P : rubricatorlaw3_HuffOrder.Pure) (a0 : Option Addr) (len0 cap0 : Nat) (z0 : List Int) (w : World) (w0 : (a0 = none ∧ len0 = 0 ∧ cap0 = 0 ∧ z0 = []) ∨ ∃ x, a0 = some x ∧ len0 ≤ cap0 ∧ cap0 ≤ maxLen ∧ z0.length = cap0 ∧ (∀ i, i < z0.length → w.cell? (x.add i) = some (.int .i64 (z0.getD i 0))) ∧ ∀ n ∈ z0, (Lit.int .i64 n).wf = true) (y0 : len0 * 8 ≤ 140737488351232) :
    Calls Try.prog 4 #[.slice a0 len0 cap0] w fun e w' => e = .returned (.bool true) ∧ Below w.heap.size w w' := by
  obtain ⟨l0, rfl, hr0, hm0, hw0, hc0⟩ := ReadsInt.ofRowC w0
  obtain ⟨k, h⟩ := P l0 hm0 y0 hw0
  refine (rubricatorlaw3_HuffOrder.calls k _ _ l0 true w (Kd.C_of_reads (d := (0 : Int)) (h1 := fun _ => rfl) hr0) hc0 h).mono ?_
  rintro e w' ⟨rfl, hd⟩
  exact ⟨rfl, hd⟩

end Go.Proofs.Ytachnclfgjdglaa.PA
