-- Printed by a program of this workplace (a turned printer): functions, and proofs that the calls come to them.
import Derived.Test.YtlfcolmepieknaaPAx0
import Derived.Test.YtlfcolmepieknaaPAx1
import Derived.Test.YtlfcolmepieknaaPAx2
namespace Go.Proofs.Ytlfcolmepieknaa.PA
open Go.RowKit Go.Proofs.YtlfcolmepieknaaW.PrintWords Go.Proofs.YtlfcolmepieknaaW.PrintLast Go.Proofs.YtlfcolmepieknaaW.PrintMore
attribute [local go_sem] max2_int min2_int max_two min_two max_three min_three max_four min_four   -- for this text's walks alone
set_option linter.unusedVariables false
set_option linter.unusedSimpArgs false

/-! ### rubricatorlaw2_CrcXor: function 6 -/
def rubricatorlaw2_CrcXor.l0 : Nat → List Int → List Int → List Int → Int → List Int → Int → Option (Bool)
  | 0, _, _, _, _, _, _ => none
  | k + 1, x0, x1, x2, x7, x8, x9 => if x9 < x7 then (if 0 ≤ x9 then (if x9 < (x0.length : Int) then (if x9 < (x1.length : Int) then (if x9 < (x2.length : Int) then (if x9 < (x8.length : Int) then (rubricatorlaw2_CrcXor.l0 k x0 x1 x2 x7 (x8.set (x9 : Int).toNat (Go.bits .xor .u8 (Go.bits .xor .u8 (rd x0 x9) (rd x1 x9)) (rd x2 x9))) (wrap64 (x9 + 1))) else (none)) else (none)) else (none)) else (none)) else (none)) else (if 0 ≤ x7 then (if x7 ≤ (x0.length : Int) then ((crc_Sum.f k (([(x0.take (x7 : Int).toNat)] : List (List Int)))).bind fun t126 => (if x7 ≤ (x1.length : Int) then ((crc_Sum.f k (([(x1.take (x7 : Int).toNat)] : List (List Int)))).bind fun t135 => (if x7 ≤ (x2.length : Int) then ((crc_Sum.f k (([(x2.take (x7 : Int).toNat)] : List (List Int)))).bind fun t144 => ((crc_Sum.f k (([x8] : List (List Int)))).bind fun t148 => (if (Go.bits .xor .u32 (Go.bits .xor .u32 t126 t135) t144) = t148 then ((rubricatorlaw2_known.f k).bind fun t149 => (some t149)) else (none)))) else (none))) else (none))) else (none)) else (none))
def rubricatorlaw2_CrcXor.f (k : Nat) (l0 : List Int) (l1 : List Int) (l2 : List Int) : Option (Bool) := if (mn (mn (l0.length : Int) (l1.length : Int)) (l2.length : Int)) > 4000 then (some true) else (if 0 ≤ (mn (mn (l0.length : Int) (l1.length : Int)) (l2.length : Int)) then (if (mn (mn (l0.length : Int) (l1.length : Int)) (l2.length : Int) : Int).toNat ≤ 281474976710656 then (rubricatorlaw2_CrcXor.l0 k l0 l1 l2 (mn (mn (l0.length : Int) (l1.length : Int)) (l2.length : Int)) (List.replicate (mn (mn (l0.length : Int) (l1.length : Int)) (l2.length : Int) : Int).toNat 0) 0) else (none)) else (none))
theorem rubricatorlaw2_CrcXor.mono_l : ∀ k, (∀ y0 y1 y2 y3 y4 y5, LeO (rubricatorlaw2_CrcXor.l0 k y0 y1 y2 y3 y4 y5) (rubricatorlaw2_CrcXor.l0 (k + 1) y0 y1 y2 y3 y4 y5))
  | 0 => fun _ _ _ _ _ _ r h => by simp [rubricatorlaw2_CrcXor.l0] at h
  | k + 1 => by
    have ih0 := rubricatorlaw2_CrcXor.mono_l k
    · intro y0 y1 y2 y3 y4 y5
      unfold rubricatorlaw2_CrcXor.l0
      repeat' first
      | (with_reducible exact ih0 _ _ _ _ _ _)
      | (with_reducible exact crc_Sum.mono _ _)
      | (with_reducible exact rubricatorlaw2_known.mono _)
      | (with_reducible exact LeO.refl _)
      | (with_reducible exact LeO.none _)
      | (with_reducible refine LeO.ite ?_ ?_)
      | (with_reducible refine LeO.bind ?_ (fun _ => ?_))
      | exact ih0 _ _ _ _ _ _
      | exact crc_Sum.mono _ _
      | exact rubricatorlaw2_known.mono _
      | exact LeO.none _
      | refine LeO.ite ?_ ?_
      | refine LeO.bind ?_ (fun _ => ?_)
theorem rubricatorlaw2_CrcXor.mono : ∀ a0 a1 a2 k, LeO (rubricatorlaw2_CrcXor.f k a0 a1 a2) (rubricatorlaw2_CrcXor.f (k + 1) a0 a1 a2) := by
  intro a0 a1 a2 k
  have ih0 := rubricatorlaw2_CrcXor.mono_l k
  unfold rubricatorlaw2_CrcXor.f
  repeat' first
      | (with_reducible exact ih0 _ _ _ _ _ _)
      | (with_reducible exact crc_Sum.mono _ _)
      | (with_reducible exact rubricatorlaw2_known.mono _)
      | (with_reducible exact LeO.refl _)
      | (with_reducible exact LeO.none _)
      | (with_reducible refine LeO.ite ?_ ?_)
      | (with_reducible refine LeO.bind ?_ (fun _ => ?_))
      | exact ih0 _ _ _ _ _ _
      | exact crc_Sum.mono _ _
      | exact rubricatorlaw2_known.mono _
      | exact LeO.none _
      | refine LeO.ite ?_ ?_
      | refine LeO.bind ?_ (fun _ => ?_)
def rubricatorlaw2_CrcXor.T8 : Bool × List (List Nat × List Nat) := (true, [([], []), ([], []), ([], []), ([], []), ([2, 3], [2, 3]), ([4], [4]), ([], []), ([], []), ([6, 7], [6, 7]), ([8], [8]), ([5, 9], [5, 9]), ([], []), ([], []), ([11, 12], [11, 12]), ([13], [13]), ([10, 14], [10, 14]), ([0, 1, 0, 1, 2, 3, 4, 5, 6, 7, 8, 9, 10, 11, 12, 13, 14, 15], [0, 1]), ([16, 15, 0, 1, 2, 3, 4, 5, 6, 7, 8, 9, 10, 11, 12, 13, 14, 15], [15, 16])])
def rubricatorlaw2_CrcXor.B8 : List Nat := [0, 0, 0, 0, 12, 28, 0, 0, 192, 448, 1020, 0, 0, 6144, 14336, 32764, 65535, 131071]
theorem rubricatorlaw2_CrcXor.tab8 : rtab .any (opsOf Try.f6 8) = rubricatorlaw2_CrcXor.T8 := by kernel_rfl
theorem rubricatorlaw2_CrcXor.bits8 : waitsOk rubricatorlaw2_CrcXor.T8.2 rubricatorlaw2_CrcXor.B8 = true := by kernel_rfl
def rubricatorlaw2_CrcXor.T9 : Bool × List (List Nat × List Nat) := (true, [([], []), ([], []), ([0, 1], [0, 1]), ([2], [2]), ([3], [3]), ([], []), ([], []), ([5, 6], [5, 6]), ([7], [7]), ([8, 4], [8]), ([4, 9], [4, 9]), ([], []), ([], []), ([11, 12], [11, 12]), ([13], [13]), ([14, 9], [14]), ([10, 15], [10, 15]), ([], []), ([17], [17]), ([18, 15], [18]), ([16, 19], [16, 19]), ([20, 19], [20]), ([21, 21], [21]), ([21, 22], [21, 22]), ([23, 22, 0, 1, 2, 3, 4, 5, 6, 7, 8, 9, 10, 11, 12, 13, 14, 15, 16, 17, 18, 19, 20, 21, 22, 23], [23])])
def rubricatorlaw2_CrcXor.B9 : List Nat := [0, 0, 3, 7, 15, 0, 0, 96, 224, 511, 1023, 0, 0, 6144, 14336, 31743, 65535, 0, 131072, 457727, 1048575, 2097151, 4194303, 8388607, 16777215]
theorem rubricatorlaw2_CrcXor.tab9 : rtab .any (opsOf Try.f6 9) = rubricatorlaw2_CrcXor.T9 := by kernel_rfl
theorem rubricatorlaw2_CrcXor.bits9 : waitsOk rubricatorlaw2_CrcXor.T9.2 rubricatorlaw2_CrcXor.B9 = true := by kernel_rfl
set_option maxHeartbeats 8000000 in
set_option maxRecDepth 100000 in
theorem rubricatorlaw2_CrcXor.calls (k : Nat) (P0_ : Nat → Prop) (A0 : Option Addr) (c0 : Nat) (l0 : List Int) (P1_ : Nat → Prop) (A1 : Option Addr) (c1 : Nat) (l1 : List Int) (P2_ : Nat → Prop) (A2 : Option Addr) (c2 : Nat) (l2 : List Int) (r : Bool) (w : World) (hs0 : Kd.V (Kd.int .u8) 5 w w.heap.size (fun k_ => P0_ k_) (.slice A0 l0.length c0) l0) (hs1 : Kd.V (Kd.int .u8) 5 w w.heap.size (fun k_ => P1_ k_) (.slice A1 l1.length c1) l1) (hs2 : Kd.V (Kd.int .u8) 5 w w.heap.size (fun k_ => P2_ k_) (.slice A2 l2.length c2) l2) (h : rubricatorlaw2_CrcXor.f k l0 l1 l2 = some r) :
    Calls Try.prog 6 #[.slice A0 l0.length c0, .slice A1 l1.length c1, .slice A2 l2.length c2] w fun e w' => e = .returned (.bool r) ∧ Below w.heap.size w w' := by
  have HO0 := Aside0.mk (show Kd.V (Kd.int .u8) 5 w w.heap.size (fun k_ => ((P0_ k_ ∨ P1_ k_ ∨ P2_ k_) ∨ w.heap.size ≤ k_)) (.slice A0 l0.length c0) l0 from Kd.V_mono hs0 (fun k_ hk => .inl (.inl hk)))
  have HO1 := Aside0.mk (show Kd.V (Kd.int .u8) 5 w w.heap.size (fun k_ => ((P0_ k_ ∨ P1_ k_ ∨ P2_ k_) ∨ w.heap.size ≤ k_)) (.slice A1 l1.length c1) l1 from Kd.V_mono hs1 (fun k_ hk => .inl (.inr (.inl hk))))
  have HO2 := Aside0.mk (show Kd.V (Kd.int .u8) 5 w w.heap.size (fun k_ => ((P0_ k_ ∨ P1_ k_ ∨ P2_ k_) ∨ w.heap.size ≤ k_)) (.slice A2 l2.length c2) l2 from Kd.V_mono hs2 (fun k_ hk => .inl (.inr (.inr hk))))
  have HB := Aside0.mk (Below.refl w.heap.size w)
  have H : (if (mn (mn (l0.length : Int) (l1.length : Int)) (l2.length : Int)) > 4000 then (some true) else (if 0 ≤ (mn (mn (l0.length : Int) (l1.length : Int)) (l2.length : Int)) then (if (mn (mn (l0.length : Int) (l1.length : Int)) (l2.length : Int) : Int).toNat ≤ 281474976710656 then (rubricatorlaw2_CrcXor.l0 k l0 l1 l2 (mn (mn (l0.length : Int) (l1.length : Int)) (l2.length : Int)) (List.replicate (mn (mn (l0.length : Int) (l1.length : Int)) (l2.length : Int) : Int).toNat 0) 0) else (none)) else (none))) = some r := h
  clear h
  obtain ⟨ji4, hji4⟩ : ∃ j_ : Int, (mn (l0.length : Int) (l1.length : Int)) = j_ := ⟨_, rfl⟩
  replace H : (if (mn (ji4) (l2.length : Int)) > 4000 then (some true) else (if 0 ≤ (mn (ji4) (l2.length : Int)) then (if (mn (ji4) (l2.length : Int) : Int).toNat ≤ 281474976710656 then (rubricatorlaw2_CrcXor.l0 k l0 l1 l2 (mn (ji4) (l2.length : Int)) (List.replicate (mn (ji4) (l2.length : Int) : Int).toNat 0) 0) else (none)) else (none))) = some r := by first | (rw [hji4] at H; exact H) | (simp only [hji4] at H ⊢; exact H)
  (try (have hji4l : 0 ≤ ji4 := by (rw [← hji4]; unfold mn; (repeat' split) <;> omega)))
  (try (have hji4m : 0 ≤ ji4 := by omega))
  have hji4_ : (if (l1.length : Int) < (l0.length : Int) then (l1.length : Int) else (l0.length : Int)) = ji4 := hji4
  have hji4n : (if l1.length < l0.length then (l1.length : Int) else (l0.length : Int)) = ji4 := by rw [← hji4_]; split <;> split <;> omega
  obtain ⟨ji5, hji5⟩ : ∃ j_ : Int, (mn (ji4) (l2.length : Int)) = j_ := ⟨_, rfl⟩
  replace H : (if (ji5) > 4000 then (some true) else (if 0 ≤ (ji5) then (if (ji5 : Int).toNat ≤ 281474976710656 then (rubricatorlaw2_CrcXor.l0 k l0 l1 l2 ji5 (List.replicate (ji5 : Int).toNat 0) 0) else (none)) else (none))) = some r := by first | (rw [hji5] at H; exact H) | (simp only [hji5] at H ⊢; exact H)
  have hji5_ : (if (l2.length : Int) < (ji4) then (l2.length : Int) else (ji4)) = ji5 := hji5
  by_cases c6 : (ji5) > 4000
  · rw [if_pos c6] at H
    have c6b0 : decide (4000 < (ji5)) = true := decide_eq_true c6
    clear c6
    obtain rfl := Option.some.inj H
    go_enter Try.func6, Try.ntmps6
    go_wp2
    go_ret
    exact ⟨by first | rfl | (simp [errW_none, errW_some] <;> rfl) | (simp only [← hji4, ← hji5]; first | rfl | (simp [errW_none, errW_some] <;> rfl)) | (simp [*, errW_none, errW_some] <;> rfl), by repeat (first | (with_reducible first | exact HB.out | apply below_alloc | apply pw_below_drewN | apply below_drew1) | exact HB.out)⟩
  · rw [if_neg c6] at H
    have c6b0 : decide (4000 < (ji5)) = false := decide_eq_false c6
    clear c6
    by_cases c7 : 0 ≤ (ji5)
    · rw [if_pos c7] at H
      have c7b0 := eq_true c7
      have c7b1 : decide (0 ≤ (ji5)) = true := decide_eq_true c7
      clear c7
      by_cases c8 : (ji5 : Int).toNat ≤ 281474976710656
      · rw [if_pos c8] at H
        have c8b0 := eq_true c8
        have c8b1 : decide ((ji5 : Int).toNat ≤ 281474976710656) = true := decide_eq_true c8
        clear c8
        obtain ⟨y111, hy111⟩ : ∃ y_ : List Int, y_ = (List.replicate (ji5 : Int).toNat 0) := ⟨_, rfl⟩
        replace H : (rubricatorlaw2_CrcXor.l0 k l0 l1 l2 ji5 y111 0) = some r := by first | (rw [hy111]; with_reducible exact H) | (have H2_ := (Option.bind_some _ _).symm.trans H; rw [hy111]; with_reducible exact H2_) | (have H2_ := (Option.bind_some _ _).symm.trans H; with_reducible exact H2_) | with_reducible exact H | (rw [hy111]; exact H) | exact H
        have Ny111 := Aside0.mk hy111
        clear hy111
        have H' := Aside0.mk H
        clear H
        go_enter Try.func6, Try.ntmps6
        go_wp2_with (first | ((with_reducible refine gate_dst (N := 20) rfl ?_); refine Kd.R_make (Kd.int .u8) _ 5 rfl (N := 20) rfl 22 _ _ rfl ji5 rfl rfl Try.underlying22 (.int .u8 0) 1 info5 rfl (by decide) (by omega) 0 (ok := fun _ => True) (okp := fun _ => True) rfl (fun _ hk => hk) trivial (of_decide_eq_true (by first | (with_reducible assumption) | assumption)) (Nat.le_trans (Nat.mul_le_mul_right _ (of_decide_eq_true (by first | (with_reducible assumption) | assumption) : ji5.toNat ≤ 281474976710656)) (by omega)) (Below.refl _ _) (Nat.le_refl _) ?_; intro v112 w9 ho10 hb hg_ hnew_; clear hg_ hnew_; (first | rw [← Ny111.out] at ho10 | (simp only [Int.reduceToNat] at ho10; rw [← Ny111.out] at ho10)); have n0_ := Aside0.mk (Kd.V_elder' (by (with_reducible repeat (first | apply Kd.V_alloc | apply Kd.V_drewN | apply Kd.V_drew)); exact HO0.out) (Kd.R_base ho10) hb); have n1_ := Aside0.mk (Kd.V_elder' (by (with_reducible repeat (first | apply Kd.V_alloc | apply Kd.V_drewN | apply Kd.V_drew)); exact HO1.out) (Kd.R_base ho10) hb); have n2_ := Aside0.mk (Kd.V_elder' (by (with_reducible repeat (first | apply Kd.V_alloc | apply Kd.V_drewN | apply Kd.V_drew)); exact HO2.out) (Kd.R_base ho10) hb); have n3_ := Aside0.mk (Kd.R_lower (Kd.R_newM (M := fun k_ => (w.heap.size ≤ k_)) ho10 (below_size (by repeat (first | (with_reducible first | exact HB.out | apply below_alloc | apply pw_below_drewN | apply below_drew1) | exact HB.out))) (fun k_ h_ => h_)) (below_size (by repeat (first | (with_reducible first | exact HB.out | apply below_alloc | apply pw_below_drewN | apply below_drew1) | exact HB.out)))); have n4_ := Aside0.mk (below_step (by repeat (first | (with_reducible first | exact HB.out | apply below_alloc | apply pw_below_drewN | apply below_drew1) | exact HB.out)) hb); clear HO0; clear HO1; clear HO2; clear HB; have HO0 := n0_; have HO1 := n1_; have HO2 := n2_; have HO113 := n3_; have HB := n4_; clear n0_ n1_ n2_ n3_ n4_; clear hb ho10))
        go_loopg [9] k (fun kq v9 w' => ∃ (x8_1 : List Int) (x9_1 : Int), v9 = .int .i64 x9_1 ∧ Aside0 (rubricatorlaw2_CrcXor.l0 kq l0 l1 l2 ji5 x8_1 x9_1 = some r) ∧ Aside0 (kq ≤ k) ∧ Aside0 (Kd.V (Kd.int .u8) 5 w' w.heap.size (fun k_ => ((P0_ k_ ∨ P1_ k_ ∨ P2_ k_) ∨ w.heap.size ≤ k_) ∧ some k_ ≠ (v112 : Value).ownBlock) (.slice A0 l0.length c0) l0) ∧ Aside0 (Kd.V (Kd.int .u8) 5 w' w.heap.size (fun k_ => ((P0_ k_ ∨ P1_ k_ ∨ P2_ k_) ∨ w.heap.size ≤ k_) ∧ some k_ ≠ (v112 : Value).ownBlock) (.slice A1 l1.length c1) l1) ∧ Aside0 (Kd.V (Kd.int .u8) 5 w' w.heap.size (fun k_ => ((P0_ k_ ∨ P1_ k_ ∨ P2_ k_) ∨ w.heap.size ≤ k_) ∧ some k_ ≠ (v112 : Value).ownBlock) (.slice A2 l2.length c2) l2) ∧ Aside0 (Kd.R (Kd.int .u8) 5 w' w.heap.size (fun k_ => (w.heap.size ≤ k_)) v112 x8_1) ∧ Aside0 (Below w.heap.size w w'))
        case atStart => exact ⟨(y111), (0), (by first | rfl | (simp; done) | (simp [*]; done)), H', ⟨Nat.le_refl _⟩, ⟨by (with_reducible repeat (first | apply Kd.V_alloc | apply Kd.V_drewN | apply Kd.V_drew)); exact HO0.out⟩, ⟨by (with_reducible repeat (first | apply Kd.V_alloc | apply Kd.V_drewN | apply Kd.V_drew)); exact HO1.out⟩, ⟨by (with_reducible repeat (first | apply Kd.V_alloc | apply Kd.V_drewN | apply Kd.V_drew)); exact HO2.out⟩, ⟨by (with_reducible repeat (first | apply Kd.R_alloc | apply Kd.R_drewN | apply Kd.R_drew)); exact Kd.R_mono HO113.out (fun _ hk => hk.1)⟩, ⟨by repeat (first | (with_reducible first | exact HB.out | apply below_alloc | apply pw_below_drewN | apply below_drew1) | exact HB.out)⟩⟩
        case round =>
          clear H'
          try clear c1
          try clear c2
          try clear p2
          try clear c6
          try clear c6b0
          try clear c7
          try clear c7b0
          try clear c7b1
          try clear c8
          try clear c8b0
          try clear c8b1
          obtain ⟨x8_1, x9_1, rfl, HA, HK1, HO_0, HO_1, HO_2, HO_8, HB⟩ := hrel
          cases gk with
          | zero => exact absurd HA.out (by simp [rubricatorlaw2_CrcXor.l0])
          | succ k1 =>
            have H := HA.out
            clear HA
            simp only [rubricatorlaw2_CrcXor.l0] at H
            by_cases c11 : x9_1 < ji5
            · rw [if_pos c11] at H
              have c11b0 : decide (x9_1 < ji5) = true := decide_eq_true c11
              clear c11
              by_cases c12 : 0 ≤ x9_1
              · rw [if_pos c12] at H
                have c12b0 : decide (0 ≤ x9_1) = true := decide_eq_true c12
                clear c12
                by_cases c13 : x9_1 < (l0.length : Int)
                · rw [if_pos c13] at H
                  have c13b0 : decide (x9_1 < (l0.length : Int)) = true := decide_eq_true c13
                  clear c13
                  by_cases c14 : x9_1 < (l1.length : Int)
                  · rw [if_pos c14] at H
                    have c14b0 : decide (x9_1 < (l1.length : Int)) = true := decide_eq_true c14
                    clear c14
                    by_cases c15 : x9_1 < (l2.length : Int)
                    · rw [if_pos c15] at H
                      have c15b0 : decide (x9_1 < (l2.length : Int)) = true := decide_eq_true c15
                      clear c15
                      by_cases c16 : x9_1 < (x8_1.length : Int)
                      · rw [if_pos c16] at H
                        have c16b0 : decide (x9_1 < (x8_1.length : Int)) = true := decide_eq_true c16
                        clear c16
                        obtain ⟨y117, hy117⟩ : ∃ y_ : List Int, y_ = (x8_1.set (x9_1 : Int).toNat (Go.bits .xor .u8 (Go.bits .xor .u8 (rd l0 x9_1) (rd l1 x9_1)) (rd l2 x9_1))) := ⟨_, rfl⟩
                        replace H : (rubricatorlaw2_CrcXor.l0 k1 l0 l1 l2 ji5 y117 (wrap64 (x9_1 + 1))) = some r := by first | (rw [hy117]; with_reducible exact H) | (have H2_ := (Option.bind_some _ _).symm.trans H; rw [hy117]; with_reducible exact H2_) | (have H2_ := (Option.bind_some _ _).symm.trans H; with_reducible exact H2_) | with_reducible exact H | (rw [hy117]; exact H) | exact H
                        have Ny117 := Aside0.mk hy117
                        clear hy117
                        have H' := Aside0.mk H
                        clear H
                        try go_wp2
                        have n0_ := Aside0.mk (Kd.V_drew HO_0.out)
                        have n1_ := Aside0.mk (Kd.V_drew HO_1.out)
                        have n2_ := Aside0.mk (Kd.V_drew HO_2.out)
                        have n3_ := Aside0.mk (Kd.R_drew HO_8.out)
                        have n4_ := Aside0.mk (below_drew1 HB.out)
                        clear HO_0
                        clear HO_1
                        clear HO_2
                        clear HO_8
                        clear HB
                        have HO_0 := n0_
                        have HO_1 := n1_
                        have HO_2 := n2_
                        have HO_8 := n3_
                        have HB := n4_
                        clear n0_ n1_ n2_ n3_ n4_
                        have p114 : 0 ≤ (x9_1 : Int) := of_decide_eq_true (by first | (with_reducible assumption) | assumption)
                        have q114 : x9_1 < (l0.length : Int) := of_decide_eq_true (by first | (with_reducible assumption) | assumption)
                        obtain ⟨ad114, e114, hx114_0⟩ := Kd.at_int (Kd.V_reads' HO_0.out).2.2 x9_1 p114 q114
                        cases e114
                        replace p114 := eq_true p114
                        replace q114 := eq_true q114
                        have p115 : 0 ≤ (x9_1 : Int) := of_decide_eq_true (by first | (with_reducible assumption) | assumption)
                        have q115 : x9_1 < (l1.length : Int) := of_decide_eq_true (by first | (with_reducible assumption) | assumption)
                        obtain ⟨ad115, e115, hx115_0⟩ := Kd.at_int (Kd.V_reads' HO_1.out).2.2 x9_1 p115 q115
                        cases e115
                        replace p115 := eq_true p115
                        replace q115 := eq_true q115
                        have p116 : 0 ≤ (x9_1 : Int) := of_decide_eq_true (by first | (with_reducible assumption) | assumption)
                        have q116 : x9_1 < (l2.length : Int) := of_decide_eq_true (by first | (with_reducible assumption) | assumption)
                        obtain ⟨ad116, e116, hx116_0⟩ := Kd.at_int (Kd.V_reads' HO_2.out).2.2 x9_1 p116 q116
                        cases e116
                        replace p116 := eq_true p116
                        replace q116 := eq_true q116
                        have p17 : 0 ≤ (x9_1 : Int) := of_decide_eq_true (by first | (with_reducible assumption) | assumption)
                        have q17 : (x9_1 : Int) < ((x8_1.length : Int) : Int) := of_decide_eq_true (by first | (with_reducible assumption) | assumption)
                        obtain ⟨go17, co17, eo17, gb17, gl17, cl17, HG17⟩ := Kd.R_form HO_8.out (by omega)
                        (first | cases eo17 | (injection eo17 with ea_ en_ ec_; (first | subst ea_ | (injection ea_ with ea_; subst ea_)); subst ec_; clear en_))
                        have GB17 := Aside0.mk gb17
                        have GG17 := Aside0.mk HG17
                        clear gb17 gl17 HG17
                        obtain ⟨hx17_0, hf17_0⟩ := Kd.R_celln 0 HO_8.out (x9_1 : Int) p17 q17
                        replace p17 := eq_true p17
                        replace q17 := eq_true q17
                        have HP19 := Kd.R_putn HO_8.out (x9_1 : Int) (Go.bits .xor .u8 (Go.bits .xor .u8 (rd l0 x9_1) (rd l1 x9_1)) (rd l2 x9_1))
                        rw [← Ny117.out] at HP19
                        have HQ19 := Aside0.mk HP19
                        clear HP19
                        refine start_ (n := 18) (S := fun w' => w'.cell? (ad114.add (x9_1).toNat) = some (.int .u8 (rd l0 x9_1)) ∧ w'.cell? (ad115.add (x9_1).toNat) = some (.int .u8 (rd l1 x9_1)) ∧ w'.cell? (ad116.add (x9_1).toNat) = some (.int .u8 (rd l2 x9_1))) (ds := [17]) #[false, false, false, false, false, false, false, false, false, false, false, false, false, false, false, false, false, false] (by kernel_rfl) rfl rfl ⟨hx114_0, hx115_0, hx116_0⟩ (fun hHeld => ?_); refine with_tabW rubricatorlaw2_CrcXor.tab8 rubricatorlaw2_CrcXor.bits8 (fun HT_ HW_ => ?_)
                        generalize wr.drew = w18 at HO_0 HO_1 HO_2 HO_8 HB GG17 HQ19 hf17_0 hx114_0 hx115_0 hx116_0 hx17_0 hHeld ⊢
                        refine pure_ (i := 0) (N := some 26) (v := ?_) (a' := ?_) #[true, false, false, false, false, false, false, false, false, false, false, false, false, false, false, false, false, false] rfl rfl (any_of HT_.out (by kernel_rfl)) (fun _ _ _ h => h) (Or.inl ⟨by rfl, ?_⟩) ?_ ?_
                        rotate_left
                        · intro w'
                          go_simp
                          with_reducible rfl
                        rotate_left
                        · simp only [Act.put, List.setIfInBounds_toArray, List.set_cons_zero, List.set_cons_succ, i64_w, i32_w]
                          rfl
                        refine pure_ (i := 1) (N := some 27) (v := ?_) (a' := ?_) #[true, true, false, false, false, false, false, false, false, false, false, false, false, false, false, false, false, false] rfl rfl (any_of HT_.out (by kernel_rfl)) (fun _ _ _ h => h) (Or.inl ⟨by rfl, ?_⟩) ?_ ?_
                        rotate_left
                        · intro w'
                          go_simp
                          with_reducible rfl
                        rotate_left
                        · simp only [Act.put, List.setIfInBounds_toArray, List.set_cons_zero, List.set_cons_succ, i64_w, i32_w]
                          rfl
                        refine pure_ (i := 2) (N := some 28) (v := ?_) (a' := ?_) #[true, true, true, false, false, false, false, false, false, false, false, false, false, false, false, false, false, false] rfl rfl (any_of HT_.out (by kernel_rfl)) (fun _ _ _ h => h) (Or.inl ⟨by rfl, ?_⟩) ?_ ?_
                        rotate_left
                        · intro w'
                          go_simp
                          with_reducible rfl
                        rotate_left
                        · simp only [Act.put, List.setIfInBounds_toArray, List.set_cons_zero, List.set_cons_succ, i64_w, i32_w]
                          rfl
                        refine pure_ (i := 3) (N := some 29) (v := ?_) (a' := ?_) #[true, true, true, true, false, false, false, false, false, false, false, false, false, false, false, false, false, false] rfl rfl (any_of HT_.out (by kernel_rfl)) (fun _ _ _ h => h) (Or.inl ⟨by rfl, ?_⟩) ?_ ?_
                        rotate_left
                        · intro w'
                          go_simp
                          with_reducible rfl
                        rotate_left
                        · simp only [Act.put, List.setIfInBounds_toArray, List.set_cons_zero, List.set_cons_succ, i64_w, i32_w]
                          rfl
                        refine pure_ (i := 4) (N := some 30) (v := ?_) (a' := ?_) #[true, true, true, true, true, false, false, false, false, false, false, false, false, false, false, false, false, false] rfl rfl (any_of HT_.out (by kernel_rfl)) (fun _ _ _ h => h) (Or.inl ⟨by rfl, ?_⟩) ?_ ?_
                        rotate_left
                        · intro w'
                          go_simp
                          with_reducible rfl
                        rotate_left
                        · simp only [Act.put, List.setIfInBounds_toArray, List.set_cons_zero, List.set_cons_succ, i64_w, i32_w]
                          rfl
                        refine pure_ (i := 6) (N := some 32) (v := ?_) (a' := ?_) #[true, true, true, true, true, false, true, false, false, false, false, false, false, false, false, false, false, false] rfl rfl (any_of HT_.out (by kernel_rfl)) (fun _ _ _ h => h) (Or.inl ⟨by rfl, ?_⟩) ?_ ?_
                        rotate_left
                        · intro w'
                          go_simp
                          with_reducible rfl
                        rotate_left
                        · simp only [Act.put, List.setIfInBounds_toArray, List.set_cons_zero, List.set_cons_succ, i64_w, i32_w]
                          rfl
                        refine pure_ (i := 7) (N := some 33) (v := ?_) (a' := ?_) #[true, true, true, true, true, false, true, true, false, false, false, false, false, false, false, false, false, false] rfl rfl (any_of HT_.out (by kernel_rfl)) (fun _ _ _ h => h) (Or.inl ⟨by rfl, ?_⟩) ?_ ?_
                        rotate_left
                        · intro w'
                          go_simp
                          with_reducible rfl
                        rotate_left
                        · simp only [Act.put, List.setIfInBounds_toArray, List.set_cons_zero, List.set_cons_succ, i64_w, i32_w]
                          rfl
                        refine pure_ (i := 8) (N := some 34) (v := ?_) (a' := ?_) #[true, true, true, true, true, false, true, true, true, false, false, false, false, false, false, false, false, false] rfl rfl (any_of HT_.out (by kernel_rfl)) (fun _ _ _ h => h) (Or.inl ⟨by rfl, ?_⟩) ?_ ?_
                        rotate_left
                        · intro w'
                          go_simp
                          with_reducible rfl
                        rotate_left
                        · simp only [Act.put, List.setIfInBounds_toArray, List.set_cons_zero, List.set_cons_succ, i64_w, i32_w]
                          rfl
                        refine pure_ (i := 11) (N := some 37) (v := ?_) (a' := ?_) #[true, true, true, true, true, false, true, true, true, false, false, true, false, false, false, false, false, false] rfl rfl (any_of HT_.out (by kernel_rfl)) (fun _ _ _ h => h) (Or.inl ⟨by rfl, ?_⟩) ?_ ?_
                        rotate_left
                        · intro w'
                          go_simp
                          with_reducible rfl
                        rotate_left
                        · simp only [Act.put, List.setIfInBounds_toArray, List.set_cons_zero, List.set_cons_succ, i64_w, i32_w]
                          rfl
                        refine pure_ (i := 12) (N := some 38) (v := ?_) (a' := ?_) #[true, true, true, true, true, false, true, true, true, false, false, true, true, false, false, false, false, false] rfl rfl (any_of HT_.out (by kernel_rfl)) (fun _ _ _ h => h) (Or.inl ⟨by rfl, ?_⟩) ?_ ?_
                        rotate_left
                        · intro w'
                          go_simp
                          with_reducible rfl
                        rotate_left
                        · simp only [Act.put, List.setIfInBounds_toArray, List.set_cons_zero, List.set_cons_succ, i64_w, i32_w]
                          rfl
                        refine pure_ (i := 13) (N := some 39) (v := ?_) (a' := ?_) #[true, true, true, true, true, false, true, true, true, false, false, true, true, true, false, false, false, false] rfl rfl (any_of HT_.out (by kernel_rfl)) (fun _ _ _ h => h) (Or.inl ⟨by rfl, ?_⟩) ?_ ?_
                        rotate_left
                        · intro w'
                          go_simp
                          with_reducible rfl
                        rotate_left
                        · simp only [Act.put, List.setIfInBounds_toArray, List.set_cons_zero, List.set_cons_succ, i64_w, i32_w]
                          rfl
                        refine take_ (i := 5) (N := some 31) (v := ?_) (a' := ?_) #[true, true, true, true, true, true, true, true, true, false, false, true, true, true, false, false, false, false] rfl rfl (take_ofW HT_.out HW_.out (by kernel_rfl)) (fun _ _ _ h => h) (Or.inl ⟨by rfl, ?_⟩) hHeld ?_ ?_
                        rotate_left
                        · rintro w' ⟨s0, s1, s2⟩
                          go_simp
                          with_reducible rfl
                        rotate_left
                        · simp only [Act.put, List.setIfInBounds_toArray, List.set_cons_zero, List.set_cons_succ, i64_w, i32_w]
                          rfl
                        refine take_ (i := 9) (N := some 35) (v := ?_) (a' := ?_) #[true, true, true, true, true, true, true, true, true, true, false, true, true, true, false, false, false, false] rfl rfl (take_ofW HT_.out HW_.out (by kernel_rfl)) (fun _ _ _ h => h) (Or.inl ⟨by rfl, ?_⟩) hHeld ?_ ?_
                        rotate_left
                        · rintro w' ⟨s0, s1, s2⟩
                          go_simp
                          with_reducible rfl
                        rotate_left
                        · simp only [Act.put, List.setIfInBounds_toArray, List.set_cons_zero, List.set_cons_succ, i64_w, i32_w]
                          rfl
                        refine pure_ (i := 10) (N := some 36) (v := ?_) (a' := ?_) #[true, true, true, true, true, true, true, true, true, true, true, true, true, true, false, false, false, false] rfl rfl (any_of HT_.out (by kernel_rfl)) (fun _ _ _ h => h) (Or.inl ⟨by rfl, ?_⟩) ?_ ?_
                        rotate_left
                        · intro w'
                          go_simp
                          with_reducible rfl
                        rotate_left
                        · simp only [Act.put, List.setIfInBounds_toArray, List.set_cons_zero, List.set_cons_succ, i64_w, i32_w]
                          rfl
                        refine take_ (i := 14) (N := some 40) (v := ?_) (a' := ?_) #[true, true, true, true, true, true, true, true, true, true, true, true, true, true, true, false, false, false] rfl rfl (take_ofW HT_.out HW_.out (by kernel_rfl)) (fun _ _ _ h => h) (Or.inl ⟨by rfl, ?_⟩) hHeld ?_ ?_
                        rotate_left
                        · rintro w' ⟨s0, s1, s2⟩
                          go_simp
                          with_reducible rfl
                        rotate_left
                        · simp only [Act.put, List.setIfInBounds_toArray, List.set_cons_zero, List.set_cons_succ, i64_w, i32_w]
                          rfl
                        refine pure_ (i := 15) (N := some 41) (v := ?_) (a' := ?_) #[true, true, true, true, true, true, true, true, true, true, true, true, true, true, true, true, false, false] rfl rfl (any_of HT_.out (by kernel_rfl)) (fun _ _ _ h => h) (Or.inl ⟨by rfl, ?_⟩) ?_ ?_
                        rotate_left
                        · intro w'
                          go_simp
                          with_reducible rfl
                        rotate_left
                        · simp only [Act.put, List.setIfInBounds_toArray, List.set_cons_zero, List.set_cons_succ, i64_w, i32_w]
                          rfl
                        refine pure_ (i := 16) (N := some 42) (v := ?_) (a' := ?_) #[true, true, true, true, true, true, true, true, true, true, true, true, true, true, true, true, true, false] rfl rfl (any_of HT_.out (by kernel_rfl)) (fun _ _ _ h => h) (Or.inl ⟨by rfl, ?_⟩) ?_ ?_
                        rotate_left
                        · intro w'
                          go_simp
                          with_reducible rfl
                        rotate_left
                        · simp only [Act.put, List.setIfInBounds_toArray, List.set_cons_zero, List.set_cons_succ, i64_w, i32_w]
                          rfl
                        refine last_ (i := 17) (N := none) #[true, true, true, true, true, true, true, true, true, true, true, true, true, true, true, true, true, true] rfl rfl (one_of HT_.out (by kernel_rfl)) (by decide) (fun K hK => ?_)
                        refine skip_ (w1 := ?_) (by rfl) rfl ?_ ?_
                        rotate_left
                        · go_simp
                          rfl
                        refine hK.out _ _ ?_
                        clear hK K
                        refine done_ (done_of HT_.out (by kernel_rfl)) ?_
                        try go_wp2
                        go_roundg k1
                        case measure => have := HK1.out; omega
                        case rel => exact ⟨(y117), (wrap64 (x9_1 + 1)), (by first | rfl | (simp; done) | (simp [*]; done)), H', ⟨by have := HK1.out; omega⟩, ⟨by (with_reducible repeat (first | apply Kd.V_alloc | apply Kd.V_drewN | apply Kd.V_drew)); exact Kd.V_mono (Kd.V_far (p := ⟨go17, (x9_1 : Int).toNat, none⟩) (Kd.V_mono HO_0.out (fun k_ hk => (⟨hk, fun e_ => hk.2 (by rw [e_]; rfl)⟩ : _ ∧ k_ ≠ go17))) (fun _ hk => hk.2) (.int .u8 (Go.bits .xor .u8 (Go.bits .xor .u8 (rd l0 x9_1) (rd l1 x9_1)) (rd l2 x9_1)))) (fun _ hk => ⟨hk.1.1, hk.1.2⟩)⟩, ⟨by (with_reducible repeat (first | apply Kd.V_alloc | apply Kd.V_drewN | apply Kd.V_drew)); exact Kd.V_mono (Kd.V_far (p := ⟨go17, (x9_1 : Int).toNat, none⟩) (Kd.V_mono HO_1.out (fun k_ hk => (⟨hk, fun e_ => hk.2 (by rw [e_]; rfl)⟩ : _ ∧ k_ ≠ go17))) (fun _ hk => hk.2) (.int .u8 (Go.bits .xor .u8 (Go.bits .xor .u8 (rd l0 x9_1) (rd l1 x9_1)) (rd l2 x9_1)))) (fun _ hk => ⟨hk.1.1, hk.1.2⟩)⟩, ⟨by (with_reducible repeat (first | apply Kd.V_alloc | apply Kd.V_drewN | apply Kd.V_drew)); exact Kd.V_mono (Kd.V_far (p := ⟨go17, (x9_1 : Int).toNat, none⟩) (Kd.V_mono HO_2.out (fun k_ hk => (⟨hk, fun e_ => hk.2 (by rw [e_]; rfl)⟩ : _ ∧ k_ ≠ go17))) (fun _ hk => hk.2) (.int .u8 (Go.bits .xor .u8 (Go.bits .xor .u8 (rd l0 x9_1) (rd l1 x9_1)) (rd l2 x9_1)))) (fun _ hk => ⟨hk.1.1, hk.1.2⟩)⟩, ⟨by (with_reducible repeat (first | apply Kd.R_alloc | apply Kd.R_drewN | apply Kd.R_drew)); exact HQ19.out⟩, ⟨by repeat (first | (with_reducible first | exact HB.out | apply below_alloc | apply pw_below_drewN | apply below_drew1 | refine below_set ?_ GB17.out) | exact HB.out)⟩⟩
                      · rw [if_neg c16] at H
                        exact absurd H (by simp)
                    · rw [if_neg c15] at H
                      exact absurd H (by simp)
                  · rw [if_neg c14] at H
                    exact absurd H (by simp)
                · rw [if_neg c13] at H
                  exact absurd H (by simp)
              · rw [if_neg c12] at H
                exact absurd H (by simp)
            · rw [if_neg c11] at H
              have c11b0 : decide (x9_1 < ji5) = false := decide_eq_false c11
              clear c11
              by_cases c20 : 0 ≤ ji5
              · rw [if_pos c20] at H
                have c20b0 := eq_true c20
                have c20b1 : decide (0 ≤ ji5) = true := decide_eq_true c20
                clear c20
                by_cases c21 : ji5 ≤ (l0.length : Int)
                · rw [if_pos c21] at H
                  have c21b0 := eq_true c21
                  have c21b1 : decide (ji5 ≤ (l0.length : Int)) = true := decide_eq_true c21
                  clear c21
                  obtain ⟨y118, hy118⟩ : ∃ y_ : List Int, y_ = (l0.take (ji5 : Int).toNat) := ⟨_, rfl⟩
                  replace H : ((crc_Sum.f k1 (([y118] : List (List Int)))).bind fun t126 => (if ji5 ≤ (l1.length : Int) then ((crc_Sum.f k1 (([(l1.take (ji5 : Int).toNat)] : List (List Int)))).bind fun t135 => (if ji5 ≤ (l2.length : Int) then ((crc_Sum.f k1 (([(l2.take (ji5 : Int).toNat)] : List (List Int)))).bind fun t144 => ((crc_Sum.f k1 (([x8_1] : List (List Int)))).bind fun t148 => (if (Go.bits .xor .u32 (Go.bits .xor .u32 t126 t135) t144) = t148 then ((rubricatorlaw2_known.f k1).bind fun t149 => (some t149)) else (none)))) else (none))) else (none))) = some r := by first | (rw [hy118]; with_reducible exact H) | (have H2_ := (Option.bind_some _ _).symm.trans H; rw [hy118]; with_reducible exact H2_) | (have H2_ := (Option.bind_some _ _).symm.trans H; with_reducible exact H2_) | with_reducible exact H | (rw [hy118]; exact H) | exact H
                  have Ny118 := Aside0.mk hy118
                  clear hy118
                  obtain ⟨y123, hy123⟩ : ∃ y_ : List (List Int), y_ = (([y118] : List (List Int))) := ⟨_, rfl⟩
                  replace H : ((crc_Sum.f k1 y123).bind fun t126 => (if ji5 ≤ (l1.length : Int) then ((crc_Sum.f k1 (([(l1.take (ji5 : Int).toNat)] : List (List Int)))).bind fun t135 => (if ji5 ≤ (l2.length : Int) then ((crc_Sum.f k1 (([(l2.take (ji5 : Int).toNat)] : List (List Int)))).bind fun t144 => ((crc_Sum.f k1 (([x8_1] : List (List Int)))).bind fun t148 => (if (Go.bits .xor .u32 (Go.bits .xor .u32 t126 t135) t144) = t148 then ((rubricatorlaw2_known.f k1).bind fun t149 => (some t149)) else (none)))) else (none))) else (none))) = some r := by first | (rw [hy123]; with_reducible exact H) | (have H2_ := (Option.bind_some _ _).symm.trans H; rw [hy123]; with_reducible exact H2_) | (have H2_ := (Option.bind_some _ _).symm.trans H; with_reducible exact H2_) | with_reducible exact H | (rw [hy123]; exact H) | exact H
                  have Ny123 := Aside0.mk hy123
                  clear hy123
                  replace H := Option.bind_eq_some_iff.mp H
                  obtain ⟨t126, A220, H⟩ := H
                  replace H : (if ji5 ≤ (l1.length : Int) then ((crc_Sum.f k1 (([(l1.take (ji5 : Int).toNat)] : List (List Int)))).bind fun t135 => (if ji5 ≤ (l2.length : Int) then ((crc_Sum.f k1 (([(l2.take (ji5 : Int).toNat)] : List (List Int)))).bind fun t144 => ((crc_Sum.f k1 (([x8_1] : List (List Int)))).bind fun t148 => (if (Go.bits .xor .u32 (Go.bits .xor .u32 t126 t135) t144) = t148 then ((rubricatorlaw2_known.f k1).bind fun t149 => (some t149)) else (none)))) else (none))) else (none)) = some r := H
                  have A22 := Aside0.mk A220
                  clear A220
                  have c23b0 := eq_true (of_decide_eq_true (by first | (with_reducible assumption) | assumption) : 0 ≤ ji5)
                  by_cases c24 : ji5 ≤ (l1.length : Int)
                  · rw [if_pos c24] at H
                    have c24b0 := eq_true c24
                    have c24b1 : decide (ji5 ≤ (l1.length : Int)) = true := decide_eq_true c24
                    clear c24
                    obtain ⟨y127, hy127⟩ : ∃ y_ : List Int, y_ = (l1.take (ji5 : Int).toNat) := ⟨_, rfl⟩
                    replace H : ((crc_Sum.f k1 (([y127] : List (List Int)))).bind fun t135 => (if ji5 ≤ (l2.length : Int) then ((crc_Sum.f k1 (([(l2.take (ji5 : Int).toNat)] : List (List Int)))).bind fun t144 => ((crc_Sum.f k1 (([x8_1] : List (List Int)))).bind fun t148 => (if (Go.bits .xor .u32 (Go.bits .xor .u32 t126 t135) t144) = t148 then ((rubricatorlaw2_known.f k1).bind fun t149 => (some t149)) else (none)))) else (none))) = some r := by first | (rw [hy127]; with_reducible exact H) | (have H2_ := (Option.bind_some _ _).symm.trans H; rw [hy127]; with_reducible exact H2_) | (have H2_ := (Option.bind_some _ _).symm.trans H; with_reducible exact H2_) | with_reducible exact H | (rw [hy127]; exact H) | exact H
                    have Ny127 := Aside0.mk hy127
                    clear hy127
                    obtain ⟨y132, hy132⟩ : ∃ y_ : List (List Int), y_ = (([y127] : List (List Int))) := ⟨_, rfl⟩
                    replace H : ((crc_Sum.f k1 y132).bind fun t135 => (if ji5 ≤ (l2.length : Int) then ((crc_Sum.f k1 (([(l2.take (ji5 : Int).toNat)] : List (List Int)))).bind fun t144 => ((crc_Sum.f k1 (([x8_1] : List (List Int)))).bind fun t148 => (if (Go.bits .xor .u32 (Go.bits .xor .u32 t126 t135) t144) = t148 then ((rubricatorlaw2_known.f k1).bind fun t149 => (some t149)) else (none)))) else (none))) = some r := by first | (rw [hy132]; with_reducible exact H) | (have H2_ := (Option.bind_some _ _).symm.trans H; rw [hy132]; with_reducible exact H2_) | (have H2_ := (Option.bind_some _ _).symm.trans H; with_reducible exact H2_) | with_reducible exact H | (rw [hy132]; exact H) | exact H
                    have Ny132 := Aside0.mk hy132
                    clear hy132
                    replace H := Option.bind_eq_some_iff.mp H
                    obtain ⟨t135, A250, H⟩ := H
                    replace H : (if ji5 ≤ (l2.length : Int) then ((crc_Sum.f k1 (([(l2.take (ji5 : Int).toNat)] : List (List Int)))).bind fun t144 => ((crc_Sum.f k1 (([x8_1] : List (List Int)))).bind fun t148 => (if (Go.bits .xor .u32 (Go.bits .xor .u32 t126 t135) t144) = t148 then ((rubricatorlaw2_known.f k1).bind fun t149 => (some t149)) else (none)))) else (none)) = some r := H
                    have A25 := Aside0.mk A250
                    clear A250
                    have c26b0 := eq_true (of_decide_eq_true (by first | (with_reducible assumption) | assumption) : 0 ≤ ji5)
                    by_cases c27 : ji5 ≤ (l2.length : Int)
                    · rw [if_pos c27] at H
                      have c27b0 := eq_true c27
                      have c27b1 : decide (ji5 ≤ (l2.length : Int)) = true := decide_eq_true c27
                      clear c27
                      obtain ⟨y136, hy136⟩ : ∃ y_ : List Int, y_ = (l2.take (ji5 : Int).toNat) := ⟨_, rfl⟩
                      replace H : ((crc_Sum.f k1 (([y136] : List (List Int)))).bind fun t144 => ((crc_Sum.f k1 (([x8_1] : List (List Int)))).bind fun t148 => (if (Go.bits .xor .u32 (Go.bits .xor .u32 t126 t135) t144) = t148 then ((rubricatorlaw2_known.f k1).bind fun t149 => (some t149)) else (none)))) = some r := by first | (rw [hy136]; with_reducible exact H) | (have H2_ := (Option.bind_some _ _).symm.trans H; rw [hy136]; with_reducible exact H2_) | (have H2_ := (Option.bind_some _ _).symm.trans H; with_reducible exact H2_) | with_reducible exact H | (rw [hy136]; exact H) | exact H
                      have Ny136 := Aside0.mk hy136
                      clear hy136
                      obtain ⟨y141, hy141⟩ : ∃ y_ : List (List Int), y_ = (([y136] : List (List Int))) := ⟨_, rfl⟩
                      replace H : ((crc_Sum.f k1 y141).bind fun t144 => ((crc_Sum.f k1 (([x8_1] : List (List Int)))).bind fun t148 => (if (Go.bits .xor .u32 (Go.bits .xor .u32 t126 t135) t144) = t148 then ((rubricatorlaw2_known.f k1).bind fun t149 => (some t149)) else (none)))) = some r := by first | (rw [hy141]; with_reducible exact H) | (have H2_ := (Option.bind_some _ _).symm.trans H; rw [hy141]; with_reducible exact H2_) | (have H2_ := (Option.bind_some _ _).symm.trans H; with_reducible exact H2_) | with_reducible exact H | (rw [hy141]; exact H) | exact H
                      have Ny141 := Aside0.mk hy141
                      clear hy141
                      replace H := Option.bind_eq_some_iff.mp H
                      obtain ⟨t144, A280, H⟩ := H
                      replace H : ((crc_Sum.f k1 (([x8_1] : List (List Int)))).bind fun t148 => (if (Go.bits .xor .u32 (Go.bits .xor .u32 t126 t135) t144) = t148 then ((rubricatorlaw2_known.f k1).bind fun t149 => (some t149)) else (none))) = some r := H
                      have A28 := Aside0.mk A280
                      clear A280
                      obtain ⟨y145, hy145⟩ : ∃ y_ : List (List Int), y_ = (([x8_1] : List (List Int))) := ⟨_, rfl⟩
                      replace H : ((crc_Sum.f k1 y145).bind fun t148 => (if (Go.bits .xor .u32 (Go.bits .xor .u32 t126 t135) t144) = t148 then ((rubricatorlaw2_known.f k1).bind fun t149 => (some t149)) else (none))) = some r := by first | (rw [hy145]; with_reducible exact H) | (have H2_ := (Option.bind_some _ _).symm.trans H; rw [hy145]; with_reducible exact H2_) | (have H2_ := (Option.bind_some _ _).symm.trans H; with_reducible exact H2_) | with_reducible exact H | (rw [hy145]; exact H) | exact H
                      have Ny145 := Aside0.mk hy145
                      clear hy145
                      replace H := Option.bind_eq_some_iff.mp H
                      obtain ⟨t148, A290, H⟩ := H
                      replace H : (if (Go.bits .xor .u32 (Go.bits .xor .u32 t126 t135) t144) = t148 then ((rubricatorlaw2_known.f k1).bind fun t149 => (some t149)) else (none)) = some r := H
                      have A29 := Aside0.mk A290
                      clear A290
                      by_cases c30 : (Go.bits .xor .u32 (Go.bits .xor .u32 t126 t135) t144) = t148
                      · rw [if_pos c30] at H
                        have c30b0 : ((Go.bits .xor .u32 (Go.bits .xor .u32 t126 t135) t144) == t148) = true := beq_iff_eq.mpr c30
                        have c30b1 : ((Go.bits .xor .u32 (Go.bits .xor .u32 t126 t135) t144) != t148) = false := bne_eq_false_iff_eq.mpr c30
                        clear c30
                        replace H := Option.bind_eq_some_iff.mp H
                        obtain ⟨t149, A310, H⟩ := H
                        replace H : (some t149) = some r := H
                        have A31 := Aside0.mk A310
                        clear A310
                        obtain rfl := Option.some.inj H
                        try go_wp2
                        have n0_ := Aside0.mk (Kd.V_drew HO_0.out)
                        have n1_ := Aside0.mk (Kd.V_drew HO_1.out)
                        have n2_ := Aside0.mk (Kd.V_drew HO_2.out)
                        have n3_ := Aside0.mk (Kd.R_drew HO_8.out)
                        have n4_ := Aside0.mk (below_drew1 HB.out)
                        clear HO_0
                        clear HO_1
                        clear HO_2
                        clear HO_8
                        clear HB
                        have HO_0 := n0_
                        have HO_1 := n1_
                        have HO_2 := n2_
                        have HO_8 := n3_
                        have HB := n4_
                        clear n0_ n1_ n2_ n3_ n4_
                        have q33 : (ji5 : Int) ≤ ((l0.length : Int) : Int) := of_decide_eq_true (by first | (with_reducible assumption) | assumption)
                        obtain ⟨i033, hi033, _, hsz33, _⟩ := info_parts info5
                        have hroom33 : l0.length ≤ c0 := (Kd.V_reads' HO_0.out).2.1
                        have hC33 : Kd.F (Kd.int .u8) _ _ A0 l0.length l0 := (Kd.V_at (base := w.heap.size) HO_0.out).2.2
                        have hcut33 := cut_to (P := Try.prog) 22 5 .i64 Try.underlying22 hi033 A0 l0.length c0 ji5 (of_decide_eq_true (by first | (with_reducible assumption) | assumption)) q33 hroom33
                        have hr33 := Kd.F_take (m := (ji5 : Int).toNat) hC33 (by omega)
                        have hy33 : y118.length = (ji5 : Int).toNat := (by rw [Ny118.out, List.length_take]; omega)
                        rw [← Ny118.out] at hr33
                        rw [← hy33] at hcut33
                        have HO122 := Aside0.mk (show Kd.V (Kd.int .u8) 5 _ w.heap.size _ (.slice A0 y118.length c0) y118 from Kd.V_mk (by omega) hr33)
                        have HC122 := Aside0.mk (show y118.length ≤ c0 from by omega)
                        clear hr33 hC33 hroom33 hi033 hsz33
                        have KY33 := Aside0.mk hy33
                        clear hy33
                        replace q33 := eq_true q33
                        have q34 : (ji5 : Int) ≤ ((l1.length : Int) : Int) := of_decide_eq_true (by first | (with_reducible assumption) | assumption)
                        obtain ⟨i034, hi034, _, hsz34, _⟩ := info_parts info5
                        have hroom34 : l1.length ≤ c1 := (Kd.V_reads' HO_1.out).2.1
                        have hC34 : Kd.F (Kd.int .u8) _ _ A1 l1.length l1 := (Kd.V_at (base := w.heap.size) HO_1.out).2.2
                        have hcut34 := cut_to (P := Try.prog) 22 5 .i64 Try.underlying22 hi034 A1 l1.length c1 ji5 (of_decide_eq_true (by first | (with_reducible assumption) | assumption)) q34 hroom34
                        have hr34 := Kd.F_take (m := (ji5 : Int).toNat) hC34 (by omega)
                        have hy34 : y127.length = (ji5 : Int).toNat := (by rw [Ny127.out, List.length_take]; omega)
                        rw [← Ny127.out] at hr34
                        rw [← hy34] at hcut34
                        have HO131 := Aside0.mk (show Kd.V (Kd.int .u8) 5 _ w.heap.size _ (.slice A1 y127.length c1) y127 from Kd.V_mk (by omega) hr34)
                        have HC131 := Aside0.mk (show y127.length ≤ c1 from by omega)
                        clear hr34 hC34 hroom34 hi034 hsz34
                        have KY34 := Aside0.mk hy34
                        clear hy34
                        replace q34 := eq_true q34
                        have q35 : (ji5 : Int) ≤ ((l2.length : Int) : Int) := of_decide_eq_true (by first | (with_reducible assumption) | assumption)
                        obtain ⟨i035, hi035, _, hsz35, _⟩ := info_parts info5
                        have hroom35 : l2.length ≤ c2 := (Kd.V_reads' HO_2.out).2.1
                        have hC35 : Kd.F (Kd.int .u8) _ _ A2 l2.length l2 := (Kd.V_at (base := w.heap.size) HO_2.out).2.2
                        have hcut35 := cut_to (P := Try.prog) 22 5 .i64 Try.underlying22 hi035 A2 l2.length c2 ji5 (of_decide_eq_true (by first | (with_reducible assumption) | assumption)) q35 hroom35
                        have hr35 := Kd.F_take (m := (ji5 : Int).toNat) hC35 (by omega)
                        have hy35 : y136.length = (ji5 : Int).toNat := (by rw [Ny136.out, List.length_take]; omega)
                        rw [← Ny136.out] at hr35
                        rw [← hy35] at hcut35
                        have HO140 := Aside0.mk (show Kd.V (Kd.int .u8) 5 _ w.heap.size _ (.slice A2 y136.length c2) y136 from Kd.V_mk (by omega) hr35)
                        have HC140 := Aside0.mk (show y136.length ≤ c2 from by omega)
                        clear hr35 hC35 hroom35 hi035 hsz35
                        have KY35 := Aside0.mk hy35
                        clear hy35
                        replace q35 := eq_true q35
                        refine start_ (n := 25) (S := fun w' => True) (ds := []) #[false, false, false, false, false, false, false, false, false, false, false, false, false, false, false, false, false, false, false, false, false, false, false, false, false] (by kernel_rfl) rfl rfl trivial (fun hHeld => ?_); refine with_tabW rubricatorlaw2_CrcXor.tab9 rubricatorlaw2_CrcXor.bits9 (fun HT_ HW_ => ?_)
                        generalize wr.drew = w32 at HO_0 HO_1 HO_2 HO_8 HB HO122 HO131 HO140 hHeld ⊢
                        refine pure_ (i := 0) (N := some 43) (v := ?_) (a' := ?_) #[true, false, false, false, false, false, false, false, false, false, false, false, false, false, false, false, false, false, false, false, false, false, false, false, false] rfl rfl (any_of HT_.out (by kernel_rfl)) (fun _ _ _ h => h) (Or.inl ⟨by rfl, ?_⟩) ?_ ?_
                        rotate_left
                        · intro w'
                          go_simp
                          with_reducible rfl
                        rotate_left
                        · simp only [Act.put, List.setIfInBounds_toArray, List.set_cons_zero, List.set_cons_succ, i64_w, i32_w]
                          rfl
                        refine pure_ (i := 1) (N := some 44) (v := ?_) (a' := ?_) #[true, true, false, false, false, false, false, false, false, false, false, false, false, false, false, false, false, false, false, false, false, false, false, false, false] rfl rfl (any_of HT_.out (by kernel_rfl)) (fun _ _ _ h => h) (Or.inl ⟨by rfl, ?_⟩) ?_ ?_
                        rotate_left
                        · intro w'
                          go_simp
                          with_reducible rfl
                        rotate_left
                        · simp only [Act.put, List.setIfInBounds_toArray, List.set_cons_zero, List.set_cons_succ, i64_w, i32_w]
                          rfl
                        refine pure_ (i := 2) (N := some 45) (v := ?_) (a' := ?_) #[true, true, true, false, false, false, false, false, false, false, false, false, false, false, false, false, false, false, false, false, false, false, false, false, false] rfl rfl (any_of HT_.out (by kernel_rfl)) (fun _ _ _ h => h) (Or.inl ⟨by rfl, ?_⟩) ?_ ?_
                        rotate_left
                        · intro w'
                          go_simp
                          with_reducible rfl
                        rotate_left
                        · simp only [Act.put, List.setIfInBounds_toArray, List.set_cons_zero, List.set_cons_succ, i64_w, i32_w]
                          rfl
                        refine pure_ (i := 5) (N := some 48) (v := ?_) (a' := ?_) #[true, true, true, false, false, true, false, false, false, false, false, false, false, false, false, false, false, false, false, false, false, false, false, false, false] rfl rfl (any_of HT_.out (by kernel_rfl)) (fun _ _ _ h => h) (Or.inl ⟨by rfl, ?_⟩) ?_ ?_
                        rotate_left
                        · intro w'
                          go_simp
                          with_reducible rfl
                        rotate_left
                        · simp only [Act.put, List.setIfInBounds_toArray, List.set_cons_zero, List.set_cons_succ, i64_w, i32_w]
                          rfl
                        refine pure_ (i := 6) (N := some 49) (v := ?_) (a' := ?_) #[true, true, true, false, false, true, true, false, false, false, false, false, false, false, false, false, false, false, false, false, false, false, false, false, false] rfl rfl (any_of HT_.out (by kernel_rfl)) (fun _ _ _ h => h) (Or.inl ⟨by rfl, ?_⟩) ?_ ?_
                        rotate_left
                        · intro w'
                          go_simp
                          with_reducible rfl
                        rotate_left
                        · simp only [Act.put, List.setIfInBounds_toArray, List.set_cons_zero, List.set_cons_succ, i64_w, i32_w]
                          rfl
                        refine pure_ (i := 7) (N := some 50) (v := ?_) (a' := ?_) #[true, true, true, false, false, true, true, true, false, false, false, false, false, false, false, false, false, false, false, false, false, false, false, false, false] rfl rfl (any_of HT_.out (by kernel_rfl)) (fun _ _ _ h => h) (Or.inl ⟨by rfl, ?_⟩) ?_ ?_
                        rotate_left
                        · intro w'
                          go_simp
                          with_reducible rfl
                        rotate_left
                        · simp only [Act.put, List.setIfInBounds_toArray, List.set_cons_zero, List.set_cons_succ, i64_w, i32_w]
                          rfl
                        refine pure_ (i := 11) (N := some 54) (v := ?_) (a' := ?_) #[true, true, true, false, false, true, true, true, false, false, false, true, false, false, false, false, false, false, false, false, false, false, false, false, false] rfl rfl (any_of HT_.out (by kernel_rfl)) (fun _ _ _ h => h) (Or.inl ⟨by rfl, ?_⟩) ?_ ?_
                        rotate_left
                        · intro w'
                          go_simp
                          with_reducible rfl
                        rotate_left
                        · simp only [Act.put, List.setIfInBounds_toArray, List.set_cons_zero, List.set_cons_succ, i64_w, i32_w]
                          rfl
                        refine pure_ (i := 12) (N := some 55) (v := ?_) (a' := ?_) #[true, true, true, false, false, true, true, true, false, false, false, true, true, false, false, false, false, false, false, false, false, false, false, false, false] rfl rfl (any_of HT_.out (by kernel_rfl)) (fun _ _ _ h => h) (Or.inl ⟨by rfl, ?_⟩) ?_ ?_
                        rotate_left
                        · intro w'
                          go_simp
                          with_reducible rfl
                        rotate_left
                        · simp only [Act.put, List.setIfInBounds_toArray, List.set_cons_zero, List.set_cons_succ, i64_w, i32_w]
                          rfl
                        refine pure_ (i := 13) (N := some 56) (v := ?_) (a' := ?_) #[true, true, true, false, false, true, true, true, false, false, false, true, true, true, false, false, false, false, false, false, false, false, false, false, false] rfl rfl (any_of HT_.out (by kernel_rfl)) (fun _ _ _ h => h) (Or.inl ⟨by rfl, ?_⟩) ?_ ?_
                        rotate_left
                        · intro w'
                          go_simp
                          with_reducible rfl
                        rotate_left
                        · simp only [Act.put, List.setIfInBounds_toArray, List.set_cons_zero, List.set_cons_succ, i64_w, i32_w]
                          rfl
                        refine pure_ (i := 17) (N := some 60) (v := ?_) (a' := ?_) #[true, true, true, false, false, true, true, true, false, false, false, true, true, true, false, false, false, true, false, false, false, false, false, false, false] rfl rfl (any_of HT_.out (by kernel_rfl)) (fun _ _ _ h => h) (Or.inl ⟨by rfl, ?_⟩) ?_ ?_
                        rotate_left
                        · intro w'
                          go_simp
                          with_reducible rfl
                        rotate_left
                        · simp only [Act.put, List.setIfInBounds_toArray, List.set_cons_zero, List.set_cons_succ, i64_w, i32_w]
                          rfl
                        obtain ⟨Ao36, co36, eo36⟩ := Kd.R_slice HO_8.out
                        (first | subst eo36 | (injection eo36 with f1_ f2_ f3_; have f4_ := f1_.symm; have f5_ := f3_.symm; clear f1_ f2_ f3_; subst f4_; subst f5_))
                        have hF0 := Aside0.mk (show Kd.FK (Kd.slice 5 (Kd.int .u8)) w32 (fun _ => True) y118 [.slice A0 y118.length c0] from Go.Proofs.YtlfcolmepieknaaExt.FK_slice_mk2 (Kd.V_reads' HO122.out).2.1 (Kd.F_mono (Kd.V_F HO122.out) (fun _ _ => trivial)))
                        have hF1 := Aside0.mk (show Kd.FK (Kd.slice 5 (Kd.int .u8)) w32 (fun _ => True) y127 [.slice A1 y127.length c1] from Go.Proofs.YtlfcolmepieknaaExt.FK_slice_mk2 (Kd.V_reads' HO131.out).2.1 (Kd.F_mono (Kd.V_F HO131.out) (fun _ _ => trivial)))
                        have hF2 := Aside0.mk (show Kd.FK (Kd.slice 5 (Kd.int .u8)) w32 (fun _ => True) y136 [.slice A2 y136.length c2] from Go.Proofs.YtlfcolmepieknaaExt.FK_slice_mk2 (Kd.V_reads' HO140.out).2.1 (Kd.F_mono (Kd.V_F HO140.out) (fun _ _ => trivial)))
                        have hF3 := Aside0.mk (show Kd.FK (Kd.slice 5 (Kd.int .u8)) w32 (fun _ => True) x8_1 [.slice Ao36 x8_1.length co36] from Go.Proofs.YtlfcolmepieknaaExt.FK_slice_mk2 (Kd.R_reads' HO_8.out).2.1 (Kd.F_mono (Kd.R_F HO_8.out) (fun _ _ => trivial)))
                        clear HO_0 HO_1 HO_2 HO_8 HO122 HO131 HO140
                        refine join_ (σ := Value × Value × Value × Value) 6 #[true, true, true, true, true, true, true, true, true, true, true, true, true, true, true, true, true, true, true, false, false, false, false, false, false] (fun s_ => [(46, s_.1), (47, .int .u32 t126), (51, s_.2.1), (52, .int .u32 t135), (53, .int .u32 (Go.bits .xor .u32 t126 t135)), (57, s_.2.2.1), (58, .int .u32 t144), (59, .int .u32 (Go.bits .xor .u32 (Go.bits .xor .u32 t126 t135) t144)), (61, s_.2.2.2)]) (fun s_ w' => (Below w32.heap.size w32 w') ∧ (Kd.N (Kd.slice 5 (Kd.int .u8)) 22 w' w32.heap.size (fun _ => True) s_.2.2.2 y145)) ?_ (fun hJ3_0123 => ?_)
                        · rintro ⟨v0_, v1_, v2_, v3_⟩ w1 ⟨hb0, g3⟩
                          replace hb0 := Aside0.mk hb0
                          replace g3 := Aside0.mk g3
                          obtain ⟨Aoc, coc, eoc⟩ := Kd.N_slice g3.out
                          subst eoc
                          refine norm_ (a' := ?_) ?_ ?_
                          rotate_left
                          · simp only [putAll, Act.put, List.setIfInBounds_toArray, List.set_cons_zero, List.set_cons_succ]
                            rfl
                          refine one_ (i := 19) (N := some 62) #[true, true, true, true, true, true, true, true, true, true, true, true, true, true, true, true, true, true, true, true, false, false, false, false, false] rfl rfl (one_of HT_.out (by kernel_rfl)) (by decide) (fun K hK => ?_)
                          · skip
                            refine goes_ Try.func10 (by kernel_rfl) rfl #[.slice Aoc y145.length coc] (by rfl) rfl rfl (by (try simp only [List.map_toArray, List.map_cons, List.map_nil]); first | done | rfl | (simp only [List.length_drop, List.length_take]; rfl)) ?_
                            with_reducible refine (crc_Sum.calls k1 _ _ y145 t148 _ ?side1 ?side2 A29.out).mono ?_
                            case side1 => exact (Kd.N_reads' g3.out).2.2
                            case side2 => exact (Kd.N_reads' g3.out).2.1
                            rintro e w2 ⟨rfl, hb⟩
                            refine ⟨_, rfl, ?_⟩
                            have HB2 := Aside0.mk (hb0.out.trans (hb.mono hb0.out.size))
                            refine hK.out _ _ trivial (fun hHeld => ?_)
                            clear hK K
                            refine norm_ (a' := ?_) ?_ ?_
                            rotate_left
                            · show Act.put _ (some 62) _ = _
                              simp only [Act.put, List.setIfInBounds_toArray, List.set_cons_zero, List.set_cons_succ, i64_w, i32_w]
                              rfl
                            refine pure_ (i := 20) (N := some 63) (v := ?_) (a' := ?_) #[true, true, true, true, true, true, true, true, true, true, true, true, true, true, true, true, true, true, true, true, true, false, false, false, false] rfl rfl (any_of HT_.out (by kernel_rfl)) (fun _ _ _ h => h) (Or.inl ⟨by rfl, ?_⟩) ?_ ?_
                            rotate_left
                            · intro w'
                              go_simp
                              with_reducible rfl
                            rotate_left
                            · simp only [Act.put, List.setIfInBounds_toArray, List.set_cons_zero, List.set_cons_succ, i64_w, i32_w]
                              rfl
                            refine pure_ (i := 21) (N := some 64) (v := ?_) (a' := ?_) #[true, true, true, true, true, true, true, true, true, true, true, true, true, true, true, true, true, true, true, true, true, true, false, false, false] rfl rfl (any_of HT_.out (by kernel_rfl)) (fun _ _ _ h => h) (Or.inl ⟨by rfl, ?_⟩) ?_ ?_
                            rotate_left
                            · intro w'
                              go_simp
                              with_reducible rfl
                            rotate_left
                            · simp only [Act.put, List.setIfInBounds_toArray, List.set_cons_zero, List.set_cons_succ, i64_w, i32_w]
                              rfl
                            refine one_ (i := 22) (N := some 65) #[true, true, true, true, true, true, true, true, true, true, true, true, true, true, true, true, true, true, true, true, true, true, true, false, false] rfl rfl (one_of HT_.out (by kernel_rfl)) (by decide) (fun K hK => ?_)
                            refine goes_ Try.func14 (by kernel_rfl) rfl #[] (by rfl) rfl rfl (by (try simp only [List.map_toArray, List.map_cons, List.map_nil]); first | done | rfl) ?_
                            with_reducible refine (rubricatorlaw2_known.calls k1  t149 _ A31.out).mono ?_
                            rintro e w3 ⟨rfl, hb9⟩
                            refine ⟨_, rfl, ?_⟩
                            have HB3 := Aside0.mk (HB2.out.trans (hb9.mono HB2.out.size))
                            refine hK.out _ _ trivial (fun hHeld => ?_)
                            clear hK K
                            refine norm_ (a' := ?_) ?_ ?_
                            rotate_left
                            · show Act.put _ (some 65) _ = _
                              simp only [Act.put, List.setIfInBounds_toArray, List.set_cons_zero, List.set_cons_succ, i64_w, i32_w]
                              rfl
                            refine pure_ (i := 23) (N := some 66) (v := ?_) (a' := ?_) #[true, true, true, true, true, true, true, true, true, true, true, true, true, true, true, true, true, true, true, true, true, true, true, true, false] rfl rfl (any_of HT_.out (by kernel_rfl)) (fun _ _ _ h => h) (Or.inl ⟨by rfl, ?_⟩) ?_ ?_
                            rotate_left
                            · intro w'
                              go_simp
                              with_reducible rfl
                            rotate_left
                            · simp only [Act.put, List.setIfInBounds_toArray, List.set_cons_zero, List.set_cons_succ, i64_w, i32_w]
                              rfl
                            refine pure_ (i := 24) (N := some 6) (v := ?_) (a' := ?_) #[true, true, true, true, true, true, true, true, true, true, true, true, true, true, true, true, true, true, true, true, true, true, true, true, true] rfl rfl (any_of HT_.out (by kernel_rfl)) (fun _ _ _ h => h) (Or.inl ⟨by rfl, ?_⟩) ?_ ?_
                            rotate_left
                            · intro w'
                              go_simp
                              with_reducible rfl
                            rotate_left
                            · simp only [Act.put, List.setIfInBounds_toArray, List.set_cons_zero, List.set_cons_succ, i64_w, i32_w]
                              rfl
                            refine done_ (done_of HT_.out (by kernel_rfl)) ?_
                            try go_wp2
                            go_ret
                            exact ⟨rfl, HB.out.trans (HB3.out.mono HB.out.size)⟩
                        refine join_ (σ := Value × Value × Value × Value) 8 #[true, true, true, true, true, true, true, true, true, true, true, true, true, true, true, false, false, true, true, false, false, false, false, false, false] (fun s_ => [(46, s_.1), (47, .int .u32 t126), (51, s_.2.1), (52, .int .u32 t135), (53, .int .u32 (Go.bits .xor .u32 t126 t135)), (57, s_.2.2.1), (61, s_.2.2.2)]) (fun s_ w' => (Below w32.heap.size w32 w') ∧ (Kd.N (Kd.slice 5 (Kd.int .u8)) 22 w' w32.heap.size (fun _ => True) s_.2.2.1 y141) ∧ (Kd.N (Kd.slice 5 (Kd.int .u8)) 22 w' w32.heap.size (fun _ => True) s_.2.2.2 y145)) ?_ (fun hJ2_0123 => ?_)
                        · rintro ⟨v0_, v1_, v2_, v3_⟩ w1 ⟨hb0, g2, g3⟩
                          replace hb0 := Aside0.mk hb0
                          replace g2 := Aside0.mk g2
                          replace g3 := Aside0.mk g3
                          obtain ⟨Aoc, coc, eoc⟩ := Kd.N_slice g2.out
                          subst eoc
                          refine norm_ (a' := ?_) ?_ ?_
                          rotate_left
                          · simp only [putAll, Act.put, List.setIfInBounds_toArray, List.set_cons_zero, List.set_cons_succ]
                            rfl
                          refine one_ (i := 15) (N := some 58) #[true, true, true, true, true, true, true, true, true, true, true, true, true, true, true, true, false, true, true, false, false, false, false, false, false] rfl rfl (one_of HT_.out (by kernel_rfl)) (by decide) (fun K hK => ?_)
                          · skip
                            refine goes_ Try.func10 (by kernel_rfl) rfl #[.slice Aoc y141.length coc] (by rfl) rfl rfl (by (try simp only [List.map_toArray, List.map_cons, List.map_nil]); first | done | rfl | (simp only [List.length_drop, List.length_take]; rfl)) ?_
                            with_reducible refine (crc_Sum.calls k1 _ _ y141 t144 _ ?side1 ?side2 A28.out).mono ?_
                            case side1 => exact (Kd.N_reads' g2.out).2.2
                            case side2 => exact (Kd.N_reads' g2.out).2.1
                            rintro e w2 ⟨rfl, hb⟩
                            refine ⟨_, rfl, ?_⟩
                            refine hK.out _ _ trivial (fun hHeld => ?_)
                            clear hK K
                            refine norm_ (a' := ?_) ?_ ?_
                            rotate_left
                            · show Act.put _ (some 58) _ = _
                              simp only [Act.put, List.setIfInBounds_toArray, List.set_cons_zero, List.set_cons_succ, i64_w, i32_w]
                              rfl
                            refine pure_ (i := 16) (N := some 59) (v := ?_) (a' := ?_) #[true, true, true, true, true, true, true, true, true, true, true, true, true, true, true, true, true, true, true, false, false, false, false, false, false] rfl rfl (any_of HT_.out (by kernel_rfl)) (fun _ _ _ h => h) (Or.inl ⟨by rfl, ?_⟩) ?_ ?_
                            rotate_left
                            · intro w'
                              go_simp
                              with_reducible rfl
                            rotate_left
                            · simp only [Act.put, List.setIfInBounds_toArray, List.set_cons_zero, List.set_cons_succ, i64_w, i32_w]
                              rfl
                            exact norm_ (by first | (simp only [putAll, Act.put, List.setIfInBounds_toArray, List.set_cons_zero, List.set_cons_succ]; done) | (simp only [putAll, Act.put, List.setIfInBounds_toArray, List.set_cons_zero, List.set_cons_succ]; rfl)) (hJ3_0123 (v0_, v1_, .slice Aoc y141.length coc, v3_) _ ⟨hb0.out.trans (hb.mono hb0.out.size), Kd.N_below g3.out hb⟩)
                        refine join_ (σ := Value × Value × Value) 7 #[true, true, true, true, true, true, true, true, true, true, true, true, true, true, true, true, true, true, false, false, false, false, false, false, false] (fun s_ => [(46, s_.1), (47, .int .u32 t126), (51, s_.2.1), (52, .int .u32 t135), (53, .int .u32 (Go.bits .xor .u32 t126 t135)), (57, s_.2.2), (58, .int .u32 t144), (59, .int .u32 (Go.bits .xor .u32 (Go.bits .xor .u32 t126 t135) t144))]) (fun s_ w' => (Below w32.heap.size w32 w')) ?_ (fun hJ3_012 => ?_)
                        · rintro ⟨v0_, v1_, v2_⟩ w1 hb0
                          replace hb0 := Aside0.mk hb0
                          refine norm_ (a' := ?_) ?_ ?_
                          rotate_left
                          · simp only [putAll, Act.put, List.setIfInBounds_toArray, List.set_cons_zero, List.set_cons_succ]
                            rfl
                          refine one_ (i := 18) (N := some 61) #[true, true, true, true, true, true, true, true, true, true, true, true, true, true, true, true, true, true, true, false, false, false, false, false, false] rfl rfl (one_of HT_.out (by kernel_rfl)) (by decide) (fun K hK => ?_)
                          · skip
                            refine Kd.N_lit_step (Kd.slice 5 (Kd.int .u8)) _ 22 ?hg (N' := 61) ?hd (xs := ([x8_1] : List (List Int))) (inner := [.slice Ao36 x8_1.length co36]) (ok := fun _ => True) (okp := fun _ => True) ?hr ?hp (fun _ hk => hk) trivial (Below.refl _ _) (Nat.le_refl _) (by simp) ?_
                            case hd => rfl
                            case hg => rfl
                            case hr => first | (go_simp; done) | (go_simp; rfl)
                            case hp => exact Reps.one (Kd.FK_step hF3.out (fun k_ _ hk_ => hb0.out.block k_ hk_)) (Reps.none _ _)
                            intro v2 w2 ho hb hg_ hnew_
                            clear hg_ hnew_
                            rw [← Ny145.out] at ho
                            refine hK.out _ _ trivial (fun hHeld => ?_)
                            clear hK K
                            refine norm_ (a' := ?_) ?_ ?_
                            rotate_left
                            · show Act.put _ (some 61) _ = _
                              simp only [Act.put, List.setIfInBounds_toArray, List.set_cons_zero, List.set_cons_succ, i64_w, i32_w]
                              rfl
                            exact norm_ (by first | (simp only [putAll, Act.put, List.setIfInBounds_toArray, List.set_cons_zero, List.set_cons_succ]; done) | (simp only [putAll, Act.put, List.setIfInBounds_toArray, List.set_cons_zero, List.set_cons_succ]; rfl)) (hJ3_0123 (v0_, v1_, v2_, v2) _ ⟨hb0.out.trans (hb.mono hb0.out.size), Kd.N_lower ho hb0.out.size⟩)
                        refine join_ (σ := Value × Value × Value × Value) 10 #[true, true, true, true, true, true, true, true, true, false, false, true, true, true, true, false, false, true, true, false, false, false, false, false, false] (fun s_ => [(46, s_.1), (47, .int .u32 t126), (51, s_.2.1), (57, s_.2.2.1), (61, s_.2.2.2)]) (fun s_ w' => (Below w32.heap.size w32 w') ∧ (Kd.N (Kd.slice 5 (Kd.int .u8)) 22 w' w32.heap.size (fun _ => True) s_.2.1 y132) ∧ (Kd.N (Kd.slice 5 (Kd.int .u8)) 22 w' w32.heap.size (fun _ => True) s_.2.2.1 y141) ∧ (Kd.N (Kd.slice 5 (Kd.int .u8)) 22 w' w32.heap.size (fun _ => True) s_.2.2.2 y145)) ?_ (fun hJ1_0123 => ?_)
                        · rintro ⟨v0_, v1_, v2_, v3_⟩ w1 ⟨hb0, g1, g2, g3⟩
                          replace hb0 := Aside0.mk hb0
                          replace g1 := Aside0.mk g1
                          replace g2 := Aside0.mk g2
                          replace g3 := Aside0.mk g3
                          obtain ⟨Aoc, coc, eoc⟩ := Kd.N_slice g1.out
                          subst eoc
                          refine norm_ (a' := ?_) ?_ ?_
                          rotate_left
                          · simp only [putAll, Act.put, List.setIfInBounds_toArray, List.set_cons_zero, List.set_cons_succ]
                            rfl
                          refine one_ (i := 9) (N := some 52) #[true, true, true, true, true, true, true, true, true, true, false, true, true, true, true, false, false, true, true, false, false, false, false, false, false] rfl rfl (one_of HT_.out (by kernel_rfl)) (by decide) (fun K hK => ?_)
                          · skip
                            refine goes_ Try.func10 (by kernel_rfl) rfl #[.slice Aoc y132.length coc] (by rfl) rfl rfl (by (try simp only [List.map_toArray, List.map_cons, List.map_nil]); first | done | rfl | (simp only [List.length_drop, List.length_take]; rfl)) ?_
                            with_reducible refine (crc_Sum.calls k1 _ _ y132 t135 _ ?side1 ?side2 A25.out).mono ?_
                            case side1 => exact (Kd.N_reads' g1.out).2.2
                            case side2 => exact (Kd.N_reads' g1.out).2.1
                            rintro e w2 ⟨rfl, hb⟩
                            refine ⟨_, rfl, ?_⟩
                            refine hK.out _ _ trivial (fun hHeld => ?_)
                            clear hK K
                            refine norm_ (a' := ?_) ?_ ?_
                            rotate_left
                            · show Act.put _ (some 52) _ = _
                              simp only [Act.put, List.setIfInBounds_toArray, List.set_cons_zero, List.set_cons_succ, i64_w, i32_w]
                              rfl
                            refine pure_ (i := 10) (N := some 53) (v := ?_) (a' := ?_) #[true, true, true, true, true, true, true, true, true, true, true, true, true, true, true, false, false, true, true, false, false, false, false, false, false] rfl rfl (any_of HT_.out (by kernel_rfl)) (fun _ _ _ h => h) (Or.inl ⟨by rfl, ?_⟩) ?_ ?_
                            rotate_left
                            · intro w'
                              go_simp
                              with_reducible rfl
                            rotate_left
                            · simp only [Act.put, List.setIfInBounds_toArray, List.set_cons_zero, List.set_cons_succ, i64_w, i32_w]
                              rfl
                            exact norm_ (by first | (simp only [putAll, Act.put, List.setIfInBounds_toArray, List.set_cons_zero, List.set_cons_succ]; done) | (simp only [putAll, Act.put, List.setIfInBounds_toArray, List.set_cons_zero, List.set_cons_succ]; rfl)) (hJ2_0123 (v0_, .slice Aoc y132.length coc, v2_, v3_) _ ⟨hb0.out.trans (hb.mono hb0.out.size), Kd.N_below g2.out hb, Kd.N_below g3.out hb⟩)
                        refine join_ (σ := Value × Value × Value) 9 #[true, true, true, true, true, true, true, true, true, true, true, true, true, true, true, false, false, true, false, false, false, false, false, false, false] (fun s_ => [(46, s_.1), (47, .int .u32 t126), (51, s_.2.1), (52, .int .u32 t135), (53, .int .u32 (Go.bits .xor .u32 t126 t135)), (57, s_.2.2)]) (fun s_ w' => (Below w32.heap.size w32 w') ∧ (Kd.N (Kd.slice 5 (Kd.int .u8)) 22 w' w32.heap.size (fun _ => True) s_.2.2 y141)) ?_ (fun hJ2_012 => ?_)
                        · rintro ⟨v0_, v1_, v2_⟩ w1 ⟨hb0, g2⟩
                          replace hb0 := Aside0.mk hb0
                          replace g2 := Aside0.mk g2
                          obtain ⟨Aoc, coc, eoc⟩ := Kd.N_slice g2.out
                          subst eoc
                          refine norm_ (a' := ?_) ?_ ?_
                          rotate_left
                          · simp only [putAll, Act.put, List.setIfInBounds_toArray, List.set_cons_zero, List.set_cons_succ]
                            rfl
                          refine two_ (i := 15) (j := 18) (Ni := some 58) (Nj := some 61) #[true, true, true, true, true, true, true, true, true, true, true, true, true, true, true, true, false, true, false, false, false, false, false, false, false] #[true, true, true, true, true, true, true, true, true, true, true, true, true, true, true, false, false, true, true, false, false, false, false, false, false] rfl rfl rfl rfl (two_of HT_.out (by kernel_rfl)) (by decide) (by decide) (fun K hK => ?_) (fun K hK => ?_)
                          · skip
                            refine goes_ Try.func10 (by kernel_rfl) rfl #[.slice Aoc y141.length coc] (by rfl) rfl rfl (by (try simp only [List.map_toArray, List.map_cons, List.map_nil]); first | done | rfl | (simp only [List.length_drop, List.length_take]; rfl)) ?_
                            with_reducible refine (crc_Sum.calls k1 _ _ y141 t144 _ ?side1 ?side2 A28.out).mono ?_
                            case side1 => exact (Kd.N_reads' g2.out).2.2
                            case side2 => exact (Kd.N_reads' g2.out).2.1
                            rintro e w2 ⟨rfl, hb⟩
                            refine ⟨_, rfl, ?_⟩
                            refine hK.out _ _ trivial (fun hHeld => ?_)
                            clear hK K
                            refine norm_ (a' := ?_) ?_ ?_
                            rotate_left
                            · show Act.put _ (some 58) _ = _
                              simp only [Act.put, List.setIfInBounds_toArray, List.set_cons_zero, List.set_cons_succ, i64_w, i32_w]
                              rfl
                            refine pure_ (i := 16) (N := some 59) (v := ?_) (a' := ?_) #[true, true, true, true, true, true, true, true, true, true, true, true, true, true, true, true, true, true, false, false, false, false, false, false, false] rfl rfl (any_of HT_.out (by kernel_rfl)) (fun _ _ _ h => h) (Or.inl ⟨by rfl, ?_⟩) ?_ ?_
                            rotate_left
                            · intro w'
                              go_simp
                              with_reducible rfl
                            rotate_left
                            · simp only [Act.put, List.setIfInBounds_toArray, List.set_cons_zero, List.set_cons_succ, i64_w, i32_w]
                              rfl
                            exact norm_ (by first | (simp only [putAll, Act.put, List.setIfInBounds_toArray, List.set_cons_zero, List.set_cons_succ]; done) | (simp only [putAll, Act.put, List.setIfInBounds_toArray, List.set_cons_zero, List.set_cons_succ]; rfl)) (hJ3_012 (v0_, v1_, .slice Aoc y141.length coc) _ (hb0.out.trans (hb.mono hb0.out.size)))
                          · skip
                            refine Kd.N_lit_step (Kd.slice 5 (Kd.int .u8)) _ 22 ?hg (N' := 61) ?hd (xs := ([x8_1] : List (List Int))) (inner := [.slice Ao36 x8_1.length co36]) (ok := fun _ => True) (okp := fun _ => True) ?hr ?hp (fun _ hk => hk) trivial (Below.refl _ _) (Nat.le_refl _) (by simp) ?_
                            case hd => rfl
                            case hg => rfl
                            case hr => first | (go_simp; done) | (go_simp; rfl)
                            case hp => exact Reps.one (Kd.FK_step hF3.out (fun k_ _ hk_ => hb0.out.block k_ hk_)) (Reps.none _ _)
                            intro v2 w2 ho hb hg_ hnew_
                            clear hg_ hnew_
                            rw [← Ny145.out] at ho
                            refine hK.out _ _ trivial (fun hHeld => ?_)
                            clear hK K
                            refine norm_ (a' := ?_) ?_ ?_
                            rotate_left
                            · show Act.put _ (some 61) _ = _
                              simp only [Act.put, List.setIfInBounds_toArray, List.set_cons_zero, List.set_cons_succ, i64_w, i32_w]
                              rfl
                            exact norm_ (by first | (simp only [putAll, Act.put, List.setIfInBounds_toArray, List.set_cons_zero, List.set_cons_succ]; done) | (simp only [putAll, Act.put, List.setIfInBounds_toArray, List.set_cons_zero, List.set_cons_succ]; rfl)) (hJ2_0123 (v0_, v1_, .slice Aoc y141.length coc, v2) _ ⟨hb0.out.trans (hb.mono hb0.out.size), Kd.N_below g2.out hb, Kd.N_lower ho hb0.out.size⟩)
                        refine join_ (σ := Value × Value × Value) 9 #[true, true, true, true, true, true, true, true, true, true, true, true, true, true, false, false, false, true, true, false, false, false, false, false, false] (fun s_ => [(46, s_.1), (47, .int .u32 t126), (51, s_.2.1), (52, .int .u32 t135), (53, .int .u32 (Go.bits .xor .u32 t126 t135)), (61, s_.2.2)]) (fun s_ w' => (Below w32.heap.size w32 w') ∧ (Kd.N (Kd.slice 5 (Kd.int .u8)) 22 w' w32.heap.size (fun _ => True) s_.2.2 y145)) ?_ (fun hJ2_013 => ?_)
                        · rintro ⟨v0_, v1_, v3_⟩ w1 ⟨hb0, g3⟩
                          replace hb0 := Aside0.mk hb0
                          replace g3 := Aside0.mk g3
                          refine norm_ (a' := ?_) ?_ ?_
                          rotate_left
                          · simp only [putAll, Act.put, List.setIfInBounds_toArray, List.set_cons_zero, List.set_cons_succ]
                            rfl
                          refine one_ (i := 14) (N := some 57) #[true, true, true, true, true, true, true, true, true, true, true, true, true, true, true, false, false, true, true, false, false, false, false, false, false] rfl rfl (one_of HT_.out (by kernel_rfl)) (by decide) (fun K hK => ?_)
                          · skip
                            refine Kd.N_lit_step (Kd.slice 5 (Kd.int .u8)) _ 22 ?hg (N' := 57) ?hd (xs := ([y136] : List (List Int))) (inner := [.slice A2 y136.length c2]) (ok := fun _ => True) (okp := fun _ => True) ?hr ?hp (fun _ hk => hk) trivial (Below.refl _ _) (Nat.le_refl _) (by simp) ?_
                            case hd => rfl
                            case hg => rfl
                            case hr => first | (go_simp; done) | (go_simp; rfl)
                            case hp => exact Reps.one (Kd.FK_step hF2.out (fun k_ _ hk_ => hb0.out.block k_ hk_)) (Reps.none _ _)
                            intro v2 w2 ho hb hg_ hnew_
                            clear hg_ hnew_
                            rw [← Ny141.out] at ho
                            refine hK.out _ _ trivial (fun hHeld => ?_)
                            clear hK K
                            refine norm_ (a' := ?_) ?_ ?_
                            rotate_left
                            · show Act.put _ (some 57) _ = _
                              simp only [Act.put, List.setIfInBounds_toArray, List.set_cons_zero, List.set_cons_succ, i64_w, i32_w]
                              rfl
                            exact norm_ (by first | (simp only [putAll, Act.put, List.setIfInBounds_toArray, List.set_cons_zero, List.set_cons_succ]; done) | (simp only [putAll, Act.put, List.setIfInBounds_toArray, List.set_cons_zero, List.set_cons_succ]; rfl)) (hJ2_0123 (v0_, v1_, v2, v3_) _ ⟨hb0.out.trans (hb.mono hb0.out.size), Kd.N_lower ho hb0.out.size, Kd.N_below g3.out hb⟩)
                        refine join_ (σ := Value × Value × Value × Value) 11 #[true, true, true, true, false, true, true, true, true, false, false, true, true, true, true, false, false, true, true, false, false, false, false, false, false] (fun s_ => [(46, s_.1), (51, s_.2.1), (57, s_.2.2.1), (61, s_.2.2.2)]) (fun s_ w' => (Below w32.heap.size w32 w') ∧ (Kd.N (Kd.slice 5 (Kd.int .u8)) 22 w' w32.heap.size (fun _ => True) s_.1 y123) ∧ (Kd.N (Kd.slice 5 (Kd.int .u8)) 22 w' w32.heap.size (fun _ => True) s_.2.1 y132) ∧ (Kd.N (Kd.slice 5 (Kd.int .u8)) 22 w' w32.heap.size (fun _ => True) s_.2.2.1 y141) ∧ (Kd.N (Kd.slice 5 (Kd.int .u8)) 22 w' w32.heap.size (fun _ => True) s_.2.2.2 y145)) ?_ (fun hJ0_0123 => ?_)
                        · rintro ⟨v0_, v1_, v2_, v3_⟩ w1 ⟨hb0, g0, g1, g2, g3⟩
                          replace hb0 := Aside0.mk hb0
                          replace g0 := Aside0.mk g0
                          replace g1 := Aside0.mk g1
                          replace g2 := Aside0.mk g2
                          replace g3 := Aside0.mk g3
                          obtain ⟨Aoc, coc, eoc⟩ := Kd.N_slice g0.out
                          subst eoc
                          refine norm_ (a' := ?_) ?_ ?_
                          rotate_left
                          · simp only [putAll, Act.put, List.setIfInBounds_toArray, List.set_cons_zero, List.set_cons_succ]
                            rfl
                          refine one_ (i := 4) (N := some 47) #[true, true, true, true, true, true, true, true, true, false, false, true, true, true, true, false, false, true, true, false, false, false, false, false, false] rfl rfl (one_of HT_.out (by kernel_rfl)) (by decide) (fun K hK => ?_)
                          · skip
                            refine goes_ Try.func10 (by kernel_rfl) rfl #[.slice Aoc y123.length coc] (by rfl) rfl rfl (by (try simp only [List.map_toArray, List.map_cons, List.map_nil]); first | done | rfl | (simp only [List.length_drop, List.length_take]; rfl)) ?_
                            with_reducible refine (crc_Sum.calls k1 _ _ y123 t126 _ ?side1 ?side2 A22.out).mono ?_
                            case side1 => exact (Kd.N_reads' g0.out).2.2
                            case side2 => exact (Kd.N_reads' g0.out).2.1
                            rintro e w2 ⟨rfl, hb⟩
                            refine ⟨_, rfl, ?_⟩
                            refine hK.out _ _ trivial (fun hHeld => ?_)
                            clear hK K
                            refine norm_ (a' := ?_) ?_ ?_
                            rotate_left
                            · show Act.put _ (some 47) _ = _
                              simp only [Act.put, List.setIfInBounds_toArray, List.set_cons_zero, List.set_cons_succ, i64_w, i32_w]
                              rfl
                            exact norm_ (by first | (simp only [putAll, Act.put, List.setIfInBounds_toArray, List.set_cons_zero, List.set_cons_succ]; done) | (simp only [putAll, Act.put, List.setIfInBounds_toArray, List.set_cons_zero, List.set_cons_succ]; rfl)) (hJ1_0123 (.slice Aoc y123.length coc, v1_, v2_, v3_) _ ⟨hb0.out.trans (hb.mono hb0.out.size), Kd.N_below g1.out hb, Kd.N_below g2.out hb, Kd.N_below g3.out hb⟩)
                        refine join_ (σ := Value × Value × Value) 11 #[true, true, true, true, true, true, true, true, true, false, false, true, true, true, true, false, false, true, false, false, false, false, false, false, false] (fun s_ => [(46, s_.1), (47, .int .u32 t126), (51, s_.2.1), (57, s_.2.2)]) (fun s_ w' => (Below w32.heap.size w32 w') ∧ (Kd.N (Kd.slice 5 (Kd.int .u8)) 22 w' w32.heap.size (fun _ => True) s_.2.1 y132) ∧ (Kd.N (Kd.slice 5 (Kd.int .u8)) 22 w' w32.heap.size (fun _ => True) s_.2.2 y141)) ?_ (fun hJ1_012 => ?_)
                        · rintro ⟨v0_, v1_, v2_⟩ w1 ⟨hb0, g1, g2⟩
                          replace hb0 := Aside0.mk hb0
                          replace g1 := Aside0.mk g1
                          replace g2 := Aside0.mk g2
                          obtain ⟨Aoc, coc, eoc⟩ := Kd.N_slice g1.out
                          subst eoc
                          refine norm_ (a' := ?_) ?_ ?_
                          rotate_left
                          · simp only [putAll, Act.put, List.setIfInBounds_toArray, List.set_cons_zero, List.set_cons_succ]
                            rfl
                          refine two_ (i := 9) (j := 18) (Ni := some 52) (Nj := some 61) #[true, true, true, true, true, true, true, true, true, true, false, true, true, true, true, false, false, true, false, false, false, false, false, false, false] #[true, true, true, true, true, true, true, true, true, false, false, true, true, true, true, false, false, true, true, false, false, false, false, false, false] rfl rfl rfl rfl (two_of HT_.out (by kernel_rfl)) (by decide) (by decide) (fun K hK => ?_) (fun K hK => ?_)
                          · skip
                            refine goes_ Try.func10 (by kernel_rfl) rfl #[.slice Aoc y132.length coc] (by rfl) rfl rfl (by (try simp only [List.map_toArray, List.map_cons, List.map_nil]); first | done | rfl | (simp only [List.length_drop, List.length_take]; rfl)) ?_
                            with_reducible refine (crc_Sum.calls k1 _ _ y132 t135 _ ?side1 ?side2 A25.out).mono ?_
                            case side1 => exact (Kd.N_reads' g1.out).2.2
                            case side2 => exact (Kd.N_reads' g1.out).2.1
                            rintro e w2 ⟨rfl, hb⟩
                            refine ⟨_, rfl, ?_⟩
                            refine hK.out _ _ trivial (fun hHeld => ?_)
                            clear hK K
                            refine norm_ (a' := ?_) ?_ ?_
                            rotate_left
                            · show Act.put _ (some 52) _ = _
                              simp only [Act.put, List.setIfInBounds_toArray, List.set_cons_zero, List.set_cons_succ, i64_w, i32_w]
                              rfl
                            refine pure_ (i := 10) (N := some 53) (v := ?_) (a' := ?_) #[true, true, true, true, true, true, true, true, true, true, true, true, true, true, true, false, false, true, false, false, false, false, false, false, false] rfl rfl (any_of HT_.out (by kernel_rfl)) (fun _ _ _ h => h) (Or.inl ⟨by rfl, ?_⟩) ?_ ?_
                            rotate_left
                            · intro w'
                              go_simp
                              with_reducible rfl
                            rotate_left
                            · simp only [Act.put, List.setIfInBounds_toArray, List.set_cons_zero, List.set_cons_succ, i64_w, i32_w]
                              rfl
                            exact norm_ (by first | (simp only [putAll, Act.put, List.setIfInBounds_toArray, List.set_cons_zero, List.set_cons_succ]; done) | (simp only [putAll, Act.put, List.setIfInBounds_toArray, List.set_cons_zero, List.set_cons_succ]; rfl)) (hJ2_012 (v0_, .slice Aoc y132.length coc, v2_) _ ⟨hb0.out.trans (hb.mono hb0.out.size), Kd.N_below g2.out hb⟩)
                          · skip
                            refine Kd.N_lit_step (Kd.slice 5 (Kd.int .u8)) _ 22 ?hg (N' := 61) ?hd (xs := ([x8_1] : List (List Int))) (inner := [.slice Ao36 x8_1.length co36]) (ok := fun _ => True) (okp := fun _ => True) ?hr ?hp (fun _ hk => hk) trivial (Below.refl _ _) (Nat.le_refl _) (by simp) ?_
                            case hd => rfl
                            case hg => rfl
                            case hr => first | (go_simp; done) | (go_simp; rfl)
                            case hp => exact Reps.one (Kd.FK_step hF3.out (fun k_ _ hk_ => hb0.out.block k_ hk_)) (Reps.none _ _)
                            intro v2 w2 ho hb hg_ hnew_
                            clear hg_ hnew_
                            rw [← Ny145.out] at ho
                            refine hK.out _ _ trivial (fun hHeld => ?_)
                            clear hK K
                            refine norm_ (a' := ?_) ?_ ?_
                            rotate_left
                            · show Act.put _ (some 61) _ = _
                              simp only [Act.put, List.setIfInBounds_toArray, List.set_cons_zero, List.set_cons_succ, i64_w, i32_w]
                              rfl
                            exact norm_ (by first | (simp only [putAll, Act.put, List.setIfInBounds_toArray, List.set_cons_zero, List.set_cons_succ]; done) | (simp only [putAll, Act.put, List.setIfInBounds_toArray, List.set_cons_zero, List.set_cons_succ]; rfl)) (hJ1_0123 (v0_, .slice Aoc y132.length coc, v2_, v2) _ ⟨hb0.out.trans (hb.mono hb0.out.size), Kd.N_below g1.out hb, Kd.N_below g2.out hb, Kd.N_lower ho hb0.out.size⟩)
                        refine join_ (σ := Value × Value × Value) 11 #[true, true, true, true, true, true, true, true, true, false, false, true, true, true, false, false, false, true, true, false, false, false, false, false, false] (fun s_ => [(46, s_.1), (47, .int .u32 t126), (51, s_.2.1), (61, s_.2.2)]) (fun s_ w' => (Below w32.heap.size w32 w') ∧ (Kd.N (Kd.slice 5 (Kd.int .u8)) 22 w' w32.heap.size (fun _ => True) s_.2.1 y132) ∧ (Kd.N (Kd.slice 5 (Kd.int .u8)) 22 w' w32.heap.size (fun _ => True) s_.2.2 y145)) ?_ (fun hJ1_013 => ?_)
                        · rintro ⟨v0_, v1_, v3_⟩ w1 ⟨hb0, g1, g3⟩
                          replace hb0 := Aside0.mk hb0
                          replace g1 := Aside0.mk g1
                          replace g3 := Aside0.mk g3
                          obtain ⟨Aoc, coc, eoc⟩ := Kd.N_slice g1.out
                          subst eoc
                          refine norm_ (a' := ?_) ?_ ?_
                          rotate_left
                          · simp only [putAll, Act.put, List.setIfInBounds_toArray, List.set_cons_zero, List.set_cons_succ]
                            rfl
                          refine two_ (i := 9) (j := 14) (Ni := some 52) (Nj := some 57) #[true, true, true, true, true, true, true, true, true, true, false, true, true, true, false, false, false, true, true, false, false, false, false, false, false] #[true, true, true, true, true, true, true, true, true, false, false, true, true, true, true, false, false, true, true, false, false, false, false, false, false] rfl rfl rfl rfl (two_of HT_.out (by kernel_rfl)) (by decide) (by decide) (fun K hK => ?_) (fun K hK => ?_)
                          · skip
                            refine goes_ Try.func10 (by kernel_rfl) rfl #[.slice Aoc y132.length coc] (by rfl) rfl rfl (by (try simp only [List.map_toArray, List.map_cons, List.map_nil]); first | done | rfl | (simp only [List.length_drop, List.length_take]; rfl)) ?_
                            with_reducible refine (crc_Sum.calls k1 _ _ y132 t135 _ ?side1 ?side2 A25.out).mono ?_
                            case side1 => exact (Kd.N_reads' g1.out).2.2
                            case side2 => exact (Kd.N_reads' g1.out).2.1
                            rintro e w2 ⟨rfl, hb⟩
                            refine ⟨_, rfl, ?_⟩
                            refine hK.out _ _ trivial (fun hHeld => ?_)
                            clear hK K
                            refine norm_ (a' := ?_) ?_ ?_
                            rotate_left
                            · show Act.put _ (some 52) _ = _
                              simp only [Act.put, List.setIfInBounds_toArray, List.set_cons_zero, List.set_cons_succ, i64_w, i32_w]
                              rfl
                            refine pure_ (i := 10) (N := some 53) (v := ?_) (a' := ?_) #[true, true, true, true, true, true, true, true, true, true, true, true, true, true, false, false, false, true, true, false, false, false, false, false, false] rfl rfl (any_of HT_.out (by kernel_rfl)) (fun _ _ _ h => h) (Or.inl ⟨by rfl, ?_⟩) ?_ ?_
                            rotate_left
                            · intro w'
                              go_simp
                              with_reducible rfl
                            rotate_left
                            · simp only [Act.put, List.setIfInBounds_toArray, List.set_cons_zero, List.set_cons_succ, i64_w, i32_w]
                              rfl
                            exact norm_ (by first | (simp only [putAll, Act.put, List.setIfInBounds_toArray, List.set_cons_zero, List.set_cons_succ]; done) | (simp only [putAll, Act.put, List.setIfInBounds_toArray, List.set_cons_zero, List.set_cons_succ]; rfl)) (hJ2_013 (v0_, .slice Aoc y132.length coc, v3_) _ ⟨hb0.out.trans (hb.mono hb0.out.size), Kd.N_below g3.out hb⟩)
                          · skip
                            refine Kd.N_lit_step (Kd.slice 5 (Kd.int .u8)) _ 22 ?hg (N' := 57) ?hd (xs := ([y136] : List (List Int))) (inner := [.slice A2 y136.length c2]) (ok := fun _ => True) (okp := fun _ => True) ?hr ?hp (fun _ hk => hk) trivial (Below.refl _ _) (Nat.le_refl _) (by simp) ?_
                            case hd => rfl
                            case hg => rfl
                            case hr => first | (go_simp; done) | (go_simp; rfl)
                            case hp => exact Reps.one (Kd.FK_step hF2.out (fun k_ _ hk_ => hb0.out.block k_ hk_)) (Reps.none _ _)
                            intro v2 w2 ho hb hg_ hnew_
                            clear hg_ hnew_
                            rw [← Ny141.out] at ho
                            refine hK.out _ _ trivial (fun hHeld => ?_)
                            clear hK K
                            refine norm_ (a' := ?_) ?_ ?_
                            rotate_left
                            · show Act.put _ (some 57) _ = _
                              simp only [Act.put, List.setIfInBounds_toArray, List.set_cons_zero, List.set_cons_succ, i64_w, i32_w]
                              rfl
                            exact norm_ (by first | (simp only [putAll, Act.put, List.setIfInBounds_toArray, List.set_cons_zero, List.set_cons_succ]; done) | (simp only [putAll, Act.put, List.setIfInBounds_toArray, List.set_cons_zero, List.set_cons_succ]; rfl)) (hJ1_0123 (v0_, .slice Aoc y132.length coc, v2, v3_) _ ⟨hb0.out.trans (hb.mono hb0.out.size), Kd.N_below g1.out hb, Kd.N_lower ho hb0.out.size, Kd.N_below g3.out hb⟩)
                        refine join_ (σ := Value × Value × Value) 11 #[true, true, true, true, true, true, true, true, false, false, false, true, true, true, true, false, false, true, true, false, false, false, false, false, false] (fun s_ => [(46, s_.1), (47, .int .u32 t126), (57, s_.2.1), (61, s_.2.2)]) (fun s_ w' => (Below w32.heap.size w32 w') ∧ (Kd.N (Kd.slice 5 (Kd.int .u8)) 22 w' w32.heap.size (fun _ => True) s_.2.1 y141) ∧ (Kd.N (Kd.slice 5 (Kd.int .u8)) 22 w' w32.heap.size (fun _ => True) s_.2.2 y145)) ?_ (fun hJ1_023 => ?_)
                        · rintro ⟨v0_, v2_, v3_⟩ w1 ⟨hb0, g2, g3⟩
                          replace hb0 := Aside0.mk hb0
                          replace g2 := Aside0.mk g2
                          replace g3 := Aside0.mk g3
                          refine norm_ (a' := ?_) ?_ ?_
                          rotate_left
                          · simp only [putAll, Act.put, List.setIfInBounds_toArray, List.set_cons_zero, List.set_cons_succ]
                            rfl
                          refine one_ (i := 8) (N := some 51) #[true, true, true, true, true, true, true, true, true, false, false, true, true, true, true, false, false, true, true, false, false, false, false, false, false] rfl rfl (one_of HT_.out (by kernel_rfl)) (by decide) (fun K hK => ?_)
                          · skip
                            refine Kd.N_lit_step (Kd.slice 5 (Kd.int .u8)) _ 22 ?hg (N' := 51) ?hd (xs := ([y127] : List (List Int))) (inner := [.slice A1 y127.length c1]) (ok := fun _ => True) (okp := fun _ => True) ?hr ?hp (fun _ hk => hk) trivial (Below.refl _ _) (Nat.le_refl _) (by simp) ?_
                            case hd => rfl
                            case hg => rfl
                            case hr => first | (go_simp; done) | (go_simp; rfl)
                            case hp => exact Reps.one (Kd.FK_step hF1.out (fun k_ _ hk_ => hb0.out.block k_ hk_)) (Reps.none _ _)
                            intro v2 w2 ho hb hg_ hnew_
                            clear hg_ hnew_
                            rw [← Ny132.out] at ho
                            refine hK.out _ _ trivial (fun hHeld => ?_)
                            clear hK K
                            refine norm_ (a' := ?_) ?_ ?_
                            rotate_left
                            · show Act.put _ (some 51) _ = _
                              simp only [Act.put, List.setIfInBounds_toArray, List.set_cons_zero, List.set_cons_succ, i64_w, i32_w]
                              rfl
                            exact norm_ (by first | (simp only [putAll, Act.put, List.setIfInBounds_toArray, List.set_cons_zero, List.set_cons_succ]; done) | (simp only [putAll, Act.put, List.setIfInBounds_toArray, List.set_cons_zero, List.set_cons_succ]; rfl)) (hJ1_0123 (v0_, v2, v2_, v3_) _ ⟨hb0.out.trans (hb.mono hb0.out.size), Kd.N_lower ho hb0.out.size, Kd.N_below g2.out hb, Kd.N_below g3.out hb⟩)
                        refine join_ (σ := Value × Value) 10 #[true, true, true, true, true, true, true, true, true, true, true, true, true, true, false, false, false, true, false, false, false, false, false, false, false] (fun s_ => [(46, s_.1), (47, .int .u32 t126), (51, s_.2), (52, .int .u32 t135), (53, .int .u32 (Go.bits .xor .u32 t126 t135))]) (fun s_ w' => (Below w32.heap.size w32 w')) ?_ (fun hJ2_01 => ?_)
                        · rintro ⟨v0_, v1_⟩ w1 hb0
                          replace hb0 := Aside0.mk hb0
                          refine norm_ (a' := ?_) ?_ ?_
                          rotate_left
                          · simp only [putAll, Act.put, List.setIfInBounds_toArray, List.set_cons_zero, List.set_cons_succ]
                            rfl
                          refine two_ (i := 14) (j := 18) (Ni := some 57) (Nj := some 61) #[true, true, true, true, true, true, true, true, true, true, true, true, true, true, true, false, false, true, false, false, false, false, false, false, false] #[true, true, true, true, true, true, true, true, true, true, true, true, true, true, false, false, false, true, true, false, false, false, false, false, false] rfl rfl rfl rfl (two_of HT_.out (by kernel_rfl)) (by decide) (by decide) (fun K hK => ?_) (fun K hK => ?_)
                          · skip
                            refine Kd.N_lit_step (Kd.slice 5 (Kd.int .u8)) _ 22 ?hg (N' := 57) ?hd (xs := ([y136] : List (List Int))) (inner := [.slice A2 y136.length c2]) (ok := fun _ => True) (okp := fun _ => True) ?hr ?hp (fun _ hk => hk) trivial (Below.refl _ _) (Nat.le_refl _) (by simp) ?_
                            case hd => rfl
                            case hg => rfl
                            case hr => first | (go_simp; done) | (go_simp; rfl)
                            case hp => exact Reps.one (Kd.FK_step hF2.out (fun k_ _ hk_ => hb0.out.block k_ hk_)) (Reps.none _ _)
                            intro v2 w2 ho hb hg_ hnew_
                            clear hg_ hnew_
                            rw [← Ny141.out] at ho
                            refine hK.out _ _ trivial (fun hHeld => ?_)
                            clear hK K
                            refine norm_ (a' := ?_) ?_ ?_
                            rotate_left
                            · show Act.put _ (some 57) _ = _
                              simp only [Act.put, List.setIfInBounds_toArray, List.set_cons_zero, List.set_cons_succ, i64_w, i32_w]
                              rfl
                            exact norm_ (by first | (simp only [putAll, Act.put, List.setIfInBounds_toArray, List.set_cons_zero, List.set_cons_succ]; done) | (simp only [putAll, Act.put, List.setIfInBounds_toArray, List.set_cons_zero, List.set_cons_succ]; rfl)) (hJ2_012 (v0_, v1_, v2) _ ⟨hb0.out.trans (hb.mono hb0.out.size), Kd.N_lower ho hb0.out.size⟩)
                          · skip
                            refine Kd.N_lit_step (Kd.slice 5 (Kd.int .u8)) _ 22 ?hg (N' := 61) ?hd (xs := ([x8_1] : List (List Int))) (inner := [.slice Ao36 x8_1.length co36]) (ok := fun _ => True) (okp := fun _ => True) ?hr ?hp (fun _ hk => hk) trivial (Below.refl _ _) (Nat.le_refl _) (by simp) ?_
                            case hd => rfl
                            case hg => rfl
                            case hr => first | (go_simp; done) | (go_simp; rfl)
                            case hp => exact Reps.one (Kd.FK_step hF3.out (fun k_ _ hk_ => hb0.out.block k_ hk_)) (Reps.none _ _)
                            intro v2 w2 ho hb hg_ hnew_
                            clear hg_ hnew_
                            rw [← Ny145.out] at ho
                            refine hK.out _ _ trivial (fun hHeld => ?_)
                            clear hK K
                            refine norm_ (a' := ?_) ?_ ?_
                            rotate_left
                            · show Act.put _ (some 61) _ = _
                              simp only [Act.put, List.setIfInBounds_toArray, List.set_cons_zero, List.set_cons_succ, i64_w, i32_w]
                              rfl
                            exact norm_ (by first | (simp only [putAll, Act.put, List.setIfInBounds_toArray, List.set_cons_zero, List.set_cons_succ]; done) | (simp only [putAll, Act.put, List.setIfInBounds_toArray, List.set_cons_zero, List.set_cons_succ]; rfl)) (hJ2_013 (v0_, v1_, v2) _ ⟨hb0.out.trans (hb.mono hb0.out.size), Kd.N_lower ho hb0.out.size⟩)
                        refine join_ (σ := Value × Value × Value) 12 #[true, true, true, true, false, true, true, true, true, false, false, true, true, true, true, false, false, true, false, false, false, false, false, false, false] (fun s_ => [(46, s_.1), (51, s_.2.1), (57, s_.2.2)]) (fun s_ w' => (Below w32.heap.size w32 w') ∧ (Kd.N (Kd.slice 5 (Kd.int .u8)) 22 w' w32.heap.size (fun _ => True) s_.1 y123) ∧ (Kd.N (Kd.slice 5 (Kd.int .u8)) 22 w' w32.heap.size (fun _ => True) s_.2.1 y132) ∧ (Kd.N (Kd.slice 5 (Kd.int .u8)) 22 w' w32.heap.size (fun _ => True) s_.2.2 y141)) ?_ (fun hJ0_012 => ?_)
                        · rintro ⟨v0_, v1_, v2_⟩ w1 ⟨hb0, g0, g1, g2⟩
                          replace hb0 := Aside0.mk hb0
                          replace g0 := Aside0.mk g0
                          replace g1 := Aside0.mk g1
                          replace g2 := Aside0.mk g2
                          obtain ⟨Aoc, coc, eoc⟩ := Kd.N_slice g0.out
                          subst eoc
                          refine norm_ (a' := ?_) ?_ ?_
                          rotate_left
                          · simp only [putAll, Act.put, List.setIfInBounds_toArray, List.set_cons_zero, List.set_cons_succ]
                            rfl
                          refine two_ (i := 4) (j := 18) (Ni := some 47) (Nj := some 61) #[true, true, true, true, true, true, true, true, true, false, false, true, true, true, true, false, false, true, false, false, false, false, false, false, false] #[true, true, true, true, false, true, true, true, true, false, false, true, true, true, true, false, false, true, true, false, false, false, false, false, false] rfl rfl rfl rfl (two_of HT_.out (by kernel_rfl)) (by decide) (by decide) (fun K hK => ?_) (fun K hK => ?_)
                          · skip
                            refine goes_ Try.func10 (by kernel_rfl) rfl #[.slice Aoc y123.length coc] (by rfl) rfl rfl (by (try simp only [List.map_toArray, List.map_cons, List.map_nil]); first | done | rfl | (simp only [List.length_drop, List.length_take]; rfl)) ?_
                            with_reducible refine (crc_Sum.calls k1 _ _ y123 t126 _ ?side1 ?side2 A22.out).mono ?_
                            case side1 => exact (Kd.N_reads' g0.out).2.2
                            case side2 => exact (Kd.N_reads' g0.out).2.1
                            rintro e w2 ⟨rfl, hb⟩
                            refine ⟨_, rfl, ?_⟩
                            refine hK.out _ _ trivial (fun hHeld => ?_)
                            clear hK K
                            refine norm_ (a' := ?_) ?_ ?_
                            rotate_left
                            · show Act.put _ (some 47) _ = _
                              simp only [Act.put, List.setIfInBounds_toArray, List.set_cons_zero, List.set_cons_succ, i64_w, i32_w]
                              rfl
                            exact norm_ (by first | (simp only [putAll, Act.put, List.setIfInBounds_toArray, List.set_cons_zero, List.set_cons_succ]; done) | (simp only [putAll, Act.put, List.setIfInBounds_toArray, List.set_cons_zero, List.set_cons_succ]; rfl)) (hJ1_012 (.slice Aoc y123.length coc, v1_, v2_) _ ⟨hb0.out.trans (hb.mono hb0.out.size), Kd.N_below g1.out hb, Kd.N_below g2.out hb⟩)
                          · skip
                            refine Kd.N_lit_step (Kd.slice 5 (Kd.int .u8)) _ 22 ?hg (N' := 61) ?hd (xs := ([x8_1] : List (List Int))) (inner := [.slice Ao36 x8_1.length co36]) (ok := fun _ => True) (okp := fun _ => True) ?hr ?hp (fun _ hk => hk) trivial (Below.refl _ _) (Nat.le_refl _) (by simp) ?_
                            case hd => rfl
                            case hg => rfl
                            case hr => first | (go_simp; done) | (go_simp; rfl)
                            case hp => exact Reps.one (Kd.FK_step hF3.out (fun k_ _ hk_ => hb0.out.block k_ hk_)) (Reps.none _ _)
                            intro v2 w2 ho hb hg_ hnew_
                            clear hg_ hnew_
                            rw [← Ny145.out] at ho
                            refine hK.out _ _ trivial (fun hHeld => ?_)
                            clear hK K
                            refine norm_ (a' := ?_) ?_ ?_
                            rotate_left
                            · show Act.put _ (some 61) _ = _
                              simp only [Act.put, List.setIfInBounds_toArray, List.set_cons_zero, List.set_cons_succ, i64_w, i32_w]
                              rfl
                            exact norm_ (by first | (simp only [putAll, Act.put, List.setIfInBounds_toArray, List.set_cons_zero, List.set_cons_succ]; done) | (simp only [putAll, Act.put, List.setIfInBounds_toArray, List.set_cons_zero, List.set_cons_succ]; rfl)) (hJ0_0123 (.slice Aoc y123.length coc, v1_, v2_, v2) _ ⟨hb0.out.trans (hb.mono hb0.out.size), Kd.N_below g0.out hb, Kd.N_below g1.out hb, Kd.N_below g2.out hb, Kd.N_lower ho hb0.out.size⟩)
                        refine join_ (σ := Value × Value × Value) 12 #[true, true, true, true, false, true, true, true, true, false, false, true, true, true, false, false, false, true, true, false, false, false, false, false, false] (fun s_ => [(46, s_.1), (51, s_.2.1), (61, s_.2.2)]) (fun s_ w' => (Below w32.heap.size w32 w') ∧ (Kd.N (Kd.slice 5 (Kd.int .u8)) 22 w' w32.heap.size (fun _ => True) s_.1 y123) ∧ (Kd.N (Kd.slice 5 (Kd.int .u8)) 22 w' w32.heap.size (fun _ => True) s_.2.1 y132) ∧ (Kd.N (Kd.slice 5 (Kd.int .u8)) 22 w' w32.heap.size (fun _ => True) s_.2.2 y145)) ?_ (fun hJ0_013 => ?_)
                        · rintro ⟨v0_, v1_, v3_⟩ w1 ⟨hb0, g0, g1, g3⟩
                          replace hb0 := Aside0.mk hb0
                          replace g0 := Aside0.mk g0
                          replace g1 := Aside0.mk g1
                          replace g3 := Aside0.mk g3
                          obtain ⟨Aoc, coc, eoc⟩ := Kd.N_slice g0.out
                          subst eoc
                          refine norm_ (a' := ?_) ?_ ?_
                          rotate_left
                          · simp only [putAll, Act.put, List.setIfInBounds_toArray, List.set_cons_zero, List.set_cons_succ]
                            rfl
                          refine two_ (i := 4) (j := 14) (Ni := some 47) (Nj := some 57) #[true, true, true, true, true, true, true, true, true, false, false, true, true, true, false, false, false, true, true, false, false, false, false, false, false] #[true, true, true, true, false, true, true, true, true, false, false, true, true, true, true, false, false, true, true, false, false, false, false, false, false] rfl rfl rfl rfl (two_of HT_.out (by kernel_rfl)) (by decide) (by decide) (fun K hK => ?_) (fun K hK => ?_)
                          · skip
                            refine goes_ Try.func10 (by kernel_rfl) rfl #[.slice Aoc y123.length coc] (by rfl) rfl rfl (by (try simp only [List.map_toArray, List.map_cons, List.map_nil]); first | done | rfl | (simp only [List.length_drop, List.length_take]; rfl)) ?_
                            with_reducible refine (crc_Sum.calls k1 _ _ y123 t126 _ ?side1 ?side2 A22.out).mono ?_
                            case side1 => exact (Kd.N_reads' g0.out).2.2
                            case side2 => exact (Kd.N_reads' g0.out).2.1
                            rintro e w2 ⟨rfl, hb⟩
                            refine ⟨_, rfl, ?_⟩
                            refine hK.out _ _ trivial (fun hHeld => ?_)
                            clear hK K
                            refine norm_ (a' := ?_) ?_ ?_
                            rotate_left
                            · show Act.put _ (some 47) _ = _
                              simp only [Act.put, List.setIfInBounds_toArray, List.set_cons_zero, List.set_cons_succ, i64_w, i32_w]
                              rfl
                            exact norm_ (by first | (simp only [putAll, Act.put, List.setIfInBounds_toArray, List.set_cons_zero, List.set_cons_succ]; done) | (simp only [putAll, Act.put, List.setIfInBounds_toArray, List.set_cons_zero, List.set_cons_succ]; rfl)) (hJ1_013 (.slice Aoc y123.length coc, v1_, v3_) _ ⟨hb0.out.trans (hb.mono hb0.out.size), Kd.N_below g1.out hb, Kd.N_below g3.out hb⟩)
                          · skip
                            refine Kd.N_lit_step (Kd.slice 5 (Kd.int .u8)) _ 22 ?hg (N' := 57) ?hd (xs := ([y136] : List (List Int))) (inner := [.slice A2 y136.length c2]) (ok := fun _ => True) (okp := fun _ => True) ?hr ?hp (fun _ hk => hk) trivial (Below.refl _ _) (Nat.le_refl _) (by simp) ?_
                            case hd => rfl
                            case hg => rfl
                            case hr => first | (go_simp; done) | (go_simp; rfl)
                            case hp => exact Reps.one (Kd.FK_step hF2.out (fun k_ _ hk_ => hb0.out.block k_ hk_)) (Reps.none _ _)
                            intro v2 w2 ho hb hg_ hnew_
                            clear hg_ hnew_
                            rw [← Ny141.out] at ho
                            refine hK.out _ _ trivial (fun hHeld => ?_)
                            clear hK K
                            refine norm_ (a' := ?_) ?_ ?_
                            rotate_left
                            · show Act.put _ (some 57) _ = _
                              simp only [Act.put, List.setIfInBounds_toArray, List.set_cons_zero, List.set_cons_succ, i64_w, i32_w]
                              rfl
                            exact norm_ (by first | (simp only [putAll, Act.put, List.setIfInBounds_toArray, List.set_cons_zero, List.set_cons_succ]; done) | (simp only [putAll, Act.put, List.setIfInBounds_toArray, List.set_cons_zero, List.set_cons_succ]; rfl)) (hJ0_0123 (.slice Aoc y123.length coc, v1_, v2, v3_) _ ⟨hb0.out.trans (hb.mono hb0.out.size), Kd.N_below g0.out hb, Kd.N_below g1.out hb, Kd.N_lower ho hb0.out.size, Kd.N_below g3.out hb⟩)
                        refine join_ (σ := Value × Value × Value) 12 #[true, true, true, true, false, true, true, true, false, false, false, true, true, true, true, false, false, true, true, false, false, false, false, false, false] (fun s_ => [(46, s_.1), (57, s_.2.1), (61, s_.2.2)]) (fun s_ w' => (Below w32.heap.size w32 w') ∧ (Kd.N (Kd.slice 5 (Kd.int .u8)) 22 w' w32.heap.size (fun _ => True) s_.1 y123) ∧ (Kd.N (Kd.slice 5 (Kd.int .u8)) 22 w' w32.heap.size (fun _ => True) s_.2.1 y141) ∧ (Kd.N (Kd.slice 5 (Kd.int .u8)) 22 w' w32.heap.size (fun _ => True) s_.2.2 y145)) ?_ (fun hJ0_023 => ?_)
                        · rintro ⟨v0_, v2_, v3_⟩ w1 ⟨hb0, g0, g2, g3⟩
                          replace hb0 := Aside0.mk hb0
                          replace g0 := Aside0.mk g0
                          replace g2 := Aside0.mk g2
                          replace g3 := Aside0.mk g3
                          obtain ⟨Aoc, coc, eoc⟩ := Kd.N_slice g0.out
                          subst eoc
                          refine norm_ (a' := ?_) ?_ ?_
                          rotate_left
                          · simp only [putAll, Act.put, List.setIfInBounds_toArray, List.set_cons_zero, List.set_cons_succ]
                            rfl
                          refine two_ (i := 4) (j := 8) (Ni := some 47) (Nj := some 51) #[true, true, true, true, true, true, true, true, false, false, false, true, true, true, true, false, false, true, true, false, false, false, false, false, false] #[true, true, true, true, false, true, true, true, true, false, false, true, true, true, true, false, false, true, true, false, false, false, false, false, false] rfl rfl rfl rfl (two_of HT_.out (by kernel_rfl)) (by decide) (by decide) (fun K hK => ?_) (fun K hK => ?_)
                          · skip
                            refine goes_ Try.func10 (by kernel_rfl) rfl #[.slice Aoc y123.length coc] (by rfl) rfl rfl (by (try simp only [List.map_toArray, List.map_cons, List.map_nil]); first | done | rfl | (simp only [List.length_drop, List.length_take]; rfl)) ?_
                            with_reducible refine (crc_Sum.calls k1 _ _ y123 t126 _ ?side1 ?side2 A22.out).mono ?_
                            case side1 => exact (Kd.N_reads' g0.out).2.2
                            case side2 => exact (Kd.N_reads' g0.out).2.1
                            rintro e w2 ⟨rfl, hb⟩
                            refine ⟨_, rfl, ?_⟩
                            refine hK.out _ _ trivial (fun hHeld => ?_)
                            clear hK K
                            refine norm_ (a' := ?_) ?_ ?_
                            rotate_left
                            · show Act.put _ (some 47) _ = _
                              simp only [Act.put, List.setIfInBounds_toArray, List.set_cons_zero, List.set_cons_succ, i64_w, i32_w]
                              rfl
                            exact norm_ (by first | (simp only [putAll, Act.put, List.setIfInBounds_toArray, List.set_cons_zero, List.set_cons_succ]; done) | (simp only [putAll, Act.put, List.setIfInBounds_toArray, List.set_cons_zero, List.set_cons_succ]; rfl)) (hJ1_023 (.slice Aoc y123.length coc, v2_, v3_) _ ⟨hb0.out.trans (hb.mono hb0.out.size), Kd.N_below g2.out hb, Kd.N_below g3.out hb⟩)
                          · skip
                            refine Kd.N_lit_step (Kd.slice 5 (Kd.int .u8)) _ 22 ?hg (N' := 51) ?hd (xs := ([y127] : List (List Int))) (inner := [.slice A1 y127.length c1]) (ok := fun _ => True) (okp := fun _ => True) ?hr ?hp (fun _ hk => hk) trivial (Below.refl _ _) (Nat.le_refl _) (by simp) ?_
                            case hd => rfl
                            case hg => rfl
                            case hr => first | (go_simp; done) | (go_simp; rfl)
                            case hp => exact Reps.one (Kd.FK_step hF1.out (fun k_ _ hk_ => hb0.out.block k_ hk_)) (Reps.none _ _)
                            intro v2 w2 ho hb hg_ hnew_
                            clear hg_ hnew_
                            rw [← Ny132.out] at ho
                            refine hK.out _ _ trivial (fun hHeld => ?_)
                            clear hK K
                            refine norm_ (a' := ?_) ?_ ?_
                            rotate_left
                            · show Act.put _ (some 51) _ = _
                              simp only [Act.put, List.setIfInBounds_toArray, List.set_cons_zero, List.set_cons_succ, i64_w, i32_w]
                              rfl
                            exact norm_ (by first | (simp only [putAll, Act.put, List.setIfInBounds_toArray, List.set_cons_zero, List.set_cons_succ]; done) | (simp only [putAll, Act.put, List.setIfInBounds_toArray, List.set_cons_zero, List.set_cons_succ]; rfl)) (hJ0_0123 (.slice Aoc y123.length coc, v2, v2_, v3_) _ ⟨hb0.out.trans (hb.mono hb0.out.size), Kd.N_below g0.out hb, Kd.N_lower ho hb0.out.size, Kd.N_below g2.out hb, Kd.N_below g3.out hb⟩)
                        refine join_ (σ := Value × Value × Value) 12 #[true, true, true, false, false, true, true, true, true, false, false, true, true, true, true, false, false, true, true, false, false, false, false, false, false] (fun s_ => [(51, s_.1), (57, s_.2.1), (61, s_.2.2)]) (fun s_ w' => (Below w32.heap.size w32 w') ∧ (Kd.N (Kd.slice 5 (Kd.int .u8)) 22 w' w32.heap.size (fun _ => True) s_.1 y132) ∧ (Kd.N (Kd.slice 5 (Kd.int .u8)) 22 w' w32.heap.size (fun _ => True) s_.2.1 y141) ∧ (Kd.N (Kd.slice 5 (Kd.int .u8)) 22 w' w32.heap.size (fun _ => True) s_.2.2 y145)) ?_ (fun hJ0_123 => ?_)
                        · rintro ⟨v1_, v2_, v3_⟩ w1 ⟨hb0, g1, g2, g3⟩
                          replace hb0 := Aside0.mk hb0
                          replace g1 := Aside0.mk g1
                          replace g2 := Aside0.mk g2
                          replace g3 := Aside0.mk g3
                          refine norm_ (a' := ?_) ?_ ?_
                          rotate_left
                          · simp only [putAll, Act.put, List.setIfInBounds_toArray, List.set_cons_zero, List.set_cons_succ]
                            rfl
                          refine one_ (i := 3) (N := some 46) #[true, true, true, true, false, true, true, true, true, false, false, true, true, true, true, false, false, true, true, false, false, false, false, false, false] rfl rfl (one_of HT_.out (by kernel_rfl)) (by decide) (fun K hK => ?_)
                          · skip
                            refine Kd.N_lit_step (Kd.slice 5 (Kd.int .u8)) _ 22 ?hg (N' := 46) ?hd (xs := ([y118] : List (List Int))) (inner := [.slice A0 y118.length c0]) (ok := fun _ => True) (okp := fun _ => True) ?hr ?hp (fun _ hk => hk) trivial (Below.refl _ _) (Nat.le_refl _) (by simp) ?_
                            case hd => rfl
                            case hg => rfl
                            case hr => first | (go_simp; done) | (go_simp; rfl)
                            case hp => exact Reps.one (Kd.FK_step hF0.out (fun k_ _ hk_ => hb0.out.block k_ hk_)) (Reps.none _ _)
                            intro v2 w2 ho hb hg_ hnew_
                            clear hg_ hnew_
                            rw [← Ny123.out] at ho
                            refine hK.out _ _ trivial (fun hHeld => ?_)
                            clear hK K
                            refine norm_ (a' := ?_) ?_ ?_
                            rotate_left
                            · show Act.put _ (some 46) _ = _
                              simp only [Act.put, List.setIfInBounds_toArray, List.set_cons_zero, List.set_cons_succ, i64_w, i32_w]
                              rfl
                            exact norm_ (by first | (simp only [putAll, Act.put, List.setIfInBounds_toArray, List.set_cons_zero, List.set_cons_succ]; done) | (simp only [putAll, Act.put, List.setIfInBounds_toArray, List.set_cons_zero, List.set_cons_succ]; rfl)) (hJ0_0123 (v2, v1_, v2_, v3_) _ ⟨hb0.out.trans (hb.mono hb0.out.size), Kd.N_lower ho hb0.out.size, Kd.N_below g1.out hb, Kd.N_below g2.out hb, Kd.N_below g3.out hb⟩)
                        refine join_ (σ := Value × Value) 12 #[true, true, true, true, true, true, true, true, true, false, false, true, true, true, false, false, false, true, false, false, false, false, false, false, false] (fun s_ => [(46, s_.1), (47, .int .u32 t126), (51, s_.2)]) (fun s_ w' => (Below w32.heap.size w32 w') ∧ (Kd.N (Kd.slice 5 (Kd.int .u8)) 22 w' w32.heap.size (fun _ => True) s_.2 y132)) ?_ (fun hJ1_01 => ?_)
                        · rintro ⟨v0_, v1_⟩ w1 ⟨hb0, g1⟩
                          replace hb0 := Aside0.mk hb0
                          replace g1 := Aside0.mk g1
                          obtain ⟨Aoc, coc, eoc⟩ := Kd.N_slice g1.out
                          subst eoc
                          refine norm_ (a' := ?_) ?_ ?_
                          rotate_left
                          · simp only [putAll, Act.put, List.setIfInBounds_toArray, List.set_cons_zero, List.set_cons_succ]
                            rfl
                          refine three_ (i := 9) (j := 14) (k := 18) (Ni := some 52) (Nj := some 57) (Nk := some 61) #[true, true, true, true, true, true, true, true, true, true, false, true, true, true, false, false, false, true, false, false, false, false, false, false, false] #[true, true, true, true, true, true, true, true, true, false, false, true, true, true, true, false, false, true, false, false, false, false, false, false, false] #[true, true, true, true, true, true, true, true, true, false, false, true, true, true, false, false, false, true, true, false, false, false, false, false, false] rfl rfl rfl rfl rfl rfl (three_of HT_.out (by kernel_rfl)) (by decide) (by decide) (by decide) (fun K hK => ?_) (fun K hK => ?_) (fun K hK => ?_)
                          · skip
                            refine goes_ Try.func10 (by kernel_rfl) rfl #[.slice Aoc y132.length coc] (by rfl) rfl rfl (by (try simp only [List.map_toArray, List.map_cons, List.map_nil]); first | done | rfl | (simp only [List.length_drop, List.length_take]; rfl)) ?_
                            with_reducible refine (crc_Sum.calls k1 _ _ y132 t135 _ ?side1 ?side2 A25.out).mono ?_
                            case side1 => exact (Kd.N_reads' g1.out).2.2
                            case side2 => exact (Kd.N_reads' g1.out).2.1
                            rintro e w2 ⟨rfl, hb⟩
                            refine ⟨_, rfl, ?_⟩
                            refine hK.out _ _ trivial (fun hHeld => ?_)
                            clear hK K
                            refine norm_ (a' := ?_) ?_ ?_
                            rotate_left
                            · show Act.put _ (some 52) _ = _
                              simp only [Act.put, List.setIfInBounds_toArray, List.set_cons_zero, List.set_cons_succ, i64_w, i32_w]
                              rfl
                            refine pure_ (i := 10) (N := some 53) (v := ?_) (a' := ?_) #[true, true, true, true, true, true, true, true, true, true, true, true, true, true, false, false, false, true, false, false, false, false, false, false, false] rfl rfl (any_of HT_.out (by kernel_rfl)) (fun _ _ _ h => h) (Or.inl ⟨by rfl, ?_⟩) ?_ ?_
                            rotate_left
                            · intro w'
                              go_simp
                              with_reducible rfl
                            rotate_left
                            · simp only [Act.put, List.setIfInBounds_toArray, List.set_cons_zero, List.set_cons_succ, i64_w, i32_w]
                              rfl
                            exact norm_ (by first | (simp only [putAll, Act.put, List.setIfInBounds_toArray, List.set_cons_zero, List.set_cons_succ]; done) | (simp only [putAll, Act.put, List.setIfInBounds_toArray, List.set_cons_zero, List.set_cons_succ]; rfl)) (hJ2_01 (v0_, .slice Aoc y132.length coc) _ (hb0.out.trans (hb.mono hb0.out.size)))
                          · skip
                            refine Kd.N_lit_step (Kd.slice 5 (Kd.int .u8)) _ 22 ?hg (N' := 57) ?hd (xs := ([y136] : List (List Int))) (inner := [.slice A2 y136.length c2]) (ok := fun _ => True) (okp := fun _ => True) ?hr ?hp (fun _ hk => hk) trivial (Below.refl _ _) (Nat.le_refl _) (by simp) ?_
                            case hd => rfl
                            case hg => rfl
                            case hr => first | (go_simp; done) | (go_simp; rfl)
                            case hp => exact Reps.one (Kd.FK_step hF2.out (fun k_ _ hk_ => hb0.out.block k_ hk_)) (Reps.none _ _)
                            intro v2 w2 ho hb hg_ hnew_
                            clear hg_ hnew_
                            rw [← Ny141.out] at ho
                            refine hK.out _ _ trivial (fun hHeld => ?_)
                            clear hK K
                            refine norm_ (a' := ?_) ?_ ?_
                            rotate_left
                            · show Act.put _ (some 57) _ = _
                              simp only [Act.put, List.setIfInBounds_toArray, List.set_cons_zero, List.set_cons_succ, i64_w, i32_w]
                              rfl
                            exact norm_ (by first | (simp only [putAll, Act.put, List.setIfInBounds_toArray, List.set_cons_zero, List.set_cons_succ]; done) | (simp only [putAll, Act.put, List.setIfInBounds_toArray, List.set_cons_zero, List.set_cons_succ]; rfl)) (hJ1_012 (v0_, .slice Aoc y132.length coc, v2) _ ⟨hb0.out.trans (hb.mono hb0.out.size), Kd.N_below g1.out hb, Kd.N_lower ho hb0.out.size⟩)
                          · skip
                            refine Kd.N_lit_step (Kd.slice 5 (Kd.int .u8)) _ 22 ?hg (N' := 61) ?hd (xs := ([x8_1] : List (List Int))) (inner := [.slice Ao36 x8_1.length co36]) (ok := fun _ => True) (okp := fun _ => True) ?hr ?hp (fun _ hk => hk) trivial (Below.refl _ _) (Nat.le_refl _) (by simp) ?_
                            case hd => rfl
                            case hg => rfl
                            case hr => first | (go_simp; done) | (go_simp; rfl)
                            case hp => exact Reps.one (Kd.FK_step hF3.out (fun k_ _ hk_ => hb0.out.block k_ hk_)) (Reps.none _ _)
                            intro v2 w2 ho hb hg_ hnew_
                            clear hg_ hnew_
                            rw [← Ny145.out] at ho
                            refine hK.out _ _ trivial (fun hHeld => ?_)
                            clear hK K
                            refine norm_ (a' := ?_) ?_ ?_
                            rotate_left
                            · show Act.put _ (some 61) _ = _
                              simp only [Act.put, List.setIfInBounds_toArray, List.set_cons_zero, List.set_cons_succ, i64_w, i32_w]
                              rfl
                            exact norm_ (by first | (simp only [putAll, Act.put, List.setIfInBounds_toArray, List.set_cons_zero, List.set_cons_succ]; done) | (simp only [putAll, Act.put, List.setIfInBounds_toArray, List.set_cons_zero, List.set_cons_succ]; rfl)) (hJ1_013 (v0_, .slice Aoc y132.length coc, v2) _ ⟨hb0.out.trans (hb.mono hb0.out.size), Kd.N_below g1.out hb, Kd.N_lower ho hb0.out.size⟩)
                        refine join_ (σ := Value × Value) 12 #[true, true, true, true, true, true, true, true, false, false, false, true, true, true, true, false, false, true, false, false, false, false, false, false, false] (fun s_ => [(46, s_.1), (47, .int .u32 t126), (57, s_.2)]) (fun s_ w' => (Below w32.heap.size w32 w') ∧ (Kd.N (Kd.slice 5 (Kd.int .u8)) 22 w' w32.heap.size (fun _ => True) s_.2 y141)) ?_ (fun hJ1_02 => ?_)
                        · rintro ⟨v0_, v2_⟩ w1 ⟨hb0, g2⟩
                          replace hb0 := Aside0.mk hb0
                          replace g2 := Aside0.mk g2
                          refine norm_ (a' := ?_) ?_ ?_
                          rotate_left
                          · simp only [putAll, Act.put, List.setIfInBounds_toArray, List.set_cons_zero, List.set_cons_succ]
                            rfl
                          refine two_ (i := 8) (j := 18) (Ni := some 51) (Nj := some 61) #[true, true, true, true, true, true, true, true, true, false, false, true, true, true, true, false, false, true, false, false, false, false, false, false, false] #[true, true, true, true, true, true, true, true, false, false, false, true, true, true, true, false, false, true, true, false, false, false, false, false, false] rfl rfl rfl rfl (two_of HT_.out (by kernel_rfl)) (by decide) (by decide) (fun K hK => ?_) (fun K hK => ?_)
                          · skip
                            refine Kd.N_lit_step (Kd.slice 5 (Kd.int .u8)) _ 22 ?hg (N' := 51) ?hd (xs := ([y127] : List (List Int))) (inner := [.slice A1 y127.length c1]) (ok := fun _ => True) (okp := fun _ => True) ?hr ?hp (fun _ hk => hk) trivial (Below.refl _ _) (Nat.le_refl _) (by simp) ?_
                            case hd => rfl
                            case hg => rfl
                            case hr => first | (go_simp; done) | (go_simp; rfl)
                            case hp => exact Reps.one (Kd.FK_step hF1.out (fun k_ _ hk_ => hb0.out.block k_ hk_)) (Reps.none _ _)
                            intro v2 w2 ho hb hg_ hnew_
                            clear hg_ hnew_
                            rw [← Ny132.out] at ho
                            refine hK.out _ _ trivial (fun hHeld => ?_)
                            clear hK K
                            refine norm_ (a' := ?_) ?_ ?_
                            rotate_left
                            · show Act.put _ (some 51) _ = _
                              simp only [Act.put, List.setIfInBounds_toArray, List.set_cons_zero, List.set_cons_succ, i64_w, i32_w]
                              rfl
                            exact norm_ (by first | (simp only [putAll, Act.put, List.setIfInBounds_toArray, List.set_cons_zero, List.set_cons_succ]; done) | (simp only [putAll, Act.put, List.setIfInBounds_toArray, List.set_cons_zero, List.set_cons_succ]; rfl)) (hJ1_012 (v0_, v2, v2_) _ ⟨hb0.out.trans (hb.mono hb0.out.size), Kd.N_lower ho hb0.out.size, Kd.N_below g2.out hb⟩)
                          · skip
                            refine Kd.N_lit_step (Kd.slice 5 (Kd.int .u8)) _ 22 ?hg (N' := 61) ?hd (xs := ([x8_1] : List (List Int))) (inner := [.slice Ao36 x8_1.length co36]) (ok := fun _ => True) (okp := fun _ => True) ?hr ?hp (fun _ hk => hk) trivial (Below.refl _ _) (Nat.le_refl _) (by simp) ?_
                            case hd => rfl
                            case hg => rfl
                            case hr => first | (go_simp; done) | (go_simp; rfl)
                            case hp => exact Reps.one (Kd.FK_step hF3.out (fun k_ _ hk_ => hb0.out.block k_ hk_)) (Reps.none _ _)
                            intro v2 w2 ho hb hg_ hnew_
                            clear hg_ hnew_
                            rw [← Ny145.out] at ho
                            refine hK.out _ _ trivial (fun hHeld => ?_)
                            clear hK K
                            refine norm_ (a' := ?_) ?_ ?_
                            rotate_left
                            · show Act.put _ (some 61) _ = _
                              simp only [Act.put, List.setIfInBounds_toArray, List.set_cons_zero, List.set_cons_succ, i64_w, i32_w]
                              rfl
                            exact norm_ (by first | (simp only [putAll, Act.put, List.setIfInBounds_toArray, List.set_cons_zero, List.set_cons_succ]; done) | (simp only [putAll, Act.put, List.setIfInBounds_toArray, List.set_cons_zero, List.set_cons_succ]; rfl)) (hJ1_023 (v0_, v2_, v2) _ ⟨hb0.out.trans (hb.mono hb0.out.size), Kd.N_below g2.out hb, Kd.N_lower ho hb0.out.size⟩)
                        refine join_ (σ := Value × Value) 12 #[true, true, true, true, true, true, true, true, false, false, false, true, true, true, false, false, false, true, true, false, false, false, false, false, false] (fun s_ => [(46, s_.1), (47, .int .u32 t126), (61, s_.2)]) (fun s_ w' => (Below w32.heap.size w32 w') ∧ (Kd.N (Kd.slice 5 (Kd.int .u8)) 22 w' w32.heap.size (fun _ => True) s_.2 y145)) ?_ (fun hJ1_03 => ?_)
                        · rintro ⟨v0_, v3_⟩ w1 ⟨hb0, g3⟩
                          replace hb0 := Aside0.mk hb0
                          replace g3 := Aside0.mk g3
                          refine norm_ (a' := ?_) ?_ ?_
                          rotate_left
                          · simp only [putAll, Act.put, List.setIfInBounds_toArray, List.set_cons_zero, List.set_cons_succ]
                            rfl
                          refine two_ (i := 8) (j := 14) (Ni := some 51) (Nj := some 57) #[true, true, true, true, true, true, true, true, true, false, false, true, true, true, false, false, false, true, true, false, false, false, false, false, false] #[true, true, true, true, true, true, true, true, false, false, false, true, true, true, true, false, false, true, true, false, false, false, false, false, false] rfl rfl rfl rfl (two_of HT_.out (by kernel_rfl)) (by decide) (by decide) (fun K hK => ?_) (fun K hK => ?_)
                          · skip
                            refine Kd.N_lit_step (Kd.slice 5 (Kd.int .u8)) _ 22 ?hg (N' := 51) ?hd (xs := ([y127] : List (List Int))) (inner := [.slice A1 y127.length c1]) (ok := fun _ => True) (okp := fun _ => True) ?hr ?hp (fun _ hk => hk) trivial (Below.refl _ _) (Nat.le_refl _) (by simp) ?_
                            case hd => rfl
                            case hg => rfl
                            case hr => first | (go_simp; done) | (go_simp; rfl)
                            case hp => exact Reps.one (Kd.FK_step hF1.out (fun k_ _ hk_ => hb0.out.block k_ hk_)) (Reps.none _ _)
                            intro v2 w2 ho hb hg_ hnew_
                            clear hg_ hnew_
                            rw [← Ny132.out] at ho
                            refine hK.out _ _ trivial (fun hHeld => ?_)
                            clear hK K
                            refine norm_ (a' := ?_) ?_ ?_
                            rotate_left
                            · show Act.put _ (some 51) _ = _
                              simp only [Act.put, List.setIfInBounds_toArray, List.set_cons_zero, List.set_cons_succ, i64_w, i32_w]
                              rfl
                            exact norm_ (by first | (simp only [putAll, Act.put, List.setIfInBounds_toArray, List.set_cons_zero, List.set_cons_succ]; done) | (simp only [putAll, Act.put, List.setIfInBounds_toArray, List.set_cons_zero, List.set_cons_succ]; rfl)) (hJ1_013 (v0_, v2, v3_) _ ⟨hb0.out.trans (hb.mono hb0.out.size), Kd.N_lower ho hb0.out.size, Kd.N_below g3.out hb⟩)
                          · skip
                            refine Kd.N_lit_step (Kd.slice 5 (Kd.int .u8)) _ 22 ?hg (N' := 57) ?hd (xs := ([y136] : List (List Int))) (inner := [.slice A2 y136.length c2]) (ok := fun _ => True) (okp := fun _ => True) ?hr ?hp (fun _ hk => hk) trivial (Below.refl _ _) (Nat.le_refl _) (by simp) ?_
                            case hd => rfl
                            case hg => rfl
                            case hr => first | (go_simp; done) | (go_simp; rfl)
                            case hp => exact Reps.one (Kd.FK_step hF2.out (fun k_ _ hk_ => hb0.out.block k_ hk_)) (Reps.none _ _)
                            intro v2 w2 ho hb hg_ hnew_
                            clear hg_ hnew_
                            rw [← Ny141.out] at ho
                            refine hK.out _ _ trivial (fun hHeld => ?_)
                            clear hK K
                            refine norm_ (a' := ?_) ?_ ?_
                            rotate_left
                            · show Act.put _ (some 57) _ = _
                              simp only [Act.put, List.setIfInBounds_toArray, List.set_cons_zero, List.set_cons_succ, i64_w, i32_w]
                              rfl
                            exact norm_ (by first | (simp only [putAll, Act.put, List.setIfInBounds_toArray, List.set_cons_zero, List.set_cons_succ]; done) | (simp only [putAll, Act.put, List.setIfInBounds_toArray, List.set_cons_zero, List.set_cons_succ]; rfl)) (hJ1_023 (v0_, v2, v3_) _ ⟨hb0.out.trans (hb.mono hb0.out.size), Kd.N_lower ho hb0.out.size, Kd.N_below g3.out hb⟩)
                        refine join_ (σ := Value × Value) 13 #[true, true, true, true, false, true, true, true, true, false, false, true, true, true, false, false, false, true, false, false, false, false, false, false, false] (fun s_ => [(46, s_.1), (51, s_.2)]) (fun s_ w' => (Below w32.heap.size w32 w') ∧ (Kd.N (Kd.slice 5 (Kd.int .u8)) 22 w' w32.heap.size (fun _ => True) s_.1 y123) ∧ (Kd.N (Kd.slice 5 (Kd.int .u8)) 22 w' w32.heap.size (fun _ => True) s_.2 y132)) ?_ (fun hJ0_01 => ?_)
                        · rintro ⟨v0_, v1_⟩ w1 ⟨hb0, g0, g1⟩
                          replace hb0 := Aside0.mk hb0
                          replace g0 := Aside0.mk g0
                          replace g1 := Aside0.mk g1
                          obtain ⟨Aoc, coc, eoc⟩ := Kd.N_slice g0.out
                          subst eoc
                          refine norm_ (a' := ?_) ?_ ?_
                          rotate_left
                          · simp only [putAll, Act.put, List.setIfInBounds_toArray, List.set_cons_zero, List.set_cons_succ]
                            rfl
                          refine three_ (i := 4) (j := 14) (k := 18) (Ni := some 47) (Nj := some 57) (Nk := some 61) #[true, true, true, true, true, true, true, true, true, false, false, true, true, true, false, false, false, true, false, false, false, false, false, false, false] #[true, true, true, true, false, true, true, true, true, false, false, true, true, true, true, false, false, true, false, false, false, false, false, false, false] #[true, true, true, true, false, true, true, true, true, false, false, true, true, true, false, false, false, true, true, false, false, false, false, false, false] rfl rfl rfl rfl rfl rfl (three_of HT_.out (by kernel_rfl)) (by decide) (by decide) (by decide) (fun K hK => ?_) (fun K hK => ?_) (fun K hK => ?_)
                          · skip
                            refine goes_ Try.func10 (by kernel_rfl) rfl #[.slice Aoc y123.length coc] (by rfl) rfl rfl (by (try simp only [List.map_toArray, List.map_cons, List.map_nil]); first | done | rfl | (simp only [List.length_drop, List.length_take]; rfl)) ?_
                            with_reducible refine (crc_Sum.calls k1 _ _ y123 t126 _ ?side1 ?side2 A22.out).mono ?_
                            case side1 => exact (Kd.N_reads' g0.out).2.2
                            case side2 => exact (Kd.N_reads' g0.out).2.1
                            rintro e w2 ⟨rfl, hb⟩
                            refine ⟨_, rfl, ?_⟩
                            refine hK.out _ _ trivial (fun hHeld => ?_)
                            clear hK K
                            refine norm_ (a' := ?_) ?_ ?_
                            rotate_left
                            · show Act.put _ (some 47) _ = _
                              simp only [Act.put, List.setIfInBounds_toArray, List.set_cons_zero, List.set_cons_succ, i64_w, i32_w]
                              rfl
                            exact norm_ (by first | (simp only [putAll, Act.put, List.setIfInBounds_toArray, List.set_cons_zero, List.set_cons_succ]; done) | (simp only [putAll, Act.put, List.setIfInBounds_toArray, List.set_cons_zero, List.set_cons_succ]; rfl)) (hJ1_01 (.slice Aoc y123.length coc, v1_) _ ⟨hb0.out.trans (hb.mono hb0.out.size), Kd.N_below g1.out hb⟩)
                          · skip
                            refine Kd.N_lit_step (Kd.slice 5 (Kd.int .u8)) _ 22 ?hg (N' := 57) ?hd (xs := ([y136] : List (List Int))) (inner := [.slice A2 y136.length c2]) (ok := fun _ => True) (okp := fun _ => True) ?hr ?hp (fun _ hk => hk) trivial (Below.refl _ _) (Nat.le_refl _) (by simp) ?_
                            case hd => rfl
                            case hg => rfl
                            case hr => first | (go_simp; done) | (go_simp; rfl)
                            case hp => exact Reps.one (Kd.FK_step hF2.out (fun k_ _ hk_ => hb0.out.block k_ hk_)) (Reps.none _ _)
                            intro v2 w2 ho hb hg_ hnew_
                            clear hg_ hnew_
                            rw [← Ny141.out] at ho
                            refine hK.out _ _ trivial (fun hHeld => ?_)
                            clear hK K
                            refine norm_ (a' := ?_) ?_ ?_
                            rotate_left
                            · show Act.put _ (some 57) _ = _
                              simp only [Act.put, List.setIfInBounds_toArray, List.set_cons_zero, List.set_cons_succ, i64_w, i32_w]
                              rfl
                            exact norm_ (by first | (simp only [putAll, Act.put, List.setIfInBounds_toArray, List.set_cons_zero, List.set_cons_succ]; done) | (simp only [putAll, Act.put, List.setIfInBounds_toArray, List.set_cons_zero, List.set_cons_succ]; rfl)) (hJ0_012 (.slice Aoc y123.length coc, v1_, v2) _ ⟨hb0.out.trans (hb.mono hb0.out.size), Kd.N_below g0.out hb, Kd.N_below g1.out hb, Kd.N_lower ho hb0.out.size⟩)
                          · skip
                            refine Kd.N_lit_step (Kd.slice 5 (Kd.int .u8)) _ 22 ?hg (N' := 61) ?hd (xs := ([x8_1] : List (List Int))) (inner := [.slice Ao36 x8_1.length co36]) (ok := fun _ => True) (okp := fun _ => True) ?hr ?hp (fun _ hk => hk) trivial (Below.refl _ _) (Nat.le_refl _) (by simp) ?_
                            case hd => rfl
                            case hg => rfl
                            case hr => first | (go_simp; done) | (go_simp; rfl)
                            case hp => exact Reps.one (Kd.FK_step hF3.out (fun k_ _ hk_ => hb0.out.block k_ hk_)) (Reps.none _ _)
                            intro v2 w2 ho hb hg_ hnew_
                            clear hg_ hnew_
                            rw [← Ny145.out] at ho
                            refine hK.out _ _ trivial (fun hHeld => ?_)
                            clear hK K
                            refine norm_ (a' := ?_) ?_ ?_
                            rotate_left
                            · show Act.put _ (some 61) _ = _
                              simp only [Act.put, List.setIfInBounds_toArray, List.set_cons_zero, List.set_cons_succ, i64_w, i32_w]
                              rfl
                            exact norm_ (by first | (simp only [putAll, Act.put, List.setIfInBounds_toArray, List.set_cons_zero, List.set_cons_succ]; done) | (simp only [putAll, Act.put, List.setIfInBounds_toArray, List.set_cons_zero, List.set_cons_succ]; rfl)) (hJ0_013 (.slice Aoc y123.length coc, v1_, v2) _ ⟨hb0.out.trans (hb.mono hb0.out.size), Kd.N_below g0.out hb, Kd.N_below g1.out hb, Kd.N_lower ho hb0.out.size⟩)
                        refine join_ (σ := Value × Value) 13 #[true, true, true, true, false, true, true, true, false, false, false, true, true, true, true, false, false, true, false, false, false, false, false, false, false] (fun s_ => [(46, s_.1), (57, s_.2)]) (fun s_ w' => (Below w32.heap.size w32 w') ∧ (Kd.N (Kd.slice 5 (Kd.int .u8)) 22 w' w32.heap.size (fun _ => True) s_.1 y123) ∧ (Kd.N (Kd.slice 5 (Kd.int .u8)) 22 w' w32.heap.size (fun _ => True) s_.2 y141)) ?_ (fun hJ0_02 => ?_)
                        · rintro ⟨v0_, v2_⟩ w1 ⟨hb0, g0, g2⟩
                          replace hb0 := Aside0.mk hb0
                          replace g0 := Aside0.mk g0
                          replace g2 := Aside0.mk g2
                          obtain ⟨Aoc, coc, eoc⟩ := Kd.N_slice g0.out
                          subst eoc
                          refine norm_ (a' := ?_) ?_ ?_
                          rotate_left
                          · simp only [putAll, Act.put, List.setIfInBounds_toArray, List.set_cons_zero, List.set_cons_succ]
                            rfl
                          refine three_ (i := 4) (j := 8) (k := 18) (Ni := some 47) (Nj := some 51) (Nk := some 61) #[true, true, true, true, true, true, true, true, false, false, false, true, true, true, true, false, false, true, false, false, false, false, false, false, false] #[true, true, true, true, false, true, true, true, true, false, false, true, true, true, true, false, false, true, false, false, false, false, false, false, false] #[true, true, true, true, false, true, true, true, false, false, false, true, true, true, true, false, false, true, true, false, false, false, false, false, false] rfl rfl rfl rfl rfl rfl (three_of HT_.out (by kernel_rfl)) (by decide) (by decide) (by decide) (fun K hK => ?_) (fun K hK => ?_) (fun K hK => ?_)
                          · skip
                            refine goes_ Try.func10 (by kernel_rfl) rfl #[.slice Aoc y123.length coc] (by rfl) rfl rfl (by (try simp only [List.map_toArray, List.map_cons, List.map_nil]); first | done | rfl | (simp only [List.length_drop, List.length_take]; rfl)) ?_
                            with_reducible refine (crc_Sum.calls k1 _ _ y123 t126 _ ?side1 ?side2 A22.out).mono ?_
                            case side1 => exact (Kd.N_reads' g0.out).2.2
                            case side2 => exact (Kd.N_reads' g0.out).2.1
                            rintro e w2 ⟨rfl, hb⟩
                            refine ⟨_, rfl, ?_⟩
                            refine hK.out _ _ trivial (fun hHeld => ?_)
                            clear hK K
                            refine norm_ (a' := ?_) ?_ ?_
                            rotate_left
                            · show Act.put _ (some 47) _ = _
                              simp only [Act.put, List.setIfInBounds_toArray, List.set_cons_zero, List.set_cons_succ, i64_w, i32_w]
                              rfl
                            exact norm_ (by first | (simp only [putAll, Act.put, List.setIfInBounds_toArray, List.set_cons_zero, List.set_cons_succ]; done) | (simp only [putAll, Act.put, List.setIfInBounds_toArray, List.set_cons_zero, List.set_cons_succ]; rfl)) (hJ1_02 (.slice Aoc y123.length coc, v2_) _ ⟨hb0.out.trans (hb.mono hb0.out.size), Kd.N_below g2.out hb⟩)
                          · skip
                            refine Kd.N_lit_step (Kd.slice 5 (Kd.int .u8)) _ 22 ?hg (N' := 51) ?hd (xs := ([y127] : List (List Int))) (inner := [.slice A1 y127.length c1]) (ok := fun _ => True) (okp := fun _ => True) ?hr ?hp (fun _ hk => hk) trivial (Below.refl _ _) (Nat.le_refl _) (by simp) ?_
                            case hd => rfl
                            case hg => rfl
                            case hr => first | (go_simp; done) | (go_simp; rfl)
                            case hp => exact Reps.one (Kd.FK_step hF1.out (fun k_ _ hk_ => hb0.out.block k_ hk_)) (Reps.none _ _)
                            intro v2 w2 ho hb hg_ hnew_
                            clear hg_ hnew_
                            rw [← Ny132.out] at ho
                            refine hK.out _ _ trivial (fun hHeld => ?_)
                            clear hK K
                            refine norm_ (a' := ?_) ?_ ?_
                            rotate_left
                            · show Act.put _ (some 51) _ = _
                              simp only [Act.put, List.setIfInBounds_toArray, List.set_cons_zero, List.set_cons_succ, i64_w, i32_w]
                              rfl
                            exact norm_ (by first | (simp only [putAll, Act.put, List.setIfInBounds_toArray, List.set_cons_zero, List.set_cons_succ]; done) | (simp only [putAll, Act.put, List.setIfInBounds_toArray, List.set_cons_zero, List.set_cons_succ]; rfl)) (hJ0_012 (.slice Aoc y123.length coc, v2, v2_) _ ⟨hb0.out.trans (hb.mono hb0.out.size), Kd.N_below g0.out hb, Kd.N_lower ho hb0.out.size, Kd.N_below g2.out hb⟩)
                          · skip
                            refine Kd.N_lit_step (Kd.slice 5 (Kd.int .u8)) _ 22 ?hg (N' := 61) ?hd (xs := ([x8_1] : List (List Int))) (inner := [.slice Ao36 x8_1.length co36]) (ok := fun _ => True) (okp := fun _ => True) ?hr ?hp (fun _ hk => hk) trivial (Below.refl _ _) (Nat.le_refl _) (by simp) ?_
                            case hd => rfl
                            case hg => rfl
                            case hr => first | (go_simp; done) | (go_simp; rfl)
                            case hp => exact Reps.one (Kd.FK_step hF3.out (fun k_ _ hk_ => hb0.out.block k_ hk_)) (Reps.none _ _)
                            intro v2 w2 ho hb hg_ hnew_
                            clear hg_ hnew_
                            rw [← Ny145.out] at ho
                            refine hK.out _ _ trivial (fun hHeld => ?_)
                            clear hK K
                            refine norm_ (a' := ?_) ?_ ?_
                            rotate_left
                            · show Act.put _ (some 61) _ = _
                              simp only [Act.put, List.setIfInBounds_toArray, List.set_cons_zero, List.set_cons_succ, i64_w, i32_w]
                              rfl
                            exact norm_ (by first | (simp only [putAll, Act.put, List.setIfInBounds_toArray, List.set_cons_zero, List.set_cons_succ]; done) | (simp only [putAll, Act.put, List.setIfInBounds_toArray, List.set_cons_zero, List.set_cons_succ]; rfl)) (hJ0_023 (.slice Aoc y123.length coc, v2_, v2) _ ⟨hb0.out.trans (hb.mono hb0.out.size), Kd.N_below g0.out hb, Kd.N_below g2.out hb, Kd.N_lower ho hb0.out.size⟩)
                        refine join_ (σ := Value × Value) 13 #[true, true, true, false, false, true, true, true, true, false, false, true, true, true, true, false, false, true, false, false, false, false, false, false, false] (fun s_ => [(51, s_.1), (57, s_.2)]) (fun s_ w' => (Below w32.heap.size w32 w') ∧ (Kd.N (Kd.slice 5 (Kd.int .u8)) 22 w' w32.heap.size (fun _ => True) s_.1 y132) ∧ (Kd.N (Kd.slice 5 (Kd.int .u8)) 22 w' w32.heap.size (fun _ => True) s_.2 y141)) ?_ (fun hJ0_12 => ?_)
                        · rintro ⟨v1_, v2_⟩ w1 ⟨hb0, g1, g2⟩
                          replace hb0 := Aside0.mk hb0
                          replace g1 := Aside0.mk g1
                          replace g2 := Aside0.mk g2
                          refine norm_ (a' := ?_) ?_ ?_
                          rotate_left
                          · simp only [putAll, Act.put, List.setIfInBounds_toArray, List.set_cons_zero, List.set_cons_succ]
                            rfl
                          refine two_ (i := 3) (j := 18) (Ni := some 46) (Nj := some 61) #[true, true, true, true, false, true, true, true, true, false, false, true, true, true, true, false, false, true, false, false, false, false, false, false, false] #[true, true, true, false, false, true, true, true, true, false, false, true, true, true, true, false, false, true, true, false, false, false, false, false, false] rfl rfl rfl rfl (two_of HT_.out (by kernel_rfl)) (by decide) (by decide) (fun K hK => ?_) (fun K hK => ?_)
                          · skip
                            refine Kd.N_lit_step (Kd.slice 5 (Kd.int .u8)) _ 22 ?hg (N' := 46) ?hd (xs := ([y118] : List (List Int))) (inner := [.slice A0 y118.length c0]) (ok := fun _ => True) (okp := fun _ => True) ?hr ?hp (fun _ hk => hk) trivial (Below.refl _ _) (Nat.le_refl _) (by simp) ?_
                            case hd => rfl
                            case hg => rfl
                            case hr => first | (go_simp; done) | (go_simp; rfl)
                            case hp => exact Reps.one (Kd.FK_step hF0.out (fun k_ _ hk_ => hb0.out.block k_ hk_)) (Reps.none _ _)
                            intro v2 w2 ho hb hg_ hnew_
                            clear hg_ hnew_
                            rw [← Ny123.out] at ho
                            refine hK.out _ _ trivial (fun hHeld => ?_)
                            clear hK K
                            refine norm_ (a' := ?_) ?_ ?_
                            rotate_left
                            · show Act.put _ (some 46) _ = _
                              simp only [Act.put, List.setIfInBounds_toArray, List.set_cons_zero, List.set_cons_succ, i64_w, i32_w]
                              rfl
                            exact norm_ (by first | (simp only [putAll, Act.put, List.setIfInBounds_toArray, List.set_cons_zero, List.set_cons_succ]; done) | (simp only [putAll, Act.put, List.setIfInBounds_toArray, List.set_cons_zero, List.set_cons_succ]; rfl)) (hJ0_012 (v2, v1_, v2_) _ ⟨hb0.out.trans (hb.mono hb0.out.size), Kd.N_lower ho hb0.out.size, Kd.N_below g1.out hb, Kd.N_below g2.out hb⟩)
                          · skip
                            refine Kd.N_lit_step (Kd.slice 5 (Kd.int .u8)) _ 22 ?hg (N' := 61) ?hd (xs := ([x8_1] : List (List Int))) (inner := [.slice Ao36 x8_1.length co36]) (ok := fun _ => True) (okp := fun _ => True) ?hr ?hp (fun _ hk => hk) trivial (Below.refl _ _) (Nat.le_refl _) (by simp) ?_
                            case hd => rfl
                            case hg => rfl
                            case hr => first | (go_simp; done) | (go_simp; rfl)
                            case hp => exact Reps.one (Kd.FK_step hF3.out (fun k_ _ hk_ => hb0.out.block k_ hk_)) (Reps.none _ _)
                            intro v2 w2 ho hb hg_ hnew_
                            clear hg_ hnew_
                            rw [← Ny145.out] at ho
                            refine hK.out _ _ trivial (fun hHeld => ?_)
                            clear hK K
                            refine norm_ (a' := ?_) ?_ ?_
                            rotate_left
                            · show Act.put _ (some 61) _ = _
                              simp only [Act.put, List.setIfInBounds_toArray, List.set_cons_zero, List.set_cons_succ, i64_w, i32_w]
                              rfl
                            exact norm_ (by first | (simp only [putAll, Act.put, List.setIfInBounds_toArray, List.set_cons_zero, List.set_cons_succ]; done) | (simp only [putAll, Act.put, List.setIfInBounds_toArray, List.set_cons_zero, List.set_cons_succ]; rfl)) (hJ0_123 (v1_, v2_, v2) _ ⟨hb0.out.trans (hb.mono hb0.out.size), Kd.N_below g1.out hb, Kd.N_below g2.out hb, Kd.N_lower ho hb0.out.size⟩)
                        refine join_ (σ := Value × Value) 13 #[true, true, true, true, false, true, true, true, false, false, false, true, true, true, false, false, false, true, true, false, false, false, false, false, false] (fun s_ => [(46, s_.1), (61, s_.2)]) (fun s_ w' => (Below w32.heap.size w32 w') ∧ (Kd.N (Kd.slice 5 (Kd.int .u8)) 22 w' w32.heap.size (fun _ => True) s_.1 y123) ∧ (Kd.N (Kd.slice 5 (Kd.int .u8)) 22 w' w32.heap.size (fun _ => True) s_.2 y145)) ?_ (fun hJ0_03 => ?_)
                        · rintro ⟨v0_, v3_⟩ w1 ⟨hb0, g0, g3⟩
                          replace hb0 := Aside0.mk hb0
                          replace g0 := Aside0.mk g0
                          replace g3 := Aside0.mk g3
                          obtain ⟨Aoc, coc, eoc⟩ := Kd.N_slice g0.out
                          subst eoc
                          refine norm_ (a' := ?_) ?_ ?_
                          rotate_left
                          · simp only [putAll, Act.put, List.setIfInBounds_toArray, List.set_cons_zero, List.set_cons_succ]
                            rfl
                          refine three_ (i := 4) (j := 8) (k := 14) (Ni := some 47) (Nj := some 51) (Nk := some 57) #[true, true, true, true, true, true, true, true, false, false, false, true, true, true, false, false, false, true, true, false, false, false, false, false, false] #[true, true, true, true, false, true, true, true, true, false, false, true, true, true, false, false, false, true, true, false, false, false, false, false, false] #[true, true, true, true, false, true, true, true, false, false, false, true, true, true, true, false, false, true, true, false, false, false, false, false, false] rfl rfl rfl rfl rfl rfl (three_of HT_.out (by kernel_rfl)) (by decide) (by decide) (by decide) (fun K hK => ?_) (fun K hK => ?_) (fun K hK => ?_)
                          · skip
                            refine goes_ Try.func10 (by kernel_rfl) rfl #[.slice Aoc y123.length coc] (by rfl) rfl rfl (by (try simp only [List.map_toArray, List.map_cons, List.map_nil]); first | done | rfl | (simp only [List.length_drop, List.length_take]; rfl)) ?_
                            with_reducible refine (crc_Sum.calls k1 _ _ y123 t126 _ ?side1 ?side2 A22.out).mono ?_
                            case side1 => exact (Kd.N_reads' g0.out).2.2
                            case side2 => exact (Kd.N_reads' g0.out).2.1
                            rintro e w2 ⟨rfl, hb⟩
                            refine ⟨_, rfl, ?_⟩
                            refine hK.out _ _ trivial (fun hHeld => ?_)
                            clear hK K
                            refine norm_ (a' := ?_) ?_ ?_
                            rotate_left
                            · show Act.put _ (some 47) _ = _
                              simp only [Act.put, List.setIfInBounds_toArray, List.set_cons_zero, List.set_cons_succ, i64_w, i32_w]
                              rfl
                            exact norm_ (by first | (simp only [putAll, Act.put, List.setIfInBounds_toArray, List.set_cons_zero, List.set_cons_succ]; done) | (simp only [putAll, Act.put, List.setIfInBounds_toArray, List.set_cons_zero, List.set_cons_succ]; rfl)) (hJ1_03 (.slice Aoc y123.length coc, v3_) _ ⟨hb0.out.trans (hb.mono hb0.out.size), Kd.N_below g3.out hb⟩)
                          · skip
                            refine Kd.N_lit_step (Kd.slice 5 (Kd.int .u8)) _ 22 ?hg (N' := 51) ?hd (xs := ([y127] : List (List Int))) (inner := [.slice A1 y127.length c1]) (ok := fun _ => True) (okp := fun _ => True) ?hr ?hp (fun _ hk => hk) trivial (Below.refl _ _) (Nat.le_refl _) (by simp) ?_
                            case hd => rfl
                            case hg => rfl
                            case hr => first | (go_simp; done) | (go_simp; rfl)
                            case hp => exact Reps.one (Kd.FK_step hF1.out (fun k_ _ hk_ => hb0.out.block k_ hk_)) (Reps.none _ _)
                            intro v2 w2 ho hb hg_ hnew_
                            clear hg_ hnew_
                            rw [← Ny132.out] at ho
                            refine hK.out _ _ trivial (fun hHeld => ?_)
                            clear hK K
                            refine norm_ (a' := ?_) ?_ ?_
                            rotate_left
                            · show Act.put _ (some 51) _ = _
                              simp only [Act.put, List.setIfInBounds_toArray, List.set_cons_zero, List.set_cons_succ, i64_w, i32_w]
                              rfl
                            exact norm_ (by first | (simp only [putAll, Act.put, List.setIfInBounds_toArray, List.set_cons_zero, List.set_cons_succ]; done) | (simp only [putAll, Act.put, List.setIfInBounds_toArray, List.set_cons_zero, List.set_cons_succ]; rfl)) (hJ0_013 (.slice Aoc y123.length coc, v2, v3_) _ ⟨hb0.out.trans (hb.mono hb0.out.size), Kd.N_below g0.out hb, Kd.N_lower ho hb0.out.size, Kd.N_below g3.out hb⟩)
                          · skip
                            refine Kd.N_lit_step (Kd.slice 5 (Kd.int .u8)) _ 22 ?hg (N' := 57) ?hd (xs := ([y136] : List (List Int))) (inner := [.slice A2 y136.length c2]) (ok := fun _ => True) (okp := fun _ => True) ?hr ?hp (fun _ hk => hk) trivial (Below.refl _ _) (Nat.le_refl _) (by simp) ?_
                            case hd => rfl
                            case hg => rfl
                            case hr => first | (go_simp; done) | (go_simp; rfl)
                            case hp => exact Reps.one (Kd.FK_step hF2.out (fun k_ _ hk_ => hb0.out.block k_ hk_)) (Reps.none _ _)
                            intro v2 w2 ho hb hg_ hnew_
                            clear hg_ hnew_
                            rw [← Ny141.out] at ho
                            refine hK.out _ _ trivial (fun hHeld => ?_)
                            clear hK K
                            refine norm_ (a' := ?_) ?_ ?_
                            rotate_left
                            · show Act.put _ (some 57) _ = _
                              simp only [Act.put, List.setIfInBounds_toArray, List.set_cons_zero, List.set_cons_succ, i64_w, i32_w]
                              rfl
                            exact norm_ (by first | (simp only [putAll, Act.put, List.setIfInBounds_toArray, List.set_cons_zero, List.set_cons_succ]; done) | (simp only [putAll, Act.put, List.setIfInBounds_toArray, List.set_cons_zero, List.set_cons_succ]; rfl)) (hJ0_023 (.slice Aoc y123.length coc, v2, v3_) _ ⟨hb0.out.trans (hb.mono hb0.out.size), Kd.N_below g0.out hb, Kd.N_lower ho hb0.out.size, Kd.N_below g3.out hb⟩)
                        refine join_ (σ := Value × Value) 13 #[true, true, true, false, false, true, true, true, true, false, false, true, true, true, false, false, false, true, true, false, false, false, false, false, false] (fun s_ => [(51, s_.1), (61, s_.2)]) (fun s_ w' => (Below w32.heap.size w32 w') ∧ (Kd.N (Kd.slice 5 (Kd.int .u8)) 22 w' w32.heap.size (fun _ => True) s_.1 y132) ∧ (Kd.N (Kd.slice 5 (Kd.int .u8)) 22 w' w32.heap.size (fun _ => True) s_.2 y145)) ?_ (fun hJ0_13 => ?_)
                        · rintro ⟨v1_, v3_⟩ w1 ⟨hb0, g1, g3⟩
                          replace hb0 := Aside0.mk hb0
                          replace g1 := Aside0.mk g1
                          replace g3 := Aside0.mk g3
                          refine norm_ (a' := ?_) ?_ ?_
                          rotate_left
                          · simp only [putAll, Act.put, List.setIfInBounds_toArray, List.set_cons_zero, List.set_cons_succ]
                            rfl
                          refine two_ (i := 3) (j := 14) (Ni := some 46) (Nj := some 57) #[true, true, true, true, false, true, true, true, true, false, false, true, true, true, false, false, false, true, true, false, false, false, false, false, false] #[true, true, true, false, false, true, true, true, true, false, false, true, true, true, true, false, false, true, true, false, false, false, false, false, false] rfl rfl rfl rfl (two_of HT_.out (by kernel_rfl)) (by decide) (by decide) (fun K hK => ?_) (fun K hK => ?_)
                          · skip
                            refine Kd.N_lit_step (Kd.slice 5 (Kd.int .u8)) _ 22 ?hg (N' := 46) ?hd (xs := ([y118] : List (List Int))) (inner := [.slice A0 y118.length c0]) (ok := fun _ => True) (okp := fun _ => True) ?hr ?hp (fun _ hk => hk) trivial (Below.refl _ _) (Nat.le_refl _) (by simp) ?_
                            case hd => rfl
                            case hg => rfl
                            case hr => first | (go_simp; done) | (go_simp; rfl)
                            case hp => exact Reps.one (Kd.FK_step hF0.out (fun k_ _ hk_ => hb0.out.block k_ hk_)) (Reps.none _ _)
                            intro v2 w2 ho hb hg_ hnew_
                            clear hg_ hnew_
                            rw [← Ny123.out] at ho
                            refine hK.out _ _ trivial (fun hHeld => ?_)
                            clear hK K
                            refine norm_ (a' := ?_) ?_ ?_
                            rotate_left
                            · show Act.put _ (some 46) _ = _
                              simp only [Act.put, List.setIfInBounds_toArray, List.set_cons_zero, List.set_cons_succ, i64_w, i32_w]
                              rfl
                            exact norm_ (by first | (simp only [putAll, Act.put, List.setIfInBounds_toArray, List.set_cons_zero, List.set_cons_succ]; done) | (simp only [putAll, Act.put, List.setIfInBounds_toArray, List.set_cons_zero, List.set_cons_succ]; rfl)) (hJ0_013 (v2, v1_, v3_) _ ⟨hb0.out.trans (hb.mono hb0.out.size), Kd.N_lower ho hb0.out.size, Kd.N_below g1.out hb, Kd.N_below g3.out hb⟩)
                          · skip
                            refine Kd.N_lit_step (Kd.slice 5 (Kd.int .u8)) _ 22 ?hg (N' := 57) ?hd (xs := ([y136] : List (List Int))) (inner := [.slice A2 y136.length c2]) (ok := fun _ => True) (okp := fun _ => True) ?hr ?hp (fun _ hk => hk) trivial (Below.refl _ _) (Nat.le_refl _) (by simp) ?_
                            case hd => rfl
                            case hg => rfl
                            case hr => first | (go_simp; done) | (go_simp; rfl)
                            case hp => exact Reps.one (Kd.FK_step hF2.out (fun k_ _ hk_ => hb0.out.block k_ hk_)) (Reps.none _ _)
                            intro v2 w2 ho hb hg_ hnew_
                            clear hg_ hnew_
                            rw [← Ny141.out] at ho
                            refine hK.out _ _ trivial (fun hHeld => ?_)
                            clear hK K
                            refine norm_ (a' := ?_) ?_ ?_
                            rotate_left
                            · show Act.put _ (some 57) _ = _
                              simp only [Act.put, List.setIfInBounds_toArray, List.set_cons_zero, List.set_cons_succ, i64_w, i32_w]
                              rfl
                            exact norm_ (by first | (simp only [putAll, Act.put, List.setIfInBounds_toArray, List.set_cons_zero, List.set_cons_succ]; done) | (simp only [putAll, Act.put, List.setIfInBounds_toArray, List.set_cons_zero, List.set_cons_succ]; rfl)) (hJ0_123 (v1_, v2, v3_) _ ⟨hb0.out.trans (hb.mono hb0.out.size), Kd.N_below g1.out hb, Kd.N_lower ho hb0.out.size, Kd.N_below g3.out hb⟩)
                        refine join_ (σ := Value × Value) 13 #[true, true, true, false, false, true, true, true, false, false, false, true, true, true, true, false, false, true, true, false, false, false, false, false, false] (fun s_ => [(57, s_.1), (61, s_.2)]) (fun s_ w' => (Below w32.heap.size w32 w') ∧ (Kd.N (Kd.slice 5 (Kd.int .u8)) 22 w' w32.heap.size (fun _ => True) s_.1 y141) ∧ (Kd.N (Kd.slice 5 (Kd.int .u8)) 22 w' w32.heap.size (fun _ => True) s_.2 y145)) ?_ (fun hJ0_23 => ?_)
                        · rintro ⟨v2_, v3_⟩ w1 ⟨hb0, g2, g3⟩
                          replace hb0 := Aside0.mk hb0
                          replace g2 := Aside0.mk g2
                          replace g3 := Aside0.mk g3
                          refine norm_ (a' := ?_) ?_ ?_
                          rotate_left
                          · simp only [putAll, Act.put, List.setIfInBounds_toArray, List.set_cons_zero, List.set_cons_succ]
                            rfl
                          refine two_ (i := 3) (j := 8) (Ni := some 46) (Nj := some 51) #[true, true, true, true, false, true, true, true, false, false, false, true, true, true, true, false, false, true, true, false, false, false, false, false, false] #[true, true, true, false, false, true, true, true, true, false, false, true, true, true, true, false, false, true, true, false, false, false, false, false, false] rfl rfl rfl rfl (two_of HT_.out (by kernel_rfl)) (by decide) (by decide) (fun K hK => ?_) (fun K hK => ?_)
                          · skip
                            refine Kd.N_lit_step (Kd.slice 5 (Kd.int .u8)) _ 22 ?hg (N' := 46) ?hd (xs := ([y118] : List (List Int))) (inner := [.slice A0 y118.length c0]) (ok := fun _ => True) (okp := fun _ => True) ?hr ?hp (fun _ hk => hk) trivial (Below.refl _ _) (Nat.le_refl _) (by simp) ?_
                            case hd => rfl
                            case hg => rfl
                            case hr => first | (go_simp; done) | (go_simp; rfl)
                            case hp => exact Reps.one (Kd.FK_step hF0.out (fun k_ _ hk_ => hb0.out.block k_ hk_)) (Reps.none _ _)
                            intro v2 w2 ho hb hg_ hnew_
                            clear hg_ hnew_
                            rw [← Ny123.out] at ho
                            refine hK.out _ _ trivial (fun hHeld => ?_)
                            clear hK K
                            refine norm_ (a' := ?_) ?_ ?_
                            rotate_left
                            · show Act.put _ (some 46) _ = _
                              simp only [Act.put, List.setIfInBounds_toArray, List.set_cons_zero, List.set_cons_succ, i64_w, i32_w]
                              rfl
                            exact norm_ (by first | (simp only [putAll, Act.put, List.setIfInBounds_toArray, List.set_cons_zero, List.set_cons_succ]; done) | (simp only [putAll, Act.put, List.setIfInBounds_toArray, List.set_cons_zero, List.set_cons_succ]; rfl)) (hJ0_023 (v2, v2_, v3_) _ ⟨hb0.out.trans (hb.mono hb0.out.size), Kd.N_lower ho hb0.out.size, Kd.N_below g2.out hb, Kd.N_below g3.out hb⟩)
                          · skip
                            refine Kd.N_lit_step (Kd.slice 5 (Kd.int .u8)) _ 22 ?hg (N' := 51) ?hd (xs := ([y127] : List (List Int))) (inner := [.slice A1 y127.length c1]) (ok := fun _ => True) (okp := fun _ => True) ?hr ?hp (fun _ hk => hk) trivial (Below.refl _ _) (Nat.le_refl _) (by simp) ?_
                            case hd => rfl
                            case hg => rfl
                            case hr => first | (go_simp; done) | (go_simp; rfl)
                            case hp => exact Reps.one (Kd.FK_step hF1.out (fun k_ _ hk_ => hb0.out.block k_ hk_)) (Reps.none _ _)
                            intro v2 w2 ho hb hg_ hnew_
                            clear hg_ hnew_
                            rw [← Ny132.out] at ho
                            refine hK.out _ _ trivial (fun hHeld => ?_)
                            clear hK K
                            refine norm_ (a' := ?_) ?_ ?_
                            rotate_left
                            · show Act.put _ (some 51) _ = _
                              simp only [Act.put, List.setIfInBounds_toArray, List.set_cons_zero, List.set_cons_succ, i64_w, i32_w]
                              rfl
                            exact norm_ (by first | (simp only [putAll, Act.put, List.setIfInBounds_toArray, List.set_cons_zero, List.set_cons_succ]; done) | (simp only [putAll, Act.put, List.setIfInBounds_toArray, List.set_cons_zero, List.set_cons_succ]; rfl)) (hJ0_123 (v2, v2_, v3_) _ ⟨hb0.out.trans (hb.mono hb0.out.size), Kd.N_lower ho hb0.out.size, Kd.N_below g2.out hb, Kd.N_below g3.out hb⟩)
                        refine join_ (σ := Value) 13 #[true, true, true, true, true, true, true, true, false, false, false, true, true, true, false, false, false, true, false, false, false, false, false, false, false] (fun s_ => [(46, s_), (47, .int .u32 t126)]) (fun s_ w' => (Below w32.heap.size w32 w')) ?_ (fun hJ1_0 => ?_)
                        · rintro v0_ w1 hb0
                          replace hb0 := Aside0.mk hb0
                          refine norm_ (a' := ?_) ?_ ?_
                          rotate_left
                          · simp only [putAll, Act.put, List.setIfInBounds_toArray, List.set_cons_zero, List.set_cons_succ]
                            rfl
                          refine three_ (i := 8) (j := 14) (k := 18) (Ni := some 51) (Nj := some 57) (Nk := some 61) #[true, true, true, true, true, true, true, true, true, false, false, true, true, true, false, false, false, true, false, false, false, false, false, false, false] #[true, true, true, true, true, true, true, true, false, false, false, true, true, true, true, false, false, true, false, false, false, false, false, false, false] #[true, true, true, true, true, true, true, true, false, false, false, true, true, true, false, false, false, true, true, false, false, false, false, false, false] rfl rfl rfl rfl rfl rfl (three_of HT_.out (by kernel_rfl)) (by decide) (by decide) (by decide) (fun K hK => ?_) (fun K hK => ?_) (fun K hK => ?_)
                          · skip
                            refine Kd.N_lit_step (Kd.slice 5 (Kd.int .u8)) _ 22 ?hg (N' := 51) ?hd (xs := ([y127] : List (List Int))) (inner := [.slice A1 y127.length c1]) (ok := fun _ => True) (okp := fun _ => True) ?hr ?hp (fun _ hk => hk) trivial (Below.refl _ _) (Nat.le_refl _) (by simp) ?_
                            case hd => rfl
                            case hg => rfl
                            case hr => first | (go_simp; done) | (go_simp; rfl)
                            case hp => exact Reps.one (Kd.FK_step hF1.out (fun k_ _ hk_ => hb0.out.block k_ hk_)) (Reps.none _ _)
                            intro v2 w2 ho hb hg_ hnew_
                            clear hg_ hnew_
                            rw [← Ny132.out] at ho
                            refine hK.out _ _ trivial (fun hHeld => ?_)
                            clear hK K
                            refine norm_ (a' := ?_) ?_ ?_
                            rotate_left
                            · show Act.put _ (some 51) _ = _
                              simp only [Act.put, List.setIfInBounds_toArray, List.set_cons_zero, List.set_cons_succ, i64_w, i32_w]
                              rfl
                            exact norm_ (by first | (simp only [putAll, Act.put, List.setIfInBounds_toArray, List.set_cons_zero, List.set_cons_succ]; done) | (simp only [putAll, Act.put, List.setIfInBounds_toArray, List.set_cons_zero, List.set_cons_succ]; rfl)) (hJ1_01 (v0_, v2) _ ⟨hb0.out.trans (hb.mono hb0.out.size), Kd.N_lower ho hb0.out.size⟩)
                          · skip
                            refine Kd.N_lit_step (Kd.slice 5 (Kd.int .u8)) _ 22 ?hg (N' := 57) ?hd (xs := ([y136] : List (List Int))) (inner := [.slice A2 y136.length c2]) (ok := fun _ => True) (okp := fun _ => True) ?hr ?hp (fun _ hk => hk) trivial (Below.refl _ _) (Nat.le_refl _) (by simp) ?_
                            case hd => rfl
                            case hg => rfl
                            case hr => first | (go_simp; done) | (go_simp; rfl)
                            case hp => exact Reps.one (Kd.FK_step hF2.out (fun k_ _ hk_ => hb0.out.block k_ hk_)) (Reps.none _ _)
                            intro v2 w2 ho hb hg_ hnew_
                            clear hg_ hnew_
                            rw [← Ny141.out] at ho
                            refine hK.out _ _ trivial (fun hHeld => ?_)
                            clear hK K
                            refine norm_ (a' := ?_) ?_ ?_
                            rotate_left
                            · show Act.put _ (some 57) _ = _
                              simp only [Act.put, List.setIfInBounds_toArray, List.set_cons_zero, List.set_cons_succ, i64_w, i32_w]
                              rfl
                            exact norm_ (by first | (simp only [putAll, Act.put, List.setIfInBounds_toArray, List.set_cons_zero, List.set_cons_succ]; done) | (simp only [putAll, Act.put, List.setIfInBounds_toArray, List.set_cons_zero, List.set_cons_succ]; rfl)) (hJ1_02 (v0_, v2) _ ⟨hb0.out.trans (hb.mono hb0.out.size), Kd.N_lower ho hb0.out.size⟩)
                          · skip
                            refine Kd.N_lit_step (Kd.slice 5 (Kd.int .u8)) _ 22 ?hg (N' := 61) ?hd (xs := ([x8_1] : List (List Int))) (inner := [.slice Ao36 x8_1.length co36]) (ok := fun _ => True) (okp := fun _ => True) ?hr ?hp (fun _ hk => hk) trivial (Below.refl _ _) (Nat.le_refl _) (by simp) ?_
                            case hd => rfl
                            case hg => rfl
                            case hr => first | (go_simp; done) | (go_simp; rfl)
                            case hp => exact Reps.one (Kd.FK_step hF3.out (fun k_ _ hk_ => hb0.out.block k_ hk_)) (Reps.none _ _)
                            intro v2 w2 ho hb hg_ hnew_
                            clear hg_ hnew_
                            rw [← Ny145.out] at ho
                            refine hK.out _ _ trivial (fun hHeld => ?_)
                            clear hK K
                            refine norm_ (a' := ?_) ?_ ?_
                            rotate_left
                            · show Act.put _ (some 61) _ = _
                              simp only [Act.put, List.setIfInBounds_toArray, List.set_cons_zero, List.set_cons_succ, i64_w, i32_w]
                              rfl
                            exact norm_ (by first | (simp only [putAll, Act.put, List.setIfInBounds_toArray, List.set_cons_zero, List.set_cons_succ]; done) | (simp only [putAll, Act.put, List.setIfInBounds_toArray, List.set_cons_zero, List.set_cons_succ]; rfl)) (hJ1_03 (v0_, v2) _ ⟨hb0.out.trans (hb.mono hb0.out.size), Kd.N_lower ho hb0.out.size⟩)
                        refine join_ (σ := Value) 14 #[true, true, true, true, false, true, true, true, false, false, false, true, true, true, false, false, false, true, false, false, false, false, false, false, false] (fun s_ => [(46, s_)]) (fun s_ w' => (Below w32.heap.size w32 w') ∧ (Kd.N (Kd.slice 5 (Kd.int .u8)) 22 w' w32.heap.size (fun _ => True) s_ y123)) ?_ (fun hJ0_0 => ?_)
                        · rintro v0_ w1 ⟨hb0, g0⟩
                          replace hb0 := Aside0.mk hb0
                          replace g0 := Aside0.mk g0
                          obtain ⟨Aoc, coc, eoc⟩ := Kd.N_slice g0.out
                          subst eoc
                          refine norm_ (a' := ?_) ?_ ?_
                          rotate_left
                          · simp only [putAll, Act.put, List.setIfInBounds_toArray, List.set_cons_zero, List.set_cons_succ]
                            rfl
                          refine four_ (i := 4) (j := 8) (k := 14) (m := 18) (Ni := some 47) (Nj := some 51) (Nk := some 57) (Nm := some 61) #[true, true, true, true, true, true, true, true, false, false, false, true, true, true, false, false, false, true, false, false, false, false, false, false, false] #[true, true, true, true, false, true, true, true, true, false, false, true, true, true, false, false, false, true, false, false, false, false, false, false, false] #[true, true, true, true, false, true, true, true, false, false, false, true, true, true, true, false, false, true, false, false, false, false, false, false, false] #[true, true, true, true, false, true, true, true, false, false, false, true, true, true, false, false, false, true, true, false, false, false, false, false, false] rfl rfl rfl rfl rfl rfl rfl rfl (four_of HT_.out (by kernel_rfl)) (by decide) (by decide) (by decide) (by decide) (fun K hK => ?_) (fun K hK => ?_) (fun K hK => ?_) (fun K hK => ?_)
                          · skip
                            refine goes_ Try.func10 (by kernel_rfl) rfl #[.slice Aoc y123.length coc] (by rfl) rfl rfl (by (try simp only [List.map_toArray, List.map_cons, List.map_nil]); first | done | rfl | (simp only [List.length_drop, List.length_take]; rfl)) ?_
                            with_reducible refine (crc_Sum.calls k1 _ _ y123 t126 _ ?side1 ?side2 A22.out).mono ?_
                            case side1 => exact (Kd.N_reads' g0.out).2.2
                            case side2 => exact (Kd.N_reads' g0.out).2.1
                            rintro e w2 ⟨rfl, hb⟩
                            refine ⟨_, rfl, ?_⟩
                            refine hK.out _ _ trivial (fun hHeld => ?_)
                            clear hK K
                            refine norm_ (a' := ?_) ?_ ?_
                            rotate_left
                            · show Act.put _ (some 47) _ = _
                              simp only [Act.put, List.setIfInBounds_toArray, List.set_cons_zero, List.set_cons_succ, i64_w, i32_w]
                              rfl
                            exact norm_ (by first | (simp only [putAll, Act.put, List.setIfInBounds_toArray, List.set_cons_zero, List.set_cons_succ]; done) | (simp only [putAll, Act.put, List.setIfInBounds_toArray, List.set_cons_zero, List.set_cons_succ]; rfl)) (hJ1_0 (.slice Aoc y123.length coc) _ (hb0.out.trans (hb.mono hb0.out.size)))
                          · skip
                            refine Kd.N_lit_step (Kd.slice 5 (Kd.int .u8)) _ 22 ?hg (N' := 51) ?hd (xs := ([y127] : List (List Int))) (inner := [.slice A1 y127.length c1]) (ok := fun _ => True) (okp := fun _ => True) ?hr ?hp (fun _ hk => hk) trivial (Below.refl _ _) (Nat.le_refl _) (by simp) ?_
                            case hd => rfl
                            case hg => rfl
                            case hr => first | (go_simp; done) | (go_simp; rfl)
                            case hp => exact Reps.one (Kd.FK_step hF1.out (fun k_ _ hk_ => hb0.out.block k_ hk_)) (Reps.none _ _)
                            intro v2 w2 ho hb hg_ hnew_
                            clear hg_ hnew_
                            rw [← Ny132.out] at ho
                            refine hK.out _ _ trivial (fun hHeld => ?_)
                            clear hK K
                            refine norm_ (a' := ?_) ?_ ?_
                            rotate_left
                            · show Act.put _ (some 51) _ = _
                              simp only [Act.put, List.setIfInBounds_toArray, List.set_cons_zero, List.set_cons_succ, i64_w, i32_w]
                              rfl
                            exact norm_ (by first | (simp only [putAll, Act.put, List.setIfInBounds_toArray, List.set_cons_zero, List.set_cons_succ]; done) | (simp only [putAll, Act.put, List.setIfInBounds_toArray, List.set_cons_zero, List.set_cons_succ]; rfl)) (hJ0_01 (.slice Aoc y123.length coc, v2) _ ⟨hb0.out.trans (hb.mono hb0.out.size), Kd.N_below g0.out hb, Kd.N_lower ho hb0.out.size⟩)
                          · skip
                            refine Kd.N_lit_step (Kd.slice 5 (Kd.int .u8)) _ 22 ?hg (N' := 57) ?hd (xs := ([y136] : List (List Int))) (inner := [.slice A2 y136.length c2]) (ok := fun _ => True) (okp := fun _ => True) ?hr ?hp (fun _ hk => hk) trivial (Below.refl _ _) (Nat.le_refl _) (by simp) ?_
                            case hd => rfl
                            case hg => rfl
                            case hr => first | (go_simp; done) | (go_simp; rfl)
                            case hp => exact Reps.one (Kd.FK_step hF2.out (fun k_ _ hk_ => hb0.out.block k_ hk_)) (Reps.none _ _)
                            intro v2 w2 ho hb hg_ hnew_
                            clear hg_ hnew_
                            rw [← Ny141.out] at ho
                            refine hK.out _ _ trivial (fun hHeld => ?_)
                            clear hK K
                            refine norm_ (a' := ?_) ?_ ?_
                            rotate_left
                            · show Act.put _ (some 57) _ = _
                              simp only [Act.put, List.setIfInBounds_toArray, List.set_cons_zero, List.set_cons_succ, i64_w, i32_w]
                              rfl
                            exact norm_ (by first | (simp only [putAll, Act.put, List.setIfInBounds_toArray, List.set_cons_zero, List.set_cons_succ]; done) | (simp only [putAll, Act.put, List.setIfInBounds_toArray, List.set_cons_zero, List.set_cons_succ]; rfl)) (hJ0_02 (.slice Aoc y123.length coc, v2) _ ⟨hb0.out.trans (hb.mono hb0.out.size), Kd.N_below g0.out hb, Kd.N_lower ho hb0.out.size⟩)
                          · skip
                            refine Kd.N_lit_step (Kd.slice 5 (Kd.int .u8)) _ 22 ?hg (N' := 61) ?hd (xs := ([x8_1] : List (List Int))) (inner := [.slice Ao36 x8_1.length co36]) (ok := fun _ => True) (okp := fun _ => True) ?hr ?hp (fun _ hk => hk) trivial (Below.refl _ _) (Nat.le_refl _) (by simp) ?_
                            case hd => rfl
                            case hg => rfl
                            case hr => first | (go_simp; done) | (go_simp; rfl)
                            case hp => exact Reps.one (Kd.FK_step hF3.out (fun k_ _ hk_ => hb0.out.block k_ hk_)) (Reps.none _ _)
                            intro v2 w2 ho hb hg_ hnew_
                            clear hg_ hnew_
                            rw [← Ny145.out] at ho
                            refine hK.out _ _ trivial (fun hHeld => ?_)
                            clear hK K
                            refine norm_ (a' := ?_) ?_ ?_
                            rotate_left
                            · show Act.put _ (some 61) _ = _
                              simp only [Act.put, List.setIfInBounds_toArray, List.set_cons_zero, List.set_cons_succ, i64_w, i32_w]
                              rfl
                            exact norm_ (by first | (simp only [putAll, Act.put, List.setIfInBounds_toArray, List.set_cons_zero, List.set_cons_succ]; done) | (simp only [putAll, Act.put, List.setIfInBounds_toArray, List.set_cons_zero, List.set_cons_succ]; rfl)) (hJ0_03 (.slice Aoc y123.length coc, v2) _ ⟨hb0.out.trans (hb.mono hb0.out.size), Kd.N_below g0.out hb, Kd.N_lower ho hb0.out.size⟩)
                        refine join_ (σ := Value) 14 #[true, true, true, false, false, true, true, true, true, false, false, true, true, true, false, false, false, true, false, false, false, false, false, false, false] (fun s_ => [(51, s_)]) (fun s_ w' => (Below w32.heap.size w32 w') ∧ (Kd.N (Kd.slice 5 (Kd.int .u8)) 22 w' w32.heap.size (fun _ => True) s_ y132)) ?_ (fun hJ0_1 => ?_)
                        · rintro v1_ w1 ⟨hb0, g1⟩
                          replace hb0 := Aside0.mk hb0
                          replace g1 := Aside0.mk g1
                          refine norm_ (a' := ?_) ?_ ?_
                          rotate_left
                          · simp only [putAll, Act.put, List.setIfInBounds_toArray, List.set_cons_zero, List.set_cons_succ]
                            rfl
                          refine three_ (i := 3) (j := 14) (k := 18) (Ni := some 46) (Nj := some 57) (Nk := some 61) #[true, true, true, true, false, true, true, true, true, false, false, true, true, true, false, false, false, true, false, false, false, false, false, false, false] #[true, true, true, false, false, true, true, true, true, false, false, true, true, true, true, false, false, true, false, false, false, false, false, false, false] #[true, true, true, false, false, true, true, true, true, false, false, true, true, true, false, false, false, true, true, false, false, false, false, false, false] rfl rfl rfl rfl rfl rfl (three_of HT_.out (by kernel_rfl)) (by decide) (by decide) (by decide) (fun K hK => ?_) (fun K hK => ?_) (fun K hK => ?_)
                          · skip
                            refine Kd.N_lit_step (Kd.slice 5 (Kd.int .u8)) _ 22 ?hg (N' := 46) ?hd (xs := ([y118] : List (List Int))) (inner := [.slice A0 y118.length c0]) (ok := fun _ => True) (okp := fun _ => True) ?hr ?hp (fun _ hk => hk) trivial (Below.refl _ _) (Nat.le_refl _) (by simp) ?_
                            case hd => rfl
                            case hg => rfl
                            case hr => first | (go_simp; done) | (go_simp; rfl)
                            case hp => exact Reps.one (Kd.FK_step hF0.out (fun k_ _ hk_ => hb0.out.block k_ hk_)) (Reps.none _ _)
                            intro v2 w2 ho hb hg_ hnew_
                            clear hg_ hnew_
                            rw [← Ny123.out] at ho
                            refine hK.out _ _ trivial (fun hHeld => ?_)
                            clear hK K
                            refine norm_ (a' := ?_) ?_ ?_
                            rotate_left
                            · show Act.put _ (some 46) _ = _
                              simp only [Act.put, List.setIfInBounds_toArray, List.set_cons_zero, List.set_cons_succ, i64_w, i32_w]
                              rfl
                            exact norm_ (by first | (simp only [putAll, Act.put, List.setIfInBounds_toArray, List.set_cons_zero, List.set_cons_succ]; done) | (simp only [putAll, Act.put, List.setIfInBounds_toArray, List.set_cons_zero, List.set_cons_succ]; rfl)) (hJ0_01 (v2, v1_) _ ⟨hb0.out.trans (hb.mono hb0.out.size), Kd.N_lower ho hb0.out.size, Kd.N_below g1.out hb⟩)
                          · skip
                            refine Kd.N_lit_step (Kd.slice 5 (Kd.int .u8)) _ 22 ?hg (N' := 57) ?hd (xs := ([y136] : List (List Int))) (inner := [.slice A2 y136.length c2]) (ok := fun _ => True) (okp := fun _ => True) ?hr ?hp (fun _ hk => hk) trivial (Below.refl _ _) (Nat.le_refl _) (by simp) ?_
                            case hd => rfl
                            case hg => rfl
                            case hr => first | (go_simp; done) | (go_simp; rfl)
                            case hp => exact Reps.one (Kd.FK_step hF2.out (fun k_ _ hk_ => hb0.out.block k_ hk_)) (Reps.none _ _)
                            intro v2 w2 ho hb hg_ hnew_
                            clear hg_ hnew_
                            rw [← Ny141.out] at ho
                            refine hK.out _ _ trivial (fun hHeld => ?_)
                            clear hK K
                            refine norm_ (a' := ?_) ?_ ?_
                            rotate_left
                            · show Act.put _ (some 57) _ = _
                              simp only [Act.put, List.setIfInBounds_toArray, List.set_cons_zero, List.set_cons_succ, i64_w, i32_w]
                              rfl
                            exact norm_ (by first | (simp only [putAll, Act.put, List.setIfInBounds_toArray, List.set_cons_zero, List.set_cons_succ]; done) | (simp only [putAll, Act.put, List.setIfInBounds_toArray, List.set_cons_zero, List.set_cons_succ]; rfl)) (hJ0_12 (v1_, v2) _ ⟨hb0.out.trans (hb.mono hb0.out.size), Kd.N_below g1.out hb, Kd.N_lower ho hb0.out.size⟩)
                          · skip
                            refine Kd.N_lit_step (Kd.slice 5 (Kd.int .u8)) _ 22 ?hg (N' := 61) ?hd (xs := ([x8_1] : List (List Int))) (inner := [.slice Ao36 x8_1.length co36]) (ok := fun _ => True) (okp := fun _ => True) ?hr ?hp (fun _ hk => hk) trivial (Below.refl _ _) (Nat.le_refl _) (by simp) ?_
                            case hd => rfl
                            case hg => rfl
                            case hr => first | (go_simp; done) | (go_simp; rfl)
                            case hp => exact Reps.one (Kd.FK_step hF3.out (fun k_ _ hk_ => hb0.out.block k_ hk_)) (Reps.none _ _)
                            intro v2 w2 ho hb hg_ hnew_
                            clear hg_ hnew_
                            rw [← Ny145.out] at ho
                            refine hK.out _ _ trivial (fun hHeld => ?_)
                            clear hK K
                            refine norm_ (a' := ?_) ?_ ?_
                            rotate_left
                            · show Act.put _ (some 61) _ = _
                              simp only [Act.put, List.setIfInBounds_toArray, List.set_cons_zero, List.set_cons_succ, i64_w, i32_w]
                              rfl
                            exact norm_ (by first | (simp only [putAll, Act.put, List.setIfInBounds_toArray, List.set_cons_zero, List.set_cons_succ]; done) | (simp only [putAll, Act.put, List.setIfInBounds_toArray, List.set_cons_zero, List.set_cons_succ]; rfl)) (hJ0_13 (v1_, v2) _ ⟨hb0.out.trans (hb.mono hb0.out.size), Kd.N_below g1.out hb, Kd.N_lower ho hb0.out.size⟩)
                        refine join_ (σ := Value) 14 #[true, true, true, false, false, true, true, true, false, false, false, true, true, true, true, false, false, true, false, false, false, false, false, false, false] (fun s_ => [(57, s_)]) (fun s_ w' => (Below w32.heap.size w32 w') ∧ (Kd.N (Kd.slice 5 (Kd.int .u8)) 22 w' w32.heap.size (fun _ => True) s_ y141)) ?_ (fun hJ0_2 => ?_)
                        · rintro v2_ w1 ⟨hb0, g2⟩
                          replace hb0 := Aside0.mk hb0
                          replace g2 := Aside0.mk g2
                          refine norm_ (a' := ?_) ?_ ?_
                          rotate_left
                          · simp only [putAll, Act.put, List.setIfInBounds_toArray, List.set_cons_zero, List.set_cons_succ]
                            rfl
                          refine three_ (i := 3) (j := 8) (k := 18) (Ni := some 46) (Nj := some 51) (Nk := some 61) #[true, true, true, true, false, true, true, true, false, false, false, true, true, true, true, false, false, true, false, false, false, false, false, false, false] #[true, true, true, false, false, true, true, true, true, false, false, true, true, true, true, false, false, true, false, false, false, false, false, false, false] #[true, true, true, false, false, true, true, true, false, false, false, true, true, true, true, false, false, true, true, false, false, false, false, false, false] rfl rfl rfl rfl rfl rfl (three_of HT_.out (by kernel_rfl)) (by decide) (by decide) (by decide) (fun K hK => ?_) (fun K hK => ?_) (fun K hK => ?_)
                          · skip
                            refine Kd.N_lit_step (Kd.slice 5 (Kd.int .u8)) _ 22 ?hg (N' := 46) ?hd (xs := ([y118] : List (List Int))) (inner := [.slice A0 y118.length c0]) (ok := fun _ => True) (okp := fun _ => True) ?hr ?hp (fun _ hk => hk) trivial (Below.refl _ _) (Nat.le_refl _) (by simp) ?_
                            case hd => rfl
                            case hg => rfl
                            case hr => first | (go_simp; done) | (go_simp; rfl)
                            case hp => exact Reps.one (Kd.FK_step hF0.out (fun k_ _ hk_ => hb0.out.block k_ hk_)) (Reps.none _ _)
                            intro v2 w2 ho hb hg_ hnew_
                            clear hg_ hnew_
                            rw [← Ny123.out] at ho
                            refine hK.out _ _ trivial (fun hHeld => ?_)
                            clear hK K
                            refine norm_ (a' := ?_) ?_ ?_
                            rotate_left
                            · show Act.put _ (some 46) _ = _
                              simp only [Act.put, List.setIfInBounds_toArray, List.set_cons_zero, List.set_cons_succ, i64_w, i32_w]
                              rfl
                            exact norm_ (by first | (simp only [putAll, Act.put, List.setIfInBounds_toArray, List.set_cons_zero, List.set_cons_succ]; done) | (simp only [putAll, Act.put, List.setIfInBounds_toArray, List.set_cons_zero, List.set_cons_succ]; rfl)) (hJ0_02 (v2, v2_) _ ⟨hb0.out.trans (hb.mono hb0.out.size), Kd.N_lower ho hb0.out.size, Kd.N_below g2.out hb⟩)
                          · skip
                            refine Kd.N_lit_step (Kd.slice 5 (Kd.int .u8)) _ 22 ?hg (N' := 51) ?hd (xs := ([y127] : List (List Int))) (inner := [.slice A1 y127.length c1]) (ok := fun _ => True) (okp := fun _ => True) ?hr ?hp (fun _ hk => hk) trivial (Below.refl _ _) (Nat.le_refl _) (by simp) ?_
                            case hd => rfl
                            case hg => rfl
                            case hr => first | (go_simp; done) | (go_simp; rfl)
                            case hp => exact Reps.one (Kd.FK_step hF1.out (fun k_ _ hk_ => hb0.out.block k_ hk_)) (Reps.none _ _)
                            intro v2 w2 ho hb hg_ hnew_
                            clear hg_ hnew_
                            rw [← Ny132.out] at ho
                            refine hK.out _ _ trivial (fun hHeld => ?_)
                            clear hK K
                            refine norm_ (a' := ?_) ?_ ?_
                            rotate_left
                            · show Act.put _ (some 51) _ = _
                              simp only [Act.put, List.setIfInBounds_toArray, List.set_cons_zero, List.set_cons_succ, i64_w, i32_w]
                              rfl
                            exact norm_ (by first | (simp only [putAll, Act.put, List.setIfInBounds_toArray, List.set_cons_zero, List.set_cons_succ]; done) | (simp only [putAll, Act.put, List.setIfInBounds_toArray, List.set_cons_zero, List.set_cons_succ]; rfl)) (hJ0_12 (v2, v2_) _ ⟨hb0.out.trans (hb.mono hb0.out.size), Kd.N_lower ho hb0.out.size, Kd.N_below g2.out hb⟩)
                          · skip
                            refine Kd.N_lit_step (Kd.slice 5 (Kd.int .u8)) _ 22 ?hg (N' := 61) ?hd (xs := ([x8_1] : List (List Int))) (inner := [.slice Ao36 x8_1.length co36]) (ok := fun _ => True) (okp := fun _ => True) ?hr ?hp (fun _ hk => hk) trivial (Below.refl _ _) (Nat.le_refl _) (by simp) ?_
                            case hd => rfl
                            case hg => rfl
                            case hr => first | (go_simp; done) | (go_simp; rfl)
                            case hp => exact Reps.one (Kd.FK_step hF3.out (fun k_ _ hk_ => hb0.out.block k_ hk_)) (Reps.none _ _)
                            intro v2 w2 ho hb hg_ hnew_
                            clear hg_ hnew_
                            rw [← Ny145.out] at ho
                            refine hK.out _ _ trivial (fun hHeld => ?_)
                            clear hK K
                            refine norm_ (a' := ?_) ?_ ?_
                            rotate_left
                            · show Act.put _ (some 61) _ = _
                              simp only [Act.put, List.setIfInBounds_toArray, List.set_cons_zero, List.set_cons_succ, i64_w, i32_w]
                              rfl
                            exact norm_ (by first | (simp only [putAll, Act.put, List.setIfInBounds_toArray, List.set_cons_zero, List.set_cons_succ]; done) | (simp only [putAll, Act.put, List.setIfInBounds_toArray, List.set_cons_zero, List.set_cons_succ]; rfl)) (hJ0_23 (v2_, v2) _ ⟨hb0.out.trans (hb.mono hb0.out.size), Kd.N_below g2.out hb, Kd.N_lower ho hb0.out.size⟩)
                        refine join_ (σ := Value) 14 #[true, true, true, false, false, true, true, true, false, false, false, true, true, true, false, false, false, true, true, false, false, false, false, false, false] (fun s_ => [(61, s_)]) (fun s_ w' => (Below w32.heap.size w32 w') ∧ (Kd.N (Kd.slice 5 (Kd.int .u8)) 22 w' w32.heap.size (fun _ => True) s_ y145)) ?_ (fun hJ0_3 => ?_)
                        · rintro v3_ w1 ⟨hb0, g3⟩
                          replace hb0 := Aside0.mk hb0
                          replace g3 := Aside0.mk g3
                          refine norm_ (a' := ?_) ?_ ?_
                          rotate_left
                          · simp only [putAll, Act.put, List.setIfInBounds_toArray, List.set_cons_zero, List.set_cons_succ]
                            rfl
                          refine three_ (i := 3) (j := 8) (k := 14) (Ni := some 46) (Nj := some 51) (Nk := some 57) #[true, true, true, true, false, true, true, true, false, false, false, true, true, true, false, false, false, true, true, false, false, false, false, false, false] #[true, true, true, false, false, true, true, true, true, false, false, true, true, true, false, false, false, true, true, false, false, false, false, false, false] #[true, true, true, false, false, true, true, true, false, false, false, true, true, true, true, false, false, true, true, false, false, false, false, false, false] rfl rfl rfl rfl rfl rfl (three_of HT_.out (by kernel_rfl)) (by decide) (by decide) (by decide) (fun K hK => ?_) (fun K hK => ?_) (fun K hK => ?_)
                          · skip
                            refine Kd.N_lit_step (Kd.slice 5 (Kd.int .u8)) _ 22 ?hg (N' := 46) ?hd (xs := ([y118] : List (List Int))) (inner := [.slice A0 y118.length c0]) (ok := fun _ => True) (okp := fun _ => True) ?hr ?hp (fun _ hk => hk) trivial (Below.refl _ _) (Nat.le_refl _) (by simp) ?_
                            case hd => rfl
                            case hg => rfl
                            case hr => first | (go_simp; done) | (go_simp; rfl)
                            case hp => exact Reps.one (Kd.FK_step hF0.out (fun k_ _ hk_ => hb0.out.block k_ hk_)) (Reps.none _ _)
                            intro v2 w2 ho hb hg_ hnew_
                            clear hg_ hnew_
                            rw [← Ny123.out] at ho
                            refine hK.out _ _ trivial (fun hHeld => ?_)
                            clear hK K
                            refine norm_ (a' := ?_) ?_ ?_
                            rotate_left
                            · show Act.put _ (some 46) _ = _
                              simp only [Act.put, List.setIfInBounds_toArray, List.set_cons_zero, List.set_cons_succ, i64_w, i32_w]
                              rfl
                            exact norm_ (by first | (simp only [putAll, Act.put, List.setIfInBounds_toArray, List.set_cons_zero, List.set_cons_succ]; done) | (simp only [putAll, Act.put, List.setIfInBounds_toArray, List.set_cons_zero, List.set_cons_succ]; rfl)) (hJ0_03 (v2, v3_) _ ⟨hb0.out.trans (hb.mono hb0.out.size), Kd.N_lower ho hb0.out.size, Kd.N_below g3.out hb⟩)
                          · skip
                            refine Kd.N_lit_step (Kd.slice 5 (Kd.int .u8)) _ 22 ?hg (N' := 51) ?hd (xs := ([y127] : List (List Int))) (inner := [.slice A1 y127.length c1]) (ok := fun _ => True) (okp := fun _ => True) ?hr ?hp (fun _ hk => hk) trivial (Below.refl _ _) (Nat.le_refl _) (by simp) ?_
                            case hd => rfl
                            case hg => rfl
                            case hr => first | (go_simp; done) | (go_simp; rfl)
                            case hp => exact Reps.one (Kd.FK_step hF1.out (fun k_ _ hk_ => hb0.out.block k_ hk_)) (Reps.none _ _)
                            intro v2 w2 ho hb hg_ hnew_
                            clear hg_ hnew_
                            rw [← Ny132.out] at ho
                            refine hK.out _ _ trivial (fun hHeld => ?_)
                            clear hK K
                            refine norm_ (a' := ?_) ?_ ?_
                            rotate_left
                            · show Act.put _ (some 51) _ = _
                              simp only [Act.put, List.setIfInBounds_toArray, List.set_cons_zero, List.set_cons_succ, i64_w, i32_w]
                              rfl
                            exact norm_ (by first | (simp only [putAll, Act.put, List.setIfInBounds_toArray, List.set_cons_zero, List.set_cons_succ]; done) | (simp only [putAll, Act.put, List.setIfInBounds_toArray, List.set_cons_zero, List.set_cons_succ]; rfl)) (hJ0_13 (v2, v3_) _ ⟨hb0.out.trans (hb.mono hb0.out.size), Kd.N_lower ho hb0.out.size, Kd.N_below g3.out hb⟩)
                          · skip
                            refine Kd.N_lit_step (Kd.slice 5 (Kd.int .u8)) _ 22 ?hg (N' := 57) ?hd (xs := ([y136] : List (List Int))) (inner := [.slice A2 y136.length c2]) (ok := fun _ => True) (okp := fun _ => True) ?hr ?hp (fun _ hk => hk) trivial (Below.refl _ _) (Nat.le_refl _) (by simp) ?_
                            case hd => rfl
                            case hg => rfl
                            case hr => first | (go_simp; done) | (go_simp; rfl)
                            case hp => exact Reps.one (Kd.FK_step hF2.out (fun k_ _ hk_ => hb0.out.block k_ hk_)) (Reps.none _ _)
                            intro v2 w2 ho hb hg_ hnew_
                            clear hg_ hnew_
                            rw [← Ny141.out] at ho
                            refine hK.out _ _ trivial (fun hHeld => ?_)
                            clear hK K
                            refine norm_ (a' := ?_) ?_ ?_
                            rotate_left
                            · show Act.put _ (some 57) _ = _
                              simp only [Act.put, List.setIfInBounds_toArray, List.set_cons_zero, List.set_cons_succ, i64_w, i32_w]
                              rfl
                            exact norm_ (by first | (simp only [putAll, Act.put, List.setIfInBounds_toArray, List.set_cons_zero, List.set_cons_succ]; done) | (simp only [putAll, Act.put, List.setIfInBounds_toArray, List.set_cons_zero, List.set_cons_succ]; rfl)) (hJ0_23 (v2, v3_) _ ⟨hb0.out.trans (hb.mono hb0.out.size), Kd.N_lower ho hb0.out.size, Kd.N_below g3.out hb⟩)
                        have hb0 := Aside0.mk (Below.refl w32.heap.size w32)
                        refine four_ (i := 3) (j := 8) (k := 14) (m := 18) (Ni := some 46) (Nj := some 51) (Nk := some 57) (Nm := some 61) #[true, true, true, true, false, true, true, true, false, false, false, true, true, true, false, false, false, true, false, false, false, false, false, false, false] #[true, true, true, false, false, true, true, true, true, false, false, true, true, true, false, false, false, true, false, false, false, false, false, false, false] #[true, true, true, false, false, true, true, true, false, false, false, true, true, true, true, false, false, true, false, false, false, false, false, false, false] #[true, true, true, false, false, true, true, true, false, false, false, true, true, true, false, false, false, true, true, false, false, false, false, false, false] rfl rfl rfl rfl rfl rfl rfl rfl (four_of HT_.out (by kernel_rfl)) (by decide) (by decide) (by decide) (by decide) (fun K hK => ?_) (fun K hK => ?_) (fun K hK => ?_) (fun K hK => ?_)
                        · skip
                          refine Kd.N_lit_step (Kd.slice 5 (Kd.int .u8)) _ 22 ?hg (N' := 46) ?hd (xs := ([y118] : List (List Int))) (inner := [.slice A0 y118.length c0]) (ok := fun _ => True) (okp := fun _ => True) ?hr ?hp (fun _ hk => hk) trivial (Below.refl _ _) (Nat.le_refl _) (by simp) ?_
                          case hd => rfl
                          case hg => rfl
                          case hr => first | (go_simp; done) | (go_simp; rfl)
                          case hp => exact Reps.one (Kd.FK_step hF0.out (fun k_ _ hk_ => hb0.out.block k_ hk_)) (Reps.none _ _)
                          intro v2 w2 ho hb hg_ hnew_
                          clear hg_ hnew_
                          rw [← Ny123.out] at ho
                          refine hK.out _ _ trivial (fun hHeld => ?_)
                          clear hK K
                          refine norm_ (a' := ?_) ?_ ?_
                          rotate_left
                          · show Act.put _ (some 46) _ = _
                            simp only [Act.put, List.setIfInBounds_toArray, List.set_cons_zero, List.set_cons_succ, i64_w, i32_w]
                            rfl
                          exact norm_ (by first | (simp only [putAll, Act.put, List.setIfInBounds_toArray, List.set_cons_zero, List.set_cons_succ]; done) | (simp only [putAll, Act.put, List.setIfInBounds_toArray, List.set_cons_zero, List.set_cons_succ]; rfl)) (hJ0_0 (v2) _ ⟨hb0.out.trans (hb.mono hb0.out.size), Kd.N_lower ho hb0.out.size⟩)
                        · skip
                          refine Kd.N_lit_step (Kd.slice 5 (Kd.int .u8)) _ 22 ?hg (N' := 51) ?hd (xs := ([y127] : List (List Int))) (inner := [.slice A1 y127.length c1]) (ok := fun _ => True) (okp := fun _ => True) ?hr ?hp (fun _ hk => hk) trivial (Below.refl _ _) (Nat.le_refl _) (by simp) ?_
                          case hd => rfl
                          case hg => rfl
                          case hr => first | (go_simp; done) | (go_simp; rfl)
                          case hp => exact Reps.one (Kd.FK_step hF1.out (fun k_ _ hk_ => hb0.out.block k_ hk_)) (Reps.none _ _)
                          intro v2 w2 ho hb hg_ hnew_
                          clear hg_ hnew_
                          rw [← Ny132.out] at ho
                          refine hK.out _ _ trivial (fun hHeld => ?_)
                          clear hK K
                          refine norm_ (a' := ?_) ?_ ?_
                          rotate_left
                          · show Act.put _ (some 51) _ = _
                            simp only [Act.put, List.setIfInBounds_toArray, List.set_cons_zero, List.set_cons_succ, i64_w, i32_w]
                            rfl
                          exact norm_ (by first | (simp only [putAll, Act.put, List.setIfInBounds_toArray, List.set_cons_zero, List.set_cons_succ]; done) | (simp only [putAll, Act.put, List.setIfInBounds_toArray, List.set_cons_zero, List.set_cons_succ]; rfl)) (hJ0_1 (v2) _ ⟨hb0.out.trans (hb.mono hb0.out.size), Kd.N_lower ho hb0.out.size⟩)
                        · skip
                          refine Kd.N_lit_step (Kd.slice 5 (Kd.int .u8)) _ 22 ?hg (N' := 57) ?hd (xs := ([y136] : List (List Int))) (inner := [.slice A2 y136.length c2]) (ok := fun _ => True) (okp := fun _ => True) ?hr ?hp (fun _ hk => hk) trivial (Below.refl _ _) (Nat.le_refl _) (by simp) ?_
                          case hd => rfl
                          case hg => rfl
                          case hr => first | (go_simp; done) | (go_simp; rfl)
                          case hp => exact Reps.one (Kd.FK_step hF2.out (fun k_ _ hk_ => hb0.out.block k_ hk_)) (Reps.none _ _)
                          intro v2 w2 ho hb hg_ hnew_
                          clear hg_ hnew_
                          rw [← Ny141.out] at ho
                          refine hK.out _ _ trivial (fun hHeld => ?_)
                          clear hK K
                          refine norm_ (a' := ?_) ?_ ?_
                          rotate_left
                          · show Act.put _ (some 57) _ = _
                            simp only [Act.put, List.setIfInBounds_toArray, List.set_cons_zero, List.set_cons_succ, i64_w, i32_w]
                            rfl
                          exact norm_ (by first | (simp only [putAll, Act.put, List.setIfInBounds_toArray, List.set_cons_zero, List.set_cons_succ]; done) | (simp only [putAll, Act.put, List.setIfInBounds_toArray, List.set_cons_zero, List.set_cons_succ]; rfl)) (hJ0_2 (v2) _ ⟨hb0.out.trans (hb.mono hb0.out.size), Kd.N_lower ho hb0.out.size⟩)
                        · skip
                          refine Kd.N_lit_step (Kd.slice 5 (Kd.int .u8)) _ 22 ?hg (N' := 61) ?hd (xs := ([x8_1] : List (List Int))) (inner := [.slice Ao36 x8_1.length co36]) (ok := fun _ => True) (okp := fun _ => True) ?hr ?hp (fun _ hk => hk) trivial (Below.refl _ _) (Nat.le_refl _) (by simp) ?_
                          case hd => rfl
                          case hg => rfl
                          case hr => first | (go_simp; done) | (go_simp; rfl)
                          case hp => exact Reps.one (Kd.FK_step hF3.out (fun k_ _ hk_ => hb0.out.block k_ hk_)) (Reps.none _ _)
                          intro v2 w2 ho hb hg_ hnew_
                          clear hg_ hnew_
                          rw [← Ny145.out] at ho
                          refine hK.out _ _ trivial (fun hHeld => ?_)
                          clear hK K
                          refine norm_ (a' := ?_) ?_ ?_
                          rotate_left
                          · show Act.put _ (some 61) _ = _
                            simp only [Act.put, List.setIfInBounds_toArray, List.set_cons_zero, List.set_cons_succ, i64_w, i32_w]
                            rfl
                          exact norm_ (by first | (simp only [putAll, Act.put, List.setIfInBounds_toArray, List.set_cons_zero, List.set_cons_succ]; done) | (simp only [putAll, Act.put, List.setIfInBounds_toArray, List.set_cons_zero, List.set_cons_succ]; rfl)) (hJ0_3 (v2) _ ⟨hb0.out.trans (hb.mono hb0.out.size), Kd.N_lower ho hb0.out.size⟩)
                      · rw [if_neg c30] at H
                        exact absurd H (by simp)
                    · rw [if_neg c27] at H
                      exact absurd H (by simp)
                  · rw [if_neg c24] at H
                    exact absurd H (by simp)
                · rw [if_neg c21] at H
                  exact absurd H (by simp)
              · rw [if_neg c20] at H
                exact absurd H (by simp)
      · rw [if_neg c8] at H
        exact absurd H (by simp)
    · rw [if_neg c7] at H
      exact absurd H (by simp)

/-- THE ONE PURE STATEMENT of rubricatorlaw2_CrcXor: yours. -/
def rubricatorlaw2_CrcXor.Pure : Prop := ∀ (l0 : List Int) (l1 : List Int) (l2 : List Int), l0.length ≤ maxLen → l0.length * 1 ≤ 140737488351232 → (∀ x ∈ l0, (Lit.int .u8 x).wf = true) → l1.length ≤ maxLen → l1.length * 1 ≤ 140737488351232 → (∀ x ∈ l1, (Lit.int .u8 x).wf = true) → l2.length ≤ maxLen → l2.length * 1 ≤ 140737488351232 → (∀ x ∈ l2, (Lit.int .u8 x).wf = true) → ∃ k, rubricatorlaw2_CrcXor.f k l0 l1 l2 = some true
theorem rubricatorlaw2_CrcXor.walk (P : rubricatorlaw2_CrcXor.Pure) (a0 : Option Addr) (len0 cap0 : Nat) (z0 : List Int) (a1 : Option Addr) (len1 cap1 : Nat) (z1 : List Int) (a2 : Option Addr) (len2 cap2 : Nat) (z2 : List Int) (w : World) (w0 : (a0 = none ∧ len0 = 0 ∧ cap0 = 0 ∧ z0 = []) ∨ ∃ x, a0 = some x ∧ len0 ≤ cap0 ∧ cap0 ≤ maxLen ∧ z0.length = cap0 ∧ (∀ i, i < z0.length → w.cell? (x.add i) = some (.int .u8 (z0.getD i 0))) ∧ ∀ n ∈ z0, (Lit.int .u8 n).wf = true) (y0 : len0 * 1 ≤ 140737488351232) (w1 : (a1 = none ∧ len1 = 0 ∧ cap1 = 0 ∧ z1 = []) ∨ ∃ x, a1 = some x ∧ len1 ≤ cap1 ∧ cap1 ≤ maxLen ∧ z1.length = cap1 ∧ (∀ i, i < z1.length → w.cell? (x.add i) = some (.int .u8 (z1.getD i 0))) ∧ ∀ n ∈ z1, (Lit.int .u8 n).wf = true) (y1 : len1 * 1 ≤ 140737488351232) (w2 : (a2 = none ∧ len2 = 0 ∧ cap2 = 0 ∧ z2 = []) ∨ ∃ x, a2 = some x ∧ len2 ≤ cap2 ∧ cap2 ≤ maxLen ∧ z2.length = cap2 ∧ (∀ i, i < z2.length → w.cell? (x.add i) = some (.int .u8 (z2.getD i 0))) ∧ ∀ n ∈ z2, (Lit.int .u8 n).wf = true) (y2 : len2 * 1 ≤ 140737488351232) :
    Calls Try.prog 6 #[.slice a0 len0 cap0, .slice a1 len1 cap1, .slice a2 len2 cap2] w fun e w' => e = .returned (.bool true) ∧ Below w.heap.size w w' := by
  obtain ⟨l0, rfl, hr0, hm0, hw0, hc0⟩ := ReadsInt.ofRowC w0
  obtain ⟨l1, rfl, hr1, hm1, hw1, hc1⟩ := ReadsInt.ofRowC w1
  obtain ⟨l2, rfl, hr2, hm2, hw2, hc2⟩ := ReadsInt.ofRowC w2
  obtain ⟨k, h⟩ := P l0 l1 l2 hm0 y0 hw0 hm1 y1 hw1 hm2 y2 hw2
  refine (rubricatorlaw2_CrcXor.calls k (fun k_ => k_ < w.heap.size) _ _ l0 (fun k_ => k_ < w.heap.size) _ _ l1 (fun k_ => k_ < w.heap.size) _ _ l2 true w (Kd.V_mk hc0 (Kd.C_F (Kd.heap_int .u8) (Kd.C_of_reads (d := (0 : Int)) (h1 := fun _ => rfl) hr0))) (Kd.V_mk hc1 (Kd.C_F (Kd.heap_int .u8) (Kd.C_of_reads (d := (0 : Int)) (h1 := fun _ => rfl) hr1))) (Kd.V_mk hc2 (Kd.C_F (Kd.heap_int .u8) (Kd.C_of_reads (d := (0 : Int)) (h1 := fun _ => rfl) hr2))) h).mono ?_
  rintro e w' ⟨rfl, hd⟩
  exact ⟨rfl, hd⟩

end Go.Proofs.Ytlfcolmepieknaa.PA
