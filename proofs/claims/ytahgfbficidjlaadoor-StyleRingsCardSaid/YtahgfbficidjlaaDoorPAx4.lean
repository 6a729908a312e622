-- Printed by a program of this workplace (a turned printer): functions, and proofs that the calls come to them.
import Derived.Test.YtahgfbficidjlaaDoorPAx0
import Derived.Test.YtahgfbficidjlaaDoorPAx1
import Derived.Test.YtahgfbficidjlaaDoorPAx2
import Derived.Test.YtahgfbficidjlaaDoorPAx3
namespace Go.Proofs.YtahgfbficidjlaaDoor.PA
open Go.RowKit Go.Proofs.YtahgfbficidjlaaDoorW.PrintWords Go.Proofs.YtahgfbficidjlaaDoorW.PrintLast Go.Proofs.YtahgfbficidjlaaDoorW.PrintMore
attribute [local go_sem] max2_int min2_int max_two min_two max_three min_three max_four min_four   -- for this text's walks alone
set_option linter.unusedVariables false
set_option linter.unusedSimpArgs false

attribute [local go_sem high] eqA35
/-! ### rubricatorlaw14_styles: function 11 -/
def rubricatorlaw14_styles.l0 : Nat → List (S35) → List (S35) → Int → Option (Bool)
  | 0, _, _, _ => none
  | k + 1, x0, x1, x5 => if x5 < (x0.length : Int) then (if 0 ≤ x5 then (if x5 < (x1.length : Int) then (if (!((((rd_T35 x0 x5).f0).toList) == (((rd_T35 x1 x5).f0).toList)) || (!((((rd_T35 x0 x5).f1).toList) == (((rd_T35 x1 x5).f1).toList)) || (!(((rd_T35 x0 x5).f2) == ((rd_T35 x1 x5).f2)) || (!(((rd_T35 x0 x5).f3) == ((rd_T35 x1 x5).f3)) || (!(((rd_T35 x0 x5).f4) == ((rd_T35 x1 x5).f4)) || (!(((rd_T35 x0 x5).f5) == ((rd_T35 x1 x5).f5)))))))) = true then (some false) else (rubricatorlaw14_styles.l0 k x0 x1 (wrap64 (x5 + 1)))) else (none)) else (none)) else (some true)
def rubricatorlaw14_styles.f (k : Nat) (l0 : List (S35)) (l1 : List (S35)) : Option (Bool) := if (l0.length : Int) = (l1.length : Int) then (rubricatorlaw14_styles.l0 k l0 l1 0) else (some false)
theorem rubricatorlaw14_styles.mono_l : ∀ k, (∀ y0 y1 y2, LeO (rubricatorlaw14_styles.l0 k y0 y1 y2) (rubricatorlaw14_styles.l0 (k + 1) y0 y1 y2))
  | 0 => fun _ _ _ r h => by simp [rubricatorlaw14_styles.l0] at h
  | k + 1 => by
    have ih0 := rubricatorlaw14_styles.mono_l k
    · intro y0 y1 y2
      unfold rubricatorlaw14_styles.l0
      repeat' first
      | (with_reducible exact ih0 _ _ _)
      | (with_reducible exact LeO.refl _)
      | (with_reducible exact LeO.none _)
      | (with_reducible refine LeO.ite ?_ ?_)
      | (with_reducible refine LeO.bind ?_ (fun _ => ?_))
      | exact ih0 _ _ _
      | exact LeO.none _
      | refine LeO.ite ?_ ?_
      | refine LeO.bind ?_ (fun _ => ?_)
theorem rubricatorlaw14_styles.mono : ∀ a0 a1 k, LeO (rubricatorlaw14_styles.f k a0 a1) (rubricatorlaw14_styles.f (k + 1) a0 a1) := by
  intro a0 a1 k
  have ih0 := rubricatorlaw14_styles.mono_l k
  unfold rubricatorlaw14_styles.f
  repeat' first
      | (with_reducible exact ih0 _ _ _)
      | (with_reducible exact LeO.refl _)
      | (with_reducible exact LeO.none _)
      | (with_reducible refine LeO.ite ?_ ?_)
      | (with_reducible refine LeO.bind ?_ (fun _ => ?_))
      | exact ih0 _ _ _
      | exact LeO.none _
      | refine LeO.ite ?_ ?_
      | refine LeO.bind ?_ (fun _ => ?_)
set_option maxHeartbeats 8000000 in
set_option maxRecDepth 100000 in
theorem rubricatorlaw14_styles.calls (k : Nat) (A0 : Option Addr) (c0 : Nat) (l0 : List (S35)) (A1 : Option Addr) (c1 : Nat) (l1 : List (S35)) (r : Bool) (w : World) (hr0 : Kd.C k35 w A0 l0.length l0) (hc0 : l0.length ≤ c0) (hr1 : Kd.C k35 w A1 l1.length l1) (hc1 : l1.length ≤ c1) (h : rubricatorlaw14_styles.f k l0 l1 = some r) :
    Calls Tryd.prog 11 #[.slice A0 l0.length c0, .slice A1 l1.length c1] w fun e w' => e = .returned (.bool r) ∧ Drawn0 w w' := by
  have hu35 := Tryd.underlying35
  have HR0 := Aside0.mk hr0
  have HC0 := Aside0.mk hc0
  clear hr0 hc0
  have HR1 := Aside0.mk hr1
  have HC1 := Aside0.mk hc1
  clear hr1 hc1
  have H : (if (l0.length : Int) = (l1.length : Int) then (rubricatorlaw14_styles.l0 k l0 l1 0) else (some false)) = some r := h
  clear h
  by_cases c3 : (l0.length : Int) = (l1.length : Int)
  · rw [if_pos c3] at H
    have c3b0 : ((l0.length : Int) == (l1.length : Int)) = true := beq_iff_eq.mpr c3
    have c3b1 : ((l0.length : Int) != (l1.length : Int)) = false := bne_eq_false_iff_eq.mpr c3
    have c3b2 : (l0.length == l1.length) = true := by first | simpa using c3 | (simp at c3 ⊢; omega)
    clear c3
    have H' := Aside0.mk H
    clear H
    go_enter Tryd.func11, Tryd.ntmps11
    go_wp2
    repeat (go_quiet (fail); try go_wp2)
    go_loopg [5] k (fun kq v5 w' => ∃ (x5_1 : Int), v5 = .int .i64 x5_1 ∧ Aside0 (rubricatorlaw14_styles.l0 kq l0 l1 x5_1 = some r) ∧ Aside0 (kq ≤ k) ∧ Drawn0 w w')
    case atStart => exact ⟨(0), (by first | rfl | (simp; done) | (simp [*]; done)), H', ⟨Nat.le_refl _⟩, by repeat (first | exact Drawn0.refl _ | apply Drawn0.step)⟩
    case round =>
      clear H'
      try clear c1
      try clear p2
      try clear c3
      try clear c3b0
      try clear c3b1
      try clear c3b2
      obtain ⟨x5_1, rfl, HA, HK1, ⟨m1, rfl⟩⟩ := hrel
      cases gk with
      | zero => exact absurd HA.out (by simp [rubricatorlaw14_styles.l0])
      | succ k1 =>
        have H := HA.out
        clear HA
        simp only [rubricatorlaw14_styles.l0] at H
        by_cases c4 : x5_1 < (l0.length : Int)
        · rw [if_pos c4] at H
          have c4b0 : decide (x5_1 < (l0.length : Int)) = true := decide_eq_true c4
          clear c4
          by_cases c5 : 0 ≤ x5_1
          · rw [if_pos c5] at H
            have c5b0 : decide (0 ≤ x5_1) = true := decide_eq_true c5
            clear c5
            by_cases c6 : x5_1 < (l1.length : Int)
            · rw [if_pos c6] at H
              have c6b0 : decide (x5_1 < (l1.length : Int)) = true := decide_eq_true c6
              clear c6
              by_cases c7 : (!((((rd_T35 l0 x5_1).f0).toList) == (((rd_T35 l1 x5_1).f0).toList)) || (!((((rd_T35 l0 x5_1).f1).toList) == (((rd_T35 l1 x5_1).f1).toList)) || (!(((rd_T35 l0 x5_1).f2) == ((rd_T35 l1 x5_1).f2)) || (!(((rd_T35 l0 x5_1).f3) == ((rd_T35 l1 x5_1).f3)) || (!(((rd_T35 l0 x5_1).f4) == ((rd_T35 l1 x5_1).f4)) || (!(((rd_T35 l0 x5_1).f5) == ((rd_T35 l1 x5_1).f5)))))))) = true
              · rw [if_pos c7] at H
                have c7b0 : (!((((rd_T35 l0 x5_1).f0).toList) == (((rd_T35 l1 x5_1).f0).toList)) || (!((((rd_T35 l0 x5_1).f1).toList) == (((rd_T35 l1 x5_1).f1).toList)) || (!(((rd_T35 l0 x5_1).f2) == ((rd_T35 l1 x5_1).f2)) || (!(((rd_T35 l0 x5_1).f3) == ((rd_T35 l1 x5_1).f3)) || (!(((rd_T35 l0 x5_1).f4) == ((rd_T35 l1 x5_1).f4)) || (!(((rd_T35 l0 x5_1).f5) == ((rd_T35 l1 x5_1).f5)))))))) = true := c7
                clear c7
                obtain rfl := Option.some.inj H
                have p120 : 0 ≤ (x5_1 : Int) := of_decide_eq_true (by first | (with_reducible assumption) | assumption)
                have q120 : x5_1 < (l0.length : Int) := of_decide_eq_true (by first | (with_reducible assumption) | assumption)
                obtain ⟨ad120, e120, hx120_0, hx120_1, hx120_2, hx120_3, hx120_4, hx120_5⟩ := at_T35 HR0.out x5_1 p120 q120
                cases e120
                replace p120 := eq_true p120
                replace q120 := eq_true q120
                have p121 : 0 ≤ (x5_1 : Int) := of_decide_eq_true (by first | (with_reducible assumption) | assumption)
                have q121 : x5_1 < (l1.length : Int) := of_decide_eq_true (by first | (with_reducible assumption) | assumption)
                obtain ⟨ad121, e121, hx121_0, hx121_1, hx121_2, hx121_3, hx121_4, hx121_5⟩ := at_T35 HR1.out x5_1 p121 q121
                cases e121
                replace p121 := eq_true p121
                replace q121 := eq_true q121
                go_wp2
                repeat (go_quiet (fail); try go_wp2)
                go_ret
                exact ⟨by first | rfl | (simp; done) | (simp [*]; done), by repeat (first | exact Drawn0.refl _ | apply Drawn0.step)⟩
              · rw [if_neg c7] at H
                have c7b0 : (!((((rd_T35 l0 x5_1).f0).toList) == (((rd_T35 l1 x5_1).f0).toList)) || (!((((rd_T35 l0 x5_1).f1).toList) == (((rd_T35 l1 x5_1).f1).toList)) || (!(((rd_T35 l0 x5_1).f2) == ((rd_T35 l1 x5_1).f2)) || (!(((rd_T35 l0 x5_1).f3) == ((rd_T35 l1 x5_1).f3)) || (!(((rd_T35 l0 x5_1).f4) == ((rd_T35 l1 x5_1).f4)) || (!(((rd_T35 l0 x5_1).f5) == ((rd_T35 l1 x5_1).f5)))))))) = false := by simpa using c7
                clear c7
                have H' := Aside0.mk H
                clear H
                have p120 : 0 ≤ (x5_1 : Int) := of_decide_eq_true (by first | (with_reducible assumption) | assumption)
                have q120 : x5_1 < (l0.length : Int) := of_decide_eq_true (by first | (with_reducible assumption) | assumption)
                obtain ⟨ad120, e120, hx120_0, hx120_1, hx120_2, hx120_3, hx120_4, hx120_5⟩ := at_T35 HR0.out x5_1 p120 q120
                cases e120
                replace p120 := eq_true p120
                replace q120 := eq_true q120
                have p121 : 0 ≤ (x5_1 : Int) := of_decide_eq_true (by first | (with_reducible assumption) | assumption)
                have q121 : x5_1 < (l1.length : Int) := of_decide_eq_true (by first | (with_reducible assumption) | assumption)
                obtain ⟨ad121, e121, hx121_0, hx121_1, hx121_2, hx121_3, hx121_4, hx121_5⟩ := at_T35 HR1.out x5_1 p121 q121
                cases e121
                replace p121 := eq_true p121
                replace q121 := eq_true q121
                go_wp2
                repeat (go_quiet (fail); try go_wp2)
                go_roundg k1
                case measure => have := HK1.out; omega
                case rel => exact ⟨(wrap64 (x5_1 + 1)), (by first | rfl | (simp; done) | (simp [*]; done)), H', ⟨by have := HK1.out; omega⟩, by repeat (first | exact Drawn0.refl _ | apply Drawn0.step)⟩
            · rw [if_neg c6] at H
              exact absurd H (by simp)
          · rw [if_neg c5] at H
            exact absurd H (by simp)
        · rw [if_neg c4] at H
          have c4b0 : decide (x5_1 < (l0.length : Int)) = false := decide_eq_false c4
          clear c4
          obtain rfl := Option.some.inj H
          go_wp2
          repeat (go_quiet (fail); try go_wp2)
          go_ret
          exact ⟨by first | rfl | (simp; done) | (simp [*]; done), by repeat (first | exact Drawn0.refl _ | apply Drawn0.step)⟩
  · rw [if_neg c3] at H
    have c3b0 : ((l0.length : Int) == (l1.length : Int)) = false := beq_eq_false_iff_ne.mpr c3
    have c3b1 : ((l0.length : Int) != (l1.length : Int)) = true := bne_iff_ne.mpr c3
    have c3b2 : (l0.length == l1.length) = false := by first | simpa using c3 | (simp at c3 ⊢; omega)
    obtain rfl := Option.some.inj H
    go_enter Tryd.func11, Tryd.ntmps11
    go_wp2
    repeat (go_quiet (fail); try go_wp2)
    go_ret
    exact ⟨by first | rfl | (simp; done) | (simp [*]; done), by repeat (first | exact Drawn0.refl _ | apply Drawn0.step)⟩

-- NOT PRINTED: function 35 (strconv_small)

-- NOT PRINTED: function 39 (strconv_log10Pow2)

-- NOT PRINTED: function 40 (bits_Len64)

-- NOT PRINTED: function 41 (strconv_bool2_int)

-- NOT PRINTED: function 36 (strconv_numDigits)

-- NOT PRINTED: function 37 (strconv_formatBase10)

-- NOT PRINTED: function 42 (strconv_isPowerOfTwo)

-- NOT PRINTED: function 44 (bits_TrailingZeros32)

-- NOT PRINTED: function 45 (bits_TrailingZeros64)

-- NOT PRINTED: function 43 (bits_TrailingZeros)

-- NOT PRINTED: function 38 (strconv_formatBits)

-- NOT PRINTED: function 34 (strconv_FormatInt)

-- NOT PRINTED: function 31 (strconv_Itoa_31)

/-! ### strconv_Itoa_22: function 22 -/
def strconv_Itoa_22.f (a0 : Int) : Option ByteArray := if 0 ≤ a0 ∧ a0 < 10 then some ⟨#[(48 + a0.toNat).toUInt8]⟩ else none
set_option maxHeartbeats 8000000 in
set_option maxRecDepth 100000 in
theorem strconv_Itoa_22.small (i : Int) (h0 : 0 ≤ i) (h1 : i < 10) (w : World) : Calls Tryd.prog 35 #[.int .i64 i] w fun e w' => e = .returned (.string ⟨#[(48 + i.toNat).toUInt8]⟩) ∧ w' = w := by
  obtain ⟨n, rfl⟩ := Int.eq_ofNat_of_zero_le h0
  have hn : n < 10 := by omega
  clear h0 h1
  rcases n with _ | _ | _ | _ | _ | _ | _ | _ | _ | _ | n
  all_goals first
    | omega
    | (go_enter Tryd.func35, Tryd.ntmps35
       go_wp2
       go_ret
       exact ⟨rfl, rfl⟩)
theorem strconv_Itoa_22.calls (a0 : Int) (r : ByteArray) (w : World) (h : strconv_Itoa_22.f a0 = some r) :
    Calls Tryd.prog 22 #[.int .i64 a0] w fun e w' => e = .returned (.string r) ∧ Drawn0 w w' := by
  unfold strconv_Itoa_22.f at h
  split at h
  case isFalse => cases h
  rename_i hh
  obtain rfl := Option.some.inj h
  have hs := strconv_Itoa_22.small a0 hh.1 hh.2
  generalize (⟨#[(48 + a0.toNat).toUInt8]⟩ : ByteArray) = s at hs ⊢
  have h0 : decide (0 ≤ a0) = true := decide_eq_true hh.1
  have h1 : decide (a0 < 100) = true := decide_eq_true (by omega)
  have hF : ∀ W, Calls Tryd.prog 34 #[.int .i64 a0, .int .i64 10] W fun e w' => e = .returned (.string s) ∧ w' = W := fun W => by
    go_enter Tryd.func34, Tryd.ntmps34
    go_wp2_with (go_at_call 35; refine (hs _).mono ?_; rintro e w2 ⟨rfl, rfl⟩)
    go_ret
    exact ⟨rfl, rfl⟩
  have hG : ∀ W, Calls Tryd.prog 31 #[.int .i64 a0] W fun e w' => e = .returned (.string s) ∧ w' = W := fun W => by
    go_enter Tryd.func31, Tryd.ntmps31
    go_wp2_with (go_at_call 34; refine (hF _).mono ?_; rintro e w2 ⟨rfl, rfl⟩)
    go_ret
    exact ⟨rfl, rfl⟩
  go_enter Tryd.func22, Tryd.ntmps22
  go_wp2_with (go_at_call 31; refine (hG _).mono ?_; rintro e w2 ⟨rfl, rfl⟩)
  go_ret
  exact ⟨rfl, Drawn0.refl _⟩

/-! ### style_Standard: function 13 -/
mutual
def style_Standard.l0 : Nat → List (S35) → Int → Option ((List (S35)))
  | 0, _, _ => none
  | k + 1, x1, x2 => if x2 ≤ 6 then ((strconv_Itoa_22.f x2).bind fun t141 => (if 7 + t141.size ≤ 9223372036854775807 then (if x1.length < 2199023255552 then (style_Standard.l0 k (x1 ++ [(⟨(⟨#[72, 101, 97, 100, 105, 110, 103]⟩ : ByteArray) ++ t141, (⟨#[78, 111, 114, 109, 97, 108]⟩ : ByteArray), false, 0, 0, x2⟩ : S35)]) (wrap64 (x2 + 1))) else (none)) else (none))) else ((some (([(⟨#[67, 111, 100, 101]⟩ : ByteArray), (⟨#[82, 117, 108, 101]⟩ : ByteArray), (⟨#[79, 112, 101, 110, 101, 114]⟩ : ByteArray)] : List ByteArray) : List ByteArray)).bind fun y145 => (style_Standard.l1 k x1 y145 (y145.length : Int) 0))
def style_Standard.l1 : Nat → List (S35) → List ByteArray → Int → Int → Option ((List (S35)))
  | 0, _, _, _, _ => none
  | k + 1, x1, x19, x20, x21 => if x21 < x20 then (if 0 ≤ x21 then (if x21 < (x19.length : Int) then (if x1.length < 2199023255552 then (style_Standard.l1 k (x1 ++ [(⟨rdOf ByteArray.empty x19 x21, (⟨#[78, 111, 114, 109, 97, 108]⟩ : ByteArray), false, 0, 0, 0⟩ : S35)]) x19 x20 (wrap64 (x21 + 1))) else (none)) else (none)) else (none)) else (if x1.length < 2199023255552 then (some (x1 ++ [(⟨(⟨#[67, 111, 100, 101, 84, 101, 120, 116]⟩ : ByteArray), (⟨#[]⟩ : ByteArray), true, 0, 0, 0⟩ : S35)])) else (none))
end
def style_Standard.f (k : Nat)  : Option ((List (S35))) := style_Standard.l0 k (([(⟨(⟨#[78, 111, 114, 109, 97, 108]⟩ : ByteArray), (⟨#[]⟩ : ByteArray), false, 0, 0, 0⟩ : S35)] : List (S35))) 1
theorem style_Standard.mono_l : ∀ k, (∀ y0 y1, LeO (style_Standard.l0 k y0 y1) (style_Standard.l0 (k + 1) y0 y1)) ∧ (∀ y0 y1 y2 y3, LeO (style_Standard.l1 k y0 y1 y2 y3) (style_Standard.l1 (k + 1) y0 y1 y2 y3))
  | 0 => ⟨fun _ _ r h => by simp [style_Standard.l0] at h, fun _ _ _ _ r h => by simp [style_Standard.l1] at h⟩
  | k + 1 => by
    obtain ⟨ih0, ih1⟩ := style_Standard.mono_l k
    refine ⟨?_, ?_⟩
    · intro y0 y1
      unfold style_Standard.l0
      repeat' first
      | (with_reducible exact ih0 _ _)
      | (with_reducible exact ih1 _ _ _ _)
      | (with_reducible exact LeO.refl _)
      | (with_reducible exact LeO.none _)
      | (with_reducible refine LeO.ite ?_ ?_)
      | (with_reducible refine LeO.bind ?_ (fun _ => ?_))
      | exact ih0 _ _
      | exact ih1 _ _ _ _
      | exact LeO.none _
      | refine LeO.ite ?_ ?_
      | refine LeO.bind ?_ (fun _ => ?_)
    · intro y0 y1 y2 y3
      unfold style_Standard.l1
      repeat' first
      | (with_reducible exact ih0 _ _)
      | (with_reducible exact ih1 _ _ _ _)
      | (with_reducible exact LeO.refl _)
      | (with_reducible exact LeO.none _)
      | (with_reducible refine LeO.ite ?_ ?_)
      | (with_reducible refine LeO.bind ?_ (fun _ => ?_))
      | exact ih0 _ _
      | exact ih1 _ _ _ _
      | exact LeO.none _
      | refine LeO.ite ?_ ?_
      | refine LeO.bind ?_ (fun _ => ?_)
theorem style_Standard.mono : ∀ k, LeO (style_Standard.f k ) (style_Standard.f (k + 1) ) := by
  intro  k
  obtain ⟨ih0, ih1⟩ := style_Standard.mono_l k
  unfold style_Standard.f
  repeat' first
      | (with_reducible exact ih0 _ _)
      | (with_reducible exact ih1 _ _ _ _)
      | (with_reducible exact LeO.refl _)
      | (with_reducible exact LeO.none _)
      | (with_reducible refine LeO.ite ?_ ?_)
      | (with_reducible refine LeO.bind ?_ (fun _ => ?_))
      | exact ih0 _ _
      | exact ih1 _ _ _ _
      | exact LeO.none _
      | refine LeO.ite ?_ ?_
      | refine LeO.bind ?_ (fun _ => ?_)
set_option maxHeartbeats 8000000 in
set_option maxRecDepth 100000 in
theorem style_Standard.calls (k : Nat)  (r : List (S35)) (w : World) (h : style_Standard.f k  = some r) :
    Calls Tryd.prog 13 #[] w fun e w' => ∃ v0_ : Value, e = .returned (v0_) ∧ Kd.R k35 35 w' w.heap.size (fun _ => True) v0_ r ∧ Below w.heap.size w w' := by
  have hu35 := Tryd.underlying35
  have HB := Aside0.mk (Below.refl w.heap.size w)
  have H : (style_Standard.l0 k (([(⟨(⟨#[78, 111, 114, 109, 97, 108]⟩ : ByteArray), (⟨#[]⟩ : ByteArray), false, 0, 0, 0⟩ : S35)] : List (S35))) 1) = some r := h
  clear h
  obtain ⟨y138, hy138⟩ : ∃ y_ : List (S35), y_ = (([(⟨(⟨#[78, 111, 114, 109, 97, 108]⟩ : ByteArray), (⟨#[]⟩ : ByteArray), false, 0, 0, 0⟩ : S35)] : List (S35))) := ⟨_, rfl⟩
  replace H : (style_Standard.l0 k y138 1) = some r := by first | (rw [hy138]; with_reducible exact H) | (have H2_ := (Option.bind_some _ _).symm.trans H; rw [hy138]; with_reducible exact H2_) | (have H2_ := (Option.bind_some _ _).symm.trans H; with_reducible exact H2_) | with_reducible exact H | (rw [hy138]; exact H) | exact H
  have Ny138 := Aside0.mk hy138
  clear hy138
  have H' := Aside0.mk H
  clear H
  go_enter Tryd.func13, Tryd.ntmps13
  go_wp2_with (first | ((with_reducible refine gate_dst (N := 6) rfl ?_); refine Kd.R_lit k35 _ 35 ?hg (N := 6) ?hd (xs := ([(⟨(⟨#[78, 111, 114, 109, 97, 108]⟩ : ByteArray), (⟨#[]⟩ : ByteArray), false, 0, 0, 0⟩ : S35)] : List (S35))) (inner := [.string (⟨#[78, 111, 114, 109, 97, 108]⟩ : ByteArray), .string (⟨#[]⟩ : ByteArray), .bool false, .int .i64 0, .int .i64 0, .int .i64 0]) (ok := fun _ => True) (okp := fun _ => True) ?hr ?hp (fun _ hk => hk) trivial (Below.refl _ _) (Nat.le_refl _) (by simp) ?_; (case hd => rfl); (case hg => rfl); (case hr => first | (go_simp; done) | (go_simp; rfl)); (case hp => exact (Reps.c6 (show Kd.M k35 _ _ _ (⟨(⟨#[78, 111, 114, 109, 97, 108]⟩ : ByteArray), (⟨#[]⟩ : ByteArray), false, 0, 0, 0⟩ : S35) [.string (⟨#[78, 111, 114, 109, 97, 108]⟩ : ByteArray), .string (⟨#[]⟩ : ByteArray), .bool false, .int .i64 0, .int .i64 0, .int .i64 0] from (k35_mkM _ _ _ (⟨(⟨#[78, 111, 114, 109, 97, 108]⟩ : ByteArray), (⟨#[]⟩ : ByteArray), false, 0, 0, 0⟩ : S35) )) (Reps.none _ _))); intro v139 w1 ho2 hb hg_ hnew_; clear hg_ hnew_; (first | rw [← Ny138.out] at ho2 | (simp only [Int.reduceToNat] at ho2; rw [← Ny138.out] at ho2)); have n0_ := Aside0.mk (Kd.R_lower ho2 (below_size (by repeat (first | (with_reducible first | exact HB.out | apply below_alloc | apply pw_below_drewN | apply below_drew1) | exact HB.out)))); have n1_ := Aside0.mk (below_step (by repeat (first | (with_reducible first | exact HB.out | apply below_alloc | apply pw_below_drewN | apply below_drew1) | exact HB.out)) hb); clear HB; have HO140 := n0_; have HB := n1_; clear n0_ n1_; clear hb ho2))
  go_loopg [1, 2] k (fun kq v1 v2 w' => ∃ (x1_1 : List (S35)) (x2_1 : Int), v2 = .int .i64 x2_1 ∧ Aside0 (style_Standard.l0 kq x1_1 x2_1 = some r) ∧ Aside0 (kq ≤ k) ∧ Aside0 (Kd.R k35 35 w' w.heap.size (fun _ => True) v1 x1_1) ∧ Aside0 (Below w.heap.size w w'))
  case atStart => exact ⟨(y138), (1), (by first | rfl | (simp; done) | (simp [*]; done)), H', ⟨Nat.le_refl _⟩, ⟨by (with_reducible repeat (first | apply Kd.R_alloc | apply Kd.R_drewN | apply Kd.R_drew)); exact HO140.out⟩, ⟨by repeat (first | (with_reducible first | exact HB.out | apply below_alloc | apply pw_below_drewN | apply below_drew1) | exact HB.out)⟩⟩
  case round =>
    clear H'
    try clear c1
    try clear p2
    obtain ⟨x1_1, x2_1, rfl, HA, HK1, HO_1, HB⟩ := hrel
    cases gk with
    | zero => exact absurd HA.out (by simp [style_Standard.l0])
    | succ k1 =>
      have H := HA.out
      clear HA
      simp only [style_Standard.l0] at H
      by_cases c3 : x2_1 ≤ 6
      · rw [if_pos c3] at H
        have c3b0 : decide (x2_1 ≤ 6) = true := decide_eq_true c3
        clear c3
        replace H := Option.bind_eq_some_iff.mp H
        obtain ⟨t141, A40, H⟩ := H
        replace H : (if 7 + t141.size ≤ 9223372036854775807 then (if x1_1.length < 2199023255552 then (style_Standard.l0 k1 (x1_1 ++ [(⟨(⟨#[72, 101, 97, 100, 105, 110, 103]⟩ : ByteArray) ++ t141, (⟨#[78, 111, 114, 109, 97, 108]⟩ : ByteArray), false, 0, 0, x2_1⟩ : S35)]) (wrap64 (x2_1 + 1))) else (none)) else (none)) = some r := H
        have A4 := Aside0.mk A40
        clear A40
        by_cases c5 : 7 + t141.size ≤ 9223372036854775807
        · rw [if_pos c5] at H
          have c5b0 := eq_true c5
          have c5b1 : decide (7 + t141.size ≤ 9223372036854775807) = true := decide_eq_true c5
          try have c5b2 : (9223372036854775807 < 7 + t141.size) = False := eq_false (Nat.not_lt.2 c5)
          by_cases c6 : x1_1.length < 2199023255552
          · rw [if_pos c6] at H
            have LMc6 := Aside0.mk c6
            clear c6
            obtain ⟨y142, hy142⟩ : ∃ y_ : List (S35), y_ = (x1_1 ++ [(⟨(⟨#[72, 101, 97, 100, 105, 110, 103]⟩ : ByteArray) ++ t141, (⟨#[78, 111, 114, 109, 97, 108]⟩ : ByteArray), false, 0, 0, x2_1⟩ : S35)]) := ⟨_, rfl⟩
            replace H : (style_Standard.l0 k1 y142 (wrap64 (x2_1 + 1))) = some r := by first | (rw [hy142]; with_reducible exact H) | (have H2_ := (Option.bind_some _ _).symm.trans H; rw [hy142]; with_reducible exact H2_) | (have H2_ := (Option.bind_some _ _).symm.trans H; with_reducible exact H2_) | with_reducible exact H | (rw [hy142]; exact H) | exact H
            have Ny142 := Aside0.mk hy142
            clear hy142
            have H' := Aside0.mk H
            clear H
            go_wp2_with (first | ((with_reducible refine gate_callee (f := 22) rfl ?_); refine goesL_ (some 13) rfl rfl Tryd.func22 (by kernel_rfl) rfl #[.int .i64 x2_1] rfl (by (try simp only [List.map_toArray, List.map_cons, List.map_nil]); first | done | rfl | (simp only [List.length_drop, List.length_take]; rfl)) ?_; (with_reducible refine (strconv_Itoa_22.calls x2_1 t141 _ A4.out).mono ?_); rintro e w' ⟨rfl, ⟨nd, rfl⟩⟩; refine ⟨_, rfl, ?_⟩) | ((with_reducible refine gate_builtin (b := .append) (xs := #[.tmp 11, .tmp 17]) rfl ?_); at_builtin; refine Kd.R_append k35 (w0 := w) w.heap.size rfl (.tmp 11) (.tmp 17) 22 35 (.agg #[(.string ⟨#[]⟩), (.string ⟨#[]⟩), (.bool false), (.int .i64 0), (.int .i64 0), (.int .i64 0)]) 64 rfl Tryd.underlying22 info35 rfl (by decide) (by omega) u1 x1_1 (⟨(⟨#[72, 101, 97, 100, 105, 110, 103]⟩ : ByteArray) ++ t141, (⟨#[78, 111, 114, 109, 97, 108]⟩ : ByteArray), false, 0, 0, x2_1⟩ : S35) [.string ((⟨#[72, 101, 97, 100, 105, 110, 103]⟩ : ByteArray) ++ t141), .string (⟨#[78, 111, 114, 109, 97, 108]⟩ : ByteArray), .bool false, .int .i64 0, .int .i64 0, .int .i64 x2_1] (fun _ => True) (fun _ => False) rfl rfl ?aP (fun _ hk => hk.elim) ?aF ?aO ?aB ?aS ?aL ?_; (case aP => exact k35_mkM _ _ _ (⟨(⟨#[72, 101, 97, 100, 105, 110, 103]⟩ : ByteArray) ++ t141, (⟨#[78, 111, 114, 109, 97, 108]⟩ : ByteArray), false, 0, 0, x2_1⟩ : S35)); (case aB => exact (by repeat (first | (with_reducible first | exact HB.out | apply below_alloc | apply pw_below_drewN | apply below_drew1) | exact HB.out))); (case aF => exact (fun _ _ => trivial)); (case aO => exact (by (with_reducible repeat (first | apply Kd.R_alloc | apply Kd.R_drewN | apply Kd.R_drew)); exact HO_1.out)); (case aS => exact (below_size (by repeat (first | (with_reducible first | exact HB.out | apply below_alloc | apply pw_below_drewN | apply below_drew1) | exact HB.out)))); (case aL => have := LMc6.out; omega); intro v143 w7 ho hb hg hat; rw [← Ny142.out] at ho; have n0_ := Aside0.mk (hb); have n1_ := Aside0.mk (ho); clear HB; clear HO_1; have HB := n0_; have HO144 := n1_; clear n0_ n1_; clear ho hb hg hat))
            go_roundg k1
            case measure => have := HK1.out; omega
            case rel => exact ⟨(y142), (wrap64 (x2_1 + 1)), (by first | rfl | (simp; done) | (simp [*]; done)), H', ⟨by have := HK1.out; omega⟩, ⟨by (with_reducible repeat (first | apply Kd.R_alloc | apply Kd.R_drewN | apply Kd.R_drew)); exact HO144.out⟩, ⟨by repeat (first | (with_reducible first | exact HB.out | apply below_alloc | apply pw_below_drewN | apply below_drew1) | exact HB.out)⟩⟩
          · rw [if_neg c6] at H
            exact absurd H (by simp)
        · rw [if_neg c5] at H
          exact absurd H (by simp)
      · rw [if_neg c3] at H
        have c3b0 : decide (x2_1 ≤ 6) = false := decide_eq_false c3
        clear c3
        obtain ⟨y145, hy145⟩ : ∃ y_ : List ByteArray, y_ = (([(⟨#[67, 111, 100, 101]⟩ : ByteArray), (⟨#[82, 117, 108, 101]⟩ : ByteArray), (⟨#[79, 112, 101, 110, 101, 114]⟩ : ByteArray)] : List ByteArray)) := ⟨_, rfl⟩
        replace H : (style_Standard.l1 k1 x1_1 y145 (y145.length : Int) 0) = some r := by first | (rw [hy145]; with_reducible exact H) | (have H2_ := (Option.bind_some _ _).symm.trans H; rw [hy145]; with_reducible exact H2_) | (have H2_ := (Option.bind_some _ _).symm.trans H; with_reducible exact H2_) | with_reducible exact H | (rw [hy145]; exact H) | exact H
        have Ny145 := Aside0.mk hy145
        clear hy145
        have H' := Aside0.mk H
        clear H
        go_wp2_with (first | ((with_reducible refine gate_dst (N := 19) rfl ?_); refine Kd.R_lit Kd.string _ 9 ?hg (N := 19) ?hd (xs := ([(⟨#[67, 111, 100, 101]⟩ : ByteArray), (⟨#[82, 117, 108, 101]⟩ : ByteArray), (⟨#[79, 112, 101, 110, 101, 114]⟩ : ByteArray)] : List ByteArray)) (inner := [.string (⟨#[67, 111, 100, 101]⟩ : ByteArray), .string (⟨#[82, 117, 108, 101]⟩ : ByteArray), .string (⟨#[79, 112, 101, 110, 101, 114]⟩ : ByteArray)]) (ok := fun _ => True) (okp := fun _ => True) ?hr ?hp (fun _ hk => hk) trivial (Below.refl _ _) (Nat.le_refl _) (by simp) ?_; (case hd => rfl); (case hg => rfl); (case hr => first | (go_simp; done) | (go_simp; rfl)); (case hp => exact (Reps.one (show Kd.M Kd.string _ _ _ (⟨#[67, 111, 100, 101]⟩ : ByteArray) [.string (⟨#[67, 111, 100, 101]⟩ : ByteArray)] from rfl) (Reps.one (show Kd.M Kd.string _ _ _ (⟨#[82, 117, 108, 101]⟩ : ByteArray) [.string (⟨#[82, 117, 108, 101]⟩ : ByteArray)] from rfl) (Reps.one (show Kd.M Kd.string _ _ _ (⟨#[79, 112, 101, 110, 101, 114]⟩ : ByteArray) [.string (⟨#[79, 112, 101, 110, 101, 114]⟩ : ByteArray)] from rfl) (Reps.none _ _))))); intro v146 w8 ho9 hb hg_ hnew_; clear hg_ hnew_; (first | rw [← Ny145.out] at ho9 | (simp only [Int.reduceToNat] at ho9; rw [← Ny145.out] at ho9)); have n0_ := Aside0.mk (Kd.R_below (by (with_reducible repeat (first | apply Kd.R_alloc | apply Kd.R_drewN | apply Kd.R_drew)); exact HO_1.out) hb); have n1_ := Aside0.mk (Kd.R_lower ho9 (below_size (by repeat (first | (with_reducible first | exact HB.out | apply below_alloc | apply pw_below_drewN | apply below_drew1) | exact HB.out)))); have n2_ := Aside0.mk (below_step (by repeat (first | (with_reducible first | exact HB.out | apply below_alloc | apply pw_below_drewN | apply below_drew1) | exact HB.out)) hb); clear HO_1; clear HB; have HO_1 := n0_; have HO147 := n1_; have HB := n2_; clear n0_ n1_ n2_; clear hb ho9; obtain ⟨Ao10, co10, eo10⟩ := Kd.R_slice HO147.out; subst eo10))
        go_loopg [1, 21] k1 (fun kq v1 v21 w' => ∃ (x1_2 : List (S35)) (x21_2 : Int), v21 = .int .i64 x21_2 ∧ Aside0 (style_Standard.l1 kq x1_2 y145 (y145.length : Int) x21_2 = some r) ∧ Aside0 (kq ≤ k1) ∧ Aside0 (Kd.R k35 35 w' w.heap.size (fun _ => True) v1 x1_2) ∧ Aside0 (Kd.R Kd.string 9 w' w.heap.size (fun _ => True) (.slice Ao10 y145.length co10) y145) ∧ Aside0 (Below w.heap.size w w'))
        case atStart => exact ⟨(x1_1), (0), (by first | rfl | (simp; done) | (simp [*]; done)), H', ⟨Nat.le_refl _⟩, ⟨by (with_reducible repeat (first | apply Kd.R_alloc | apply Kd.R_drewN | apply Kd.R_drew)); exact HO_1.out⟩, ⟨by (with_reducible repeat (first | apply Kd.R_alloc | apply Kd.R_drewN | apply Kd.R_drew)); exact HO147.out⟩, ⟨by repeat (first | (with_reducible first | exact HB.out | apply below_alloc | apply pw_below_drewN | apply below_drew1) | exact HB.out)⟩⟩
        case round =>
          clear H'
          try clear c1
          try clear c2
          try clear p2
          try clear c3
          try clear c3b0
          try clear c5
          try clear c5b0
          try clear c5b1
          try clear c5b2
          try clear c6
          try clear p6
          try clear p2
          obtain ⟨x1_2, x21_2, rfl, HA, HK2, HO_1, HO_19, HB⟩ := hrel
          cases gk with
          | zero => exact absurd HA.out (by simp [style_Standard.l1])
          | succ k2 =>
            have H := HA.out
            clear HA
            simp only [style_Standard.l1] at H
            by_cases c11 : x21_2 < (y145.length : Int)
            · rw [if_pos c11] at H
              have c11b0 : decide (x21_2 < (y145.length : Int)) = true := decide_eq_true c11
              clear c11
              by_cases c12 : 0 ≤ x21_2
              · rw [if_pos c12] at H
                have c12b0 : decide (0 ≤ x21_2) = true := decide_eq_true c12
                clear c12
                by_cases c13 : x21_2 < (y145.length : Int)
                · rw [if_pos c13] at H
                  have c13b0 : decide (x21_2 < (y145.length : Int)) = true := decide_eq_true c13
                  clear c13
                  by_cases c14 : x1_2.length < 2199023255552
                  · rw [if_pos c14] at H
                    have LMc14 := Aside0.mk c14
                    clear c14
                    obtain ⟨y149, hy149⟩ : ∃ y_ : List (S35), y_ = (x1_2 ++ [(⟨rdOf ByteArray.empty y145 x21_2, (⟨#[78, 111, 114, 109, 97, 108]⟩ : ByteArray), false, 0, 0, 0⟩ : S35)]) := ⟨_, rfl⟩
                    replace H : (style_Standard.l1 k2 y149 y145 (y145.length : Int) (wrap64 (x21_2 + 1))) = some r := by first | (rw [hy149]; with_reducible exact H) | (have H2_ := (Option.bind_some _ _).symm.trans H; rw [hy149]; with_reducible exact H2_) | (have H2_ := (Option.bind_some _ _).symm.trans H; with_reducible exact H2_) | with_reducible exact H | (rw [hy149]; exact H) | exact H
                    have Ny149 := Aside0.mk hy149
                    clear hy149
                    have H' := Aside0.mk H
                    clear H
                    have p148 : 0 ≤ (x21_2 : Int) := of_decide_eq_true (by first | (with_reducible assumption) | assumption)
                    have q148 : x21_2 < (y145.length : Int) := of_decide_eq_true (by first | (with_reducible assumption) | assumption)
                    obtain ⟨ad148, e148, hx148_0⟩ := Kd.at_string (Kd.R_reads' HO_19.out).2.2 x21_2 p148 q148
                    cases e148
                    replace p148 := eq_true p148
                    replace q148 := eq_true q148
                    go_wp2_with (first | ((with_reducible refine gate_builtin (b := .append) (xs := #[.tmp 25, .tmp 28]) rfl ?_); at_builtin; refine Kd.R_append k35 (w0 := w) w.heap.size rfl (.tmp 25) (.tmp 28) 22 35 (.agg #[(.string ⟨#[]⟩), (.string ⟨#[]⟩), (.bool false), (.int .i64 0), (.int .i64 0), (.int .i64 0)]) 64 rfl Tryd.underlying22 info35 rfl (by decide) (by omega) u1 x1_2 (⟨rdOf ByteArray.empty y145 x21_2, (⟨#[78, 111, 114, 109, 97, 108]⟩ : ByteArray), false, 0, 0, 0⟩ : S35) [.string (rdOf ByteArray.empty y145 x21_2), .string (⟨#[78, 111, 114, 109, 97, 108]⟩ : ByteArray), .bool false, .int .i64 0, .int .i64 0, .int .i64 0] (fun _ => True) (fun _ => False) rfl rfl ?aP (fun _ hk => hk.elim) ?aF ?aO ?aB ?aS ?aL ?_; (case aP => exact k35_mkM _ _ _ (⟨rdOf ByteArray.empty y145 x21_2, (⟨#[78, 111, 114, 109, 97, 108]⟩ : ByteArray), false, 0, 0, 0⟩ : S35)); (case aB => exact (by repeat (first | (with_reducible first | exact HB.out | apply below_alloc | apply pw_below_drewN | apply below_drew1) | exact HB.out))); (case aF => exact (fun _ _ => trivial)); (case aO => exact (by (with_reducible repeat (first | apply Kd.R_alloc | apply Kd.R_drewN | apply Kd.R_drew)); exact HO_1.out)); (case aS => exact (below_size (by repeat (first | (with_reducible first | exact HB.out | apply below_alloc | apply pw_below_drewN | apply below_drew1) | exact HB.out)))); (case aL => have := LMc14.out; omega); intro v150 w15 ho hb hg hat; rw [← Ny149.out] at ho; have n0_ := Aside0.mk (Kd.R_over' (by (with_reducible repeat (first | apply Kd.R_alloc | apply Kd.R_drewN | apply Kd.R_drew)); exact HO_19.out) (Kd.R_typed (by (with_reducible repeat (first | apply Kd.R_alloc | apply Kd.R_drewN | apply Kd.R_drew)); exact HO_1.out)) (by decide) hg); have n1_ := Aside0.mk (hb); have n2_ := Aside0.mk (ho); clear HO_19; clear HB; clear HO_1; have HO_19 := n0_; have HB := n1_; have HO151 := n2_; clear n0_ n1_ n2_; clear ho hb hg hat))
                    go_roundg k2
                    case measure => have := HK1.out; have := HK2.out; omega
                    case rel => exact ⟨(y149), (wrap64 (x21_2 + 1)), (by first | rfl | (simp; done) | (simp [*]; done)), H', ⟨by have := HK1.out; have := HK2.out; omega⟩, ⟨by (with_reducible repeat (first | apply Kd.R_alloc | apply Kd.R_drewN | apply Kd.R_drew)); exact HO151.out⟩, ⟨by (with_reducible repeat (first | apply Kd.R_alloc | apply Kd.R_drewN | apply Kd.R_drew)); exact HO_19.out⟩, ⟨by repeat (first | (with_reducible first | exact HB.out | apply below_alloc | apply pw_below_drewN | apply below_drew1) | exact HB.out)⟩⟩
                  · rw [if_neg c14] at H
                    exact absurd H (by simp)
                · rw [if_neg c13] at H
                  exact absurd H (by simp)
              · rw [if_neg c12] at H
                exact absurd H (by simp)
            · rw [if_neg c11] at H
              have c11b0 : decide (x21_2 < (y145.length : Int)) = false := decide_eq_false c11
              clear c11
              by_cases c16 : x1_2.length < 2199023255552
              · rw [if_pos c16] at H
                have LMc16 := Aside0.mk c16
                clear c16
                obtain ⟨y152, hy152⟩ : ∃ y_ : List (S35), y_ = (x1_2 ++ [(⟨(⟨#[67, 111, 100, 101, 84, 101, 120, 116]⟩ : ByteArray), (⟨#[]⟩ : ByteArray), true, 0, 0, 0⟩ : S35)]) := ⟨_, rfl⟩
                replace H : (some y152) = some r := by first | (rw [hy152]; with_reducible exact H) | (have H2_ := (Option.bind_some _ _).symm.trans H; rw [hy152]; with_reducible exact H2_) | (have H2_ := (Option.bind_some _ _).symm.trans H; with_reducible exact H2_) | with_reducible exact H | (rw [hy152]; exact H) | exact H
                have Ny152 := Aside0.mk hy152
                clear hy152
                obtain rfl := Option.some.inj H
                go_wp2_with (first | ((with_reducible refine gate_builtin (b := .append) (xs := #[.tmp 31, .tmp 33]) rfl ?_); at_builtin; refine Kd.R_append k35 (w0 := w) w.heap.size rfl (.tmp 31) (.tmp 33) 22 35 (.agg #[(.string ⟨#[]⟩), (.string ⟨#[]⟩), (.bool false), (.int .i64 0), (.int .i64 0), (.int .i64 0)]) 64 rfl Tryd.underlying22 info35 rfl (by decide) (by omega) u1 x1_2 (⟨(⟨#[67, 111, 100, 101, 84, 101, 120, 116]⟩ : ByteArray), (⟨#[]⟩ : ByteArray), true, 0, 0, 0⟩ : S35) [.string (⟨#[67, 111, 100, 101, 84, 101, 120, 116]⟩ : ByteArray), .string (⟨#[]⟩ : ByteArray), .bool true, .int .i64 0, .int .i64 0, .int .i64 0] (fun _ => True) (fun _ => False) rfl rfl ?aP (fun _ hk => hk.elim) ?aF ?aO ?aB ?aS ?aL ?_; (case aP => exact k35_mkM _ _ _ (⟨(⟨#[67, 111, 100, 101, 84, 101, 120, 116]⟩ : ByteArray), (⟨#[]⟩ : ByteArray), true, 0, 0, 0⟩ : S35)); (case aB => exact (by repeat (first | (with_reducible first | exact HB.out | apply below_alloc | apply pw_below_drewN | apply below_drew1) | exact HB.out))); (case aF => exact (fun _ _ => trivial)); (case aO => exact (by (with_reducible repeat (first | apply Kd.R_alloc | apply Kd.R_drewN | apply Kd.R_drew)); exact HO_1.out)); (case aS => exact (below_size (by repeat (first | (with_reducible first | exact HB.out | apply below_alloc | apply pw_below_drewN | apply below_drew1) | exact HB.out)))); (case aL => have := LMc16.out; omega); intro v153 w17 ho hb hg hat; rw [← Ny152.out] at ho; have n0_ := Aside0.mk (Kd.R_over' (by (with_reducible repeat (first | apply Kd.R_alloc | apply Kd.R_drewN | apply Kd.R_drew)); exact HO_19.out) (Kd.R_typed (by (with_reducible repeat (first | apply Kd.R_alloc | apply Kd.R_drewN | apply Kd.R_drew)); exact HO_1.out)) (by decide) hg); have n1_ := Aside0.mk (hb); have n2_ := Aside0.mk (ho); clear HO_19; clear HB; clear HO_1; have HO_19 := n0_; have HB := n1_; have HO154 := n2_; clear n0_ n1_ n2_; clear ho hb hg hat))
                go_ret
                exact ⟨_, by first | rfl | (simp [errW_none, errW_some] <;> rfl) | (simp [*, errW_none, errW_some] <;> rfl), by (with_reducible repeat (first | apply Kd.R_alloc | apply Kd.R_drewN | apply Kd.R_drew)); exact HO154.out, by repeat (first | (with_reducible first | exact HB.out | apply below_alloc | apply pw_below_drewN | apply below_drew1) | exact HB.out)⟩
              · rw [if_neg c16] at H
                exact absurd H (by simp)

-- NOT PRINTED: function 23 (style_says)

/-! ### style_Level: function 15 -/
/-- what a style says, and what it is based on -/
def style_says.go (l : List S35) (what : S35 → Int) : Nat → S35 → Option Int
  | 0, _ => some 0
  | n + 1, s => if what s ≠ 0 ∨ s.f1.toList = ([] : List UInt8) then some (what s) else match style_find.at_ l s.f1 with
    | none => none
    | some y => style_says.go l what n y
def style_says.f (l : List S35) (id : ByteArray) (run : Bool) (what : S35 → Int) : Option Int := if l.length ≤ 1000000 then (if id.toList = ([] : List UInt8) then some 0 else match style_find.at_ l id with
  | none => some 0
  | some s => if (s.f2 != run) = true then some 0 else style_says.go l what l.length s) else none
def style_says.Gives (g : Nat) (what : S35 → Int) : Prop := (∀ args w, (callFunc g args).run Tryd.prog w = .ok (.enter g args) w) ∧ ∀ (x : S35) (W : World), Calls Tryd.prog g #[.agg #[.string x.f0, .string x.f1, .bool x.f2, .int .i64 x.f3, .int .i64 x.f4, .int .i64 x.f5]] W fun e w' => e = .returned (.int .i64 (what x)) ∧ Below W.heap.size W w'
set_option maxHeartbeats 8000000 in
set_option maxRecDepth 100000 in
theorem style_says.calls (g : Nat) (what : S35 → Int) (hw : style_says.Gives g what) (A0 : Option Addr) (c0 : Nat) (l0 : List (S35)) (id : ByteArray) (run : Bool) (r : Int) (w : World) (hr0 : Kd.C k35 w A0 l0.length l0) (h : style_says.f l0 id run what = some r) :
    Calls Tryd.prog 23 #[.slice A0 l0.length c0, .string id, .bool run, .func (.func g) #[] #[]] w fun e w' => e = .returned (.int .i64 r) ∧ Below w.heap.size w w' := by
  unfold style_says.f at h
  by_cases hn : l0.length ≤ 1000000
  case neg => rw [if_neg hn] at h; cases h
  rw [if_pos hn] at h
  obtain ⟨eg, hwc⟩ := hw
  have HW := Aside0.mk hwc
  clear hwc
  have hu35 := Tryd.underlying35
  have HR0 := Aside0.mk hr0
  clear hr0
  have HI := Aside0.mk (fun id W1 hW1 => style_find.calls A0 c0 l0 id W1 (Kd.C_below HR0.out hW1) (by omega))
  have hcall := HI.out id w (Below.refl _ _)
  by_cases e1 : id.toList = ([] : List UInt8)
  · rw [if_pos e1] at h
    obtain rfl := Option.some.inj h
    have e1b : (id.toList == ([] : List UInt8)) = true := beq_iff_eq.mpr e1
    clear e1
    go_enter Tryd.func23, Tryd.ntmps23
    go_wp2_with (go_at_call 30; refine hcall.mono ?_; rintro e w2 ⟨⟨p2, rfl, hp2⟩, hb2⟩)
    go_ret
    exact ⟨rfl, hb2⟩
  rw [if_neg e1] at h
  have e1b : (id.toList == ([] : List UInt8)) = false := beq_eq_false_iff_ne.mpr e1
  clear e1
  cases hat : style_find.at_ l0 id with
  | none =>
    rw [hat] at h hcall
    obtain rfl := Option.some.inj h
    go_enter Tryd.func23, Tryd.ntmps23
    go_wp2_with (go_at_call 30; refine hcall.mono ?_; rintro e w2 ⟨⟨p2, rfl, hp2⟩, hb2⟩; cases hp2)
    go_ret
    exact ⟨rfl, hb2⟩
  | some s =>
    rw [hat] at h hcall
    simp only at h
    clear hat
    obtain ⟨d, hd⟩ : ∃ d, (s.f2 != run) = d := ⟨_, rfl⟩
    have hd2 : (s.f2 == run) = !d := by rw [← hd, bne, Bool.not_not]
    have hd3 : decide (s.f2 = run) = !d := by rw [← hd2]; rfl
    rw [hd] at h
    cases d with
    | true =>
      obtain rfl := Option.some.inj h
      (try simp only [Bool.not_true] at hd2)
      (try simp only [Bool.not_true] at hd3)
      go_enter Tryd.func23, Tryd.ntmps23
      go_wp2_with (go_at_call 30; refine hcall.mono ?_; rintro e w2 ⟨⟨p2, rfl, hp2⟩, hb2⟩; obtain ⟨ad2, e2_, y0, y1, y2, y3, y4, y5⟩ := hp2; cases e2_)
      go_ret
      exact ⟨rfl, hb2⟩
    | false =>
      rw [if_neg (by decide)] at h
      have H := Aside0.mk h
      clear h
      (try simp only [Bool.not_false] at hd2)
      (try simp only [Bool.not_false] at hd3)
      go_enter Tryd.func23, Tryd.ntmps23
      go_wp2_with (go_at_call 30; refine hcall.mono ?_; rintro e w2 ⟨⟨p2, rfl, hp2⟩, hb2⟩; have HP2 := Aside0.mk hp2; obtain ⟨ad2, e2_, y0, y1, y2, y3, y4, y5⟩ := hp2; cases e2_)
      go_loopg [9, 30] l0.length (fun gg v9 v30 wr => ∃ (kk : Nat) (p : Option Addr) (x : S35), kk ≤ l0.length ∧ l0.length - kk ≤ gg ∧ v30 = .int .i64 kk ∧ v9 = .pointer p ∧ Aside0 (style_find.Pt wr p x) ∧ Aside0 (Below w.heap.size w wr) ∧ Aside0 (style_says.go l0 what (l0.length - kk) x = some r))
      case atStart => exact ⟨0, _, s, Nat.zero_le _, by omega, rfl, rfl, HP2, ⟨hb2⟩, H⟩
      case round =>
        clear hcall HP2 H hb2 y0 y1 y2 y3 y4 y5 hd hd2 hd3
        obtain ⟨kk, p, x, hkk, hg, rfl, rfl, HX, HB, HG⟩ := hrel
        by_cases hlt : kk < l0.length
        case neg =>
          have hltz : ¬ (kk : Int) < (l0.length : Int) := by omega
          have : kk = l0.length := by omega
          subst this
          go_wp2
          go_ret
          have hr := HG.out
          rw [Nat.sub_self, style_says.go] at hr
          obtain rfl := Option.some.inj hr
          exact ⟨rfl, HB.out⟩
        have hltz : (kk : Int) < (l0.length : Int) := by omega
        obtain ⟨ad, e, a0, a1, a2, a3, a4, a5⟩ := HX.out
        cases e
        obtain ⟨m, hm⟩ : ∃ m, l0.length - kk = m + 1 := ⟨l0.length - kk - 1, by omega⟩
        have G := HG.out
        rw [hm, style_says.go] at G
        obtain ⟨v, hv⟩ : ∃ v, what x = v := ⟨_, rfl⟩
        have hcw := HW.out x wr
        rw [hv] at G hcw
        by_cases hv0 : v = 0
        case neg =>
          rw [if_pos (Or.inl hv0)] at G
          have G' := Aside0.mk G
          clear G HG
          have v0b : (v == 0) = false := beq_eq_false_iff_ne.mpr hv0
          have v0d : (v != 0) = true := bne_iff_ne.mpr hv0
          have v0c : decide (v = 0) = false := decide_eq_false hv0
          clear hv0
          go_wp2_with (go_at_fn g; refine hcw.mono ?_; rintro e w3 ⟨rfl, hb3⟩)
          go_ret
          obtain rfl := Option.some.inj G'.out
          exact ⟨rfl, below_step HB.out hb3⟩
        subst hv0
        by_cases e2 : x.f1.toList = ([] : List UInt8)
        · rw [if_pos (Or.inr e2)] at G
          have G' := Aside0.mk G
          clear G HG
          have e2b : (x.f1.toList == ([] : List UInt8)) = true := beq_iff_eq.mpr e2
          clear e2
          go_wp2_with (go_at_fn g; refine hcw.mono ?_; rintro e w3 ⟨rfl, hb3⟩; have b1 := style_find.cell_below hb3 a1)
          go_ret
          obtain rfl := Option.some.inj G'.out
          exact ⟨rfl, below_step HB.out hb3⟩
        rw [if_neg (fun hh => hh.elim (fun e => e rfl) e2)] at G
        have e2b : (x.f1.toList == ([] : List UInt8)) = false := beq_eq_false_iff_ne.mpr e2
        clear e2
        have hcf := fun W hW => HI.out x.f1 W (below_step HB.out hW)
        cases hat : style_find.at_ l0 x.f1 with
        | none =>
          rw [hat] at G
          cases G
        | some y =>
          rw [hat] at G hcf
          have G' := Aside0.mk G
          clear G HG hat
          go_wp2_with (first | (go_at_fn g; refine hcw.mono ?_; rintro e w3 ⟨rfl, hb3⟩; have b1 := style_find.cell_below hb3 a1) | (go_at_call 30; refine (hcf _ hb3).mono ?_; rintro e w4 ⟨⟨p4, rfl, hp4⟩, hb4⟩))
          go_roundg (l0.length - (kk + 1))
          case measure => omega
          case rel => exact ⟨kk + 1, _, y, by omega, by omega, by go_num, rfl, ⟨hp4⟩, ⟨below_step (below_step HB.out hb3) hb4⟩, ⟨by rw [show l0.length - (kk + 1) = m by omega]; exact G'.out⟩⟩
def style_toggled.f (l : List S35) (para own : ByteArray) (direct : Int) (what : S35 → Int) : Option Bool := (style_says.f l para false what).bind fun a => (style_says.f l own true what).bind fun b => some (if direct = 1 then true else if direct = 0 then (decide (a = 1) != decide (b = 1)) else false)
set_option maxHeartbeats 8000000 in
set_option maxRecDepth 100000 in
theorem style_toggled.calls (g : Nat) (what : S35 → Int) (hw : style_says.Gives g what) (A0 : Option Addr) (c0 : Nat) (l0 : List (S35)) (para own : ByteArray) (direct : Int) (r : Bool) (w : World) (hr0 : Kd.C k35 w A0 l0.length l0) (h : style_toggled.f l0 para own direct what = some r) :
    Calls Tryd.prog 25 #[.slice A0 l0.length c0, .string para, .string own, .int .i64 direct, .func (.func g) #[] #[]] w fun e w' => e = .returned (.bool r) ∧ Below w.heap.size w w' := by
  unfold style_toggled.f at h
  cases ha : style_says.f l0 para false what with
  | none => rw [ha] at h; cases h
  | some a =>
  cases hb : style_says.f l0 own true what with
  | none => rw [ha, hb] at h; cases h
  | some b =>
  rw [ha, hb, Option.bind_some, Option.bind_some] at h
  have HR0 := Aside0.mk hr0
  clear hr0
  have hA := style_says.calls g what hw A0 c0 l0 para false a w HR0.out ha
  have hB := Aside0.mk (fun W1 hW1 => style_says.calls g what hw A0 c0 l0 own true b W1 (Kd.C_below HR0.out hW1) hb)
  clear ha hb
  have H := Aside0.mk (Option.some.inj h)
  clear h
  obtain ⟨da, hda⟩ : ∃ d, decide (a = 1) = d := ⟨_, rfl⟩
  obtain ⟨db, hdb⟩ : ∃ d, decide (b = 1) = d := ⟨_, rfl⟩
  have hda1 : (a == 1) = da := hda
  have hdb1 : (b == 1) = db := hdb
  have H2 := H.out
  rw [hda, hdb] at H2
  replace H := Aside0.mk H2
  clear H2
  by_cases d1 : direct = 1
  · subst d1
    go_enter Tryd.func25, Tryd.ntmps25
    go_wp2_with (first | (go_at_call 23; refine hA.mono ?_; rintro e w2 ⟨rfl, hb2⟩; have hB2 := hB.out _ hb2; clear hA) | (go_at_call 23; refine hB2.mono ?_; rintro e w3 ⟨rfl, hb3⟩))
    go_ret
    refine ⟨?_, below_step hb2 hb3⟩
    rw [← H.out]
    rfl
  by_cases d0 : direct = 0
  · subst d0
    cases da <;> cases db
    all_goals
      go_enter Tryd.func25, Tryd.ntmps25
      go_wp2_with (first | (go_at_call 23; refine hA.mono ?_; rintro e w2 ⟨rfl, hb2⟩; have hB2 := hB.out _ hb2; clear hA) | (go_at_call 23; refine hB2.mono ?_; rintro e w3 ⟨rfl, hb3⟩))
      go_ret
      refine ⟨?_, below_step hb2 hb3⟩
      rw [← H.out]
      rfl
  have d1b : (direct == 1) = false := beq_eq_false_iff_ne.mpr d1
  have d0b : (direct == 0) = false := beq_eq_false_iff_ne.mpr d0
  have d1c : decide (direct = 1) = false := decide_eq_false d1
  have d0c : decide (direct = 0) = false := decide_eq_false d0
  have H2 := H.out
  rw [if_neg d1, if_neg d0] at H2
  replace H := Aside0.mk H2
  clear H2 d1 d0
  go_enter Tryd.func25, Tryd.ntmps25
  go_wp2_with (first | (go_at_call 23; refine hA.mono ?_; rintro e w2 ⟨rfl, hb2⟩; have hB2 := hB.out _ hb2; clear hA) | (go_at_call 23; refine hB2.mono ?_; rintro e w3 ⟨rfl, hb3⟩))
  go_ret
  refine ⟨?_, below_step hb2 hb3⟩
  rw [← H.out]
  rfl
theorem style_toggled.emph : style_says.Gives 26 (fun x => x.f3) := ⟨enters_of Tryd.func26 (by kernel_rfl) rfl, fun x W => by
  go_enter Tryd.func26, Tryd.ntmps26
  go_wp2
  go_ret
  exact ⟨rfl, by repeat (first | (with_reducible first | exact Below.refl _ _ | apply below_alloc | apply pw_below_drewN | apply below_drew1) | exact Below.refl _ _)⟩⟩
theorem style_toggled.bold : style_says.Gives 27 (fun x => x.f4) := ⟨enters_of Tryd.func27 (by kernel_rfl) rfl, fun x W => by
  go_enter Tryd.func27, Tryd.ntmps27
  go_wp2
  go_ret
  exact ⟨rfl, by repeat (first | (with_reducible first | exact Below.refl _ _ | apply below_alloc | apply pw_below_drewN | apply below_drew1) | exact Below.refl _ _)⟩⟩
theorem style_toggled.head : style_says.Gives 24 (fun x => x.f5) := ⟨enters_of Tryd.func24 (by kernel_rfl) rfl, fun x W => by
  go_enter Tryd.func24, Tryd.ntmps24
  go_wp2
  go_ret
  exact ⟨rfl, by repeat (first | (with_reducible first | exact Below.refl _ _ | apply below_alloc | apply pw_below_drewN | apply below_drew1) | exact Below.refl _ _)⟩⟩
def style_Level.f (l0 : List S35) (a1 : ByteArray) : Option Int := (style_Check.f l0).bind fun ce => if ce.2 = 0 then style_says.f l0 a1 false (fun x => x.f5) else some 0
set_option maxHeartbeats 8000000 in
set_option maxRecDepth 100000 in
theorem style_Level.calls (A0 : Option Addr) (c0 : Nat) (l0 : List (S35)) (a1 : ByteArray) (r : Int) (w : World) (hr0 : Kd.C k35 w A0 l0.length l0) (hc0 : l0.length ≤ c0) (h : style_Level.f l0 a1 = some r) :
    Calls Tryd.prog 15 #[.slice A0 l0.length c0, .string a1] w fun e w' => e = .returned (.int .i64 r) ∧ Below w.heap.size w w' := by
  unfold style_Level.f at h
  cases hC : style_Check.f l0 with
  | none => rw [hC] at h; cases h
  | some ce =>
  rw [hC, Option.bind_some] at h
  obtain ⟨ci, ce⟩ := ce
  have HR0 := Aside0.mk hr0
  have hC1 := style_Check.calls A0 c0 l0 ci ce w hr0 hc0 hC
  clear hr0 hC
  by_cases e0 : ce = 0
  case neg =>
    rw [if_neg e0] at h
    obtain rfl := Option.some.inj h
    have v0b : (ce == 0) = false := beq_eq_false_iff_ne.mpr e0
    have v0d : (ce != 0) = true := bne_iff_ne.mpr e0
    have v0c : decide (ce = 0) = false := decide_eq_false e0
    clear e0
    go_enter Tryd.func15, Tryd.ntmps15
    go_wp2_with (go_at_call 9; refine hC1.mono ?_; rintro e w2 ⟨rfl, hb2⟩)
    go_ret
    exact ⟨rfl, hb2⟩
  rw [if_pos e0] at h
  subst e0
  have hA := Aside0.mk (fun W1 hW1 => style_says.calls 24 _ style_toggled.head A0 c0 l0 a1 false r W1 (Kd.C_below HR0.out hW1) h)
  clear h
  go_enter Tryd.func15, Tryd.ntmps15
  go_wp2_with (first | (go_at_call 9; refine hC1.mono ?_; rintro e w2 ⟨rfl, hb2⟩; have hA2 := hA.out _ hb2) | (go_at_call 23; refine hA2.mono ?_; rintro e w3 ⟨rfl, hb3⟩))
  go_ret
  exact ⟨rfl, below_step hb2 hb3⟩

/-! ### rubricatorlaw14_known: function 12 -/
def rubricatorlaw14_known.f (k : Nat)  : Option (Bool) := (style_Standard.f k).bind fun t155 => ((style_Level.f t155 (⟨#[72, 101, 97, 100, 105, 110, 103, 51]⟩ : ByteArray)).bind fun t158 => (some (t158 == 3)))
theorem rubricatorlaw14_known.mono : ∀ k, LeO (rubricatorlaw14_known.f k ) (rubricatorlaw14_known.f (k + 1) ) := by
  intro  k
  unfold rubricatorlaw14_known.f
  repeat' first
      | (with_reducible exact style_Standard.mono _)
      | (with_reducible exact LeO.refl _)
      | (with_reducible exact LeO.none _)
      | (with_reducible refine LeO.ite ?_ ?_)
      | (with_reducible refine LeO.bind ?_ (fun _ => ?_))
      | exact style_Standard.mono _
      | exact LeO.none _
      | refine LeO.ite ?_ ?_
      | refine LeO.bind ?_ (fun _ => ?_)
set_option maxHeartbeats 8000000 in
set_option maxRecDepth 100000 in
theorem rubricatorlaw14_known.calls (k : Nat)  (r : Bool) (w : World) (h : rubricatorlaw14_known.f k  = some r) :
    Calls Tryd.prog 12 #[] w fun e w' => e = .returned (.bool r) ∧ Below w.heap.size w w' := by
  have HB := Aside0.mk (Below.refl w.heap.size w)
  have H : ((style_Standard.f k).bind fun t155 => ((style_Level.f t155 (⟨#[72, 101, 97, 100, 105, 110, 103, 51]⟩ : ByteArray)).bind fun t158 => (some (t158 == 3)))) = some r := h
  clear h
  replace H := Option.bind_eq_some_iff.mp H
  obtain ⟨t155, A10, H⟩ := H
  replace H : ((style_Level.f t155 (⟨#[72, 101, 97, 100, 105, 110, 103, 51]⟩ : ByteArray)).bind fun t158 => (some (t158 == 3))) = some r := H
  have A1 := Aside0.mk A10
  clear A10
  replace H := Option.bind_eq_some_iff.mp H
  obtain ⟨t158, A20, H⟩ := H
  replace H : (some (t158 == 3)) = some r := H
  have A2 := Aside0.mk A20
  clear A20
  obtain rfl := Option.some.inj H
  go_enter Tryd.func12, Tryd.ntmps12
  go_wp2_with (first | ((with_reducible refine gate_callee (f := 13) rfl ?_); refine goesL_ (some 1) rfl rfl Tryd.func13 (by kernel_rfl) rfl #[] rfl (by (try simp only [List.map_toArray, List.map_cons, List.map_nil]); first | done | rfl | (simp only [List.length_drop, List.length_take]; rfl)) ?_; (with_reducible refine (style_Standard.calls k  t155 _ A1.out).mono ?_); rintro e w3 ⟨v156, rfl, ho0, hb⟩; refine ⟨_, rfl, ?_⟩; have n0_ := Aside0.mk (Kd.R_lower ho0 (below_size (by repeat (first | (with_reducible first | exact HB.out | apply below_alloc | apply pw_below_drewN | apply below_drew1) | exact HB.out)))); have n1_ := Aside0.mk (below_step (by repeat (first | (with_reducible first | exact HB.out | apply below_alloc | apply pw_below_drewN | apply below_drew1) | exact HB.out)) hb); clear HB; have HO157 := n0_; have HB := n1_; clear n0_ n1_; (try clear hb); (try clear hb2); (try clear hk); (try clear hi); (try clear ho0); obtain ⟨Ao4, co4, eo4⟩ := Kd.R_slice HO157.out; subst eo4) | ((with_reducible refine gate_callee (f := 15) rfl ?_); refine goesL_ (some 2) rfl rfl Tryd.func15 (by kernel_rfl) rfl #[.slice Ao4 t155.length co4, .string (⟨#[72, 101, 97, 100, 105, 110, 103, 51]⟩ : ByteArray)] rfl (by (try simp only [List.map_toArray, List.map_cons, List.map_nil]); first | done | rfl | (simp only [List.length_drop, List.length_take]; rfl)) ?_; (with_reducible refine (style_Level.calls _ _ t155 (⟨#[72, 101, 97, 100, 105, 110, 103, 51]⟩ : ByteArray) t158 _ ?side1 ?side2 A2.out).mono ?_); (case side1 => repeat (first | exact (Kd.R_reads' HO157.out).2.2 | (with_reducible refine Kd.C_alloc ?_ _) | (with_reducible refine Kd.C_drewN ?_ _) | (with_reducible refine Kd.C_drew ?_))); (case side2 => exact (Kd.R_reads' HO157.out).2.1); rintro e w5 ⟨rfl, hb⟩; refine ⟨_, rfl, ?_⟩; have n0_ := Aside0.mk (Kd.R_below (by (with_reducible repeat (first | apply Kd.R_alloc | apply Kd.R_drewN | apply Kd.R_drew)); exact HO157.out) hb); have n1_ := Aside0.mk (below_step (by repeat (first | (with_reducible first | exact HB.out | apply below_alloc | apply pw_below_drewN | apply below_drew1) | exact HB.out)) hb); clear HO157; clear HB; have HO157 := n0_; have HB := n1_; clear n0_ n1_; (try clear hb); (try clear hb2); (try clear hk); (try clear hi)))
  go_ret
  exact ⟨by first | rfl | (simp [errW_none, errW_some] <;> rfl) | (simp [*, errW_none, errW_some] <;> rfl), by repeat (first | (with_reducible first | exact HB.out | apply below_alloc | apply pw_below_drewN | apply below_drew1) | exact HB.out)⟩

/-! ### rubricatorlaw14_StyleChecks: function 3 -/
def rubricatorlaw14_StyleChecks.f (k : Nat) (l0 : List (S35)) : Option (Bool) := if (l0.length : Int) > 100 then (some true) else ((rubricatorlaw14_own.f l0).bind fun t159 => ((style_Check.f t159).bind fun bt162 => ((rubricatorref14_Check.f k l0).bind fun bt164 => (if bt162.1 = bt164.1 then (if bt162.2 = bt164.2 then ((rubricatorlaw14_styles.f k t159 l0).bind fun t166 => (if t166 = true then ((rubricatorlaw14_known.f k).bind fun t167 => (some t167)) else (some false))) else (some false)) else (some false)))))
theorem rubricatorlaw14_StyleChecks.mono : ∀ a0 k, LeO (rubricatorlaw14_StyleChecks.f k a0) (rubricatorlaw14_StyleChecks.f (k + 1) a0) := by
  intro a0 k
  unfold rubricatorlaw14_StyleChecks.f
  repeat' first
      | (with_reducible exact rubricatorlaw14_known.mono _)
      | (with_reducible exact rubricatorlaw14_styles.mono _ _ _)
      | (with_reducible exact rubricatorref14_Check.mono _ _)
      | (with_reducible exact LeO.refl _)
      | (with_reducible exact LeO.none _)
      | (with_reducible refine LeO.ite ?_ ?_)
      | (with_reducible refine LeO.bind ?_ (fun _ => ?_))
      | exact rubricatorlaw14_known.mono _
      | exact rubricatorlaw14_styles.mono _ _ _
      | exact rubricatorref14_Check.mono _ _
      | exact LeO.none _
      | refine LeO.ite ?_ ?_
      | refine LeO.bind ?_ (fun _ => ?_)
set_option maxHeartbeats 8000000 in
set_option maxRecDepth 100000 in
theorem rubricatorlaw14_StyleChecks.calls (k : Nat) (A0 : Option Addr) (c0 : Nat) (l0 : List (S35)) (r : Bool) (w : World) (hr0 : Kd.C k35 w A0 l0.length l0) (hc0 : l0.length ≤ c0) (h : rubricatorlaw14_StyleChecks.f k l0 = some r) :
    Calls Tryd.prog 3 #[.slice A0 l0.length c0] w fun e w' => e = .returned (.bool r) ∧ Below w.heap.size w w' := by
  have HR0 := Aside0.mk hr0
  have HC0 := Aside0.mk hc0
  clear hr0 hc0
  have HB := Aside0.mk (Below.refl w.heap.size w)
  have H : (if (l0.length : Int) > 100 then (some true) else ((rubricatorlaw14_own.f l0).bind fun t159 => ((style_Check.f t159).bind fun bt162 => ((rubricatorref14_Check.f k l0).bind fun bt164 => (if bt162.1 = bt164.1 then (if bt162.2 = bt164.2 then ((rubricatorlaw14_styles.f k t159 l0).bind fun t166 => (if t166 = true then ((rubricatorlaw14_known.f k).bind fun t167 => (some t167)) else (some false))) else (some false)) else (some false)))))) = some r := h
  clear h
  by_cases c2 : (l0.length : Int) > 100
  · rw [if_pos c2] at H
    have c2b0 : decide (100 < (l0.length : Int)) = true := decide_eq_true c2
    have c2b1 : decide (100 < l0.length) = true := decide_eq_true (by omega)
    clear c2
    obtain rfl := Option.some.inj H
    go_enter Tryd.func3, Tryd.ntmps3
    go_wp2
    go_ret
    exact ⟨by first | rfl | (simp [errW_none, errW_some] <;> rfl) | (simp [*, errW_none, errW_some] <;> rfl), by repeat (first | (with_reducible first | exact HB.out | apply below_alloc | apply pw_below_drewN | apply below_drew1) | exact HB.out)⟩
  · rw [if_neg c2] at H
    have c2b0 : decide (100 < (l0.length : Int)) = false := decide_eq_false c2
    have c2b1 : decide (100 < l0.length) = false := decide_eq_false (by omega)
    clear c2
    replace H := Option.bind_eq_some_iff.mp H
    obtain ⟨t159, A30, H⟩ := H
    replace H : ((style_Check.f t159).bind fun bt162 => ((rubricatorref14_Check.f k l0).bind fun bt164 => (if bt162.1 = bt164.1 then (if bt162.2 = bt164.2 then ((rubricatorlaw14_styles.f k t159 l0).bind fun t166 => (if t166 = true then ((rubricatorlaw14_known.f k).bind fun t167 => (some t167)) else (some false))) else (some false)) else (some false)))) = some r := H
    have A3 := Aside0.mk A30
    clear A30
    replace H := Option.bind_eq_some_iff.mp H
    obtain ⟨⟨t162, t163⟩, A40, H⟩ := H
    replace H : ((rubricatorref14_Check.f k l0).bind fun bt164 => (if t162 = bt164.1 then (if t163 = bt164.2 then ((rubricatorlaw14_styles.f k t159 l0).bind fun t166 => (if t166 = true then ((rubricatorlaw14_known.f k).bind fun t167 => (some t167)) else (some false))) else (some false)) else (some false))) = some r := H
    have A4 := Aside0.mk A40
    clear A40
    replace H := Option.bind_eq_some_iff.mp H
    obtain ⟨⟨t164, t165⟩, A50, H⟩ := H
    replace H : (if t162 = t164 then (if t163 = t165 then ((rubricatorlaw14_styles.f k t159 l0).bind fun t166 => (if t166 = true then ((rubricatorlaw14_known.f k).bind fun t167 => (some t167)) else (some false))) else (some false)) else (some false)) = some r := H
    have A5 := Aside0.mk A50
    clear A50
    by_cases c6 : t162 = t164
    · rw [if_pos c6] at H
      have c6b0 : (t162 == t164) = true := beq_iff_eq.mpr c6
      have c6b1 : (t162 != t164) = false := bne_eq_false_iff_eq.mpr c6
      clear c6
      by_cases c7 : t163 = t165
      · rw [if_pos c7] at H
        have c7b0 : (t163 == t165) = true := beq_iff_eq.mpr c7
        have c7b1 : (t163 != t165) = false := bne_eq_false_iff_eq.mpr c7
        clear c7
        replace H := Option.bind_eq_some_iff.mp H
        obtain ⟨t166, A80, H⟩ := H
        replace H : (if t166 = true then ((rubricatorlaw14_known.f k).bind fun t167 => (some t167)) else (some false)) = some r := H
        have A8 := Aside0.mk A80
        clear A80
        by_cases c9 : t166 = true
        · subst c9
          have H1 : ((rubricatorlaw14_known.f k).bind fun t167 => (some t167)) = some r := by rw [if_pos rfl] at H; exact H
          clear H
          have H := H1
          clear H1
          replace H := Option.bind_eq_some_iff.mp H
          obtain ⟨t167, A100, H⟩ := H
          replace H : (some t167) = some r := H
          have A10 := Aside0.mk A100
          clear A100
          obtain rfl := Option.some.inj H
          go_enter Tryd.func3, Tryd.ntmps3
          go_wp2_with (first | ((with_reducible refine gate_callee (f := 8) rfl ?_); refine goesL_ (some 12) rfl rfl Tryd.func8 (by kernel_rfl) rfl #[.slice A0 l0.length c0] rfl (by (try simp only [List.map_toArray, List.map_cons, List.map_nil]); first | done | rfl | (simp only [List.length_drop, List.length_take]; rfl)) ?_; (with_reducible refine (rubricatorlaw14_own.calls _ _ l0 t159 _ ?side1 ?side2 A3.out).mono ?_); (case side1 => repeat (first | exact HR0.out | (with_reducible refine Kd.C_alloc ?_ _) | (with_reducible refine Kd.C_drewN ?_ _) | (with_reducible refine Kd.C_drew ?_))); (case side2 => exact HC0.out); rintro e w11 ⟨v160, rfl, ho0, hb⟩; refine ⟨_, rfl, ?_⟩; have n0_ := Aside0.mk (Kd.R_lower ho0 (below_size (by repeat (first | (with_reducible first | exact HB.out | apply below_alloc | apply pw_below_drewN | apply below_drew1) | exact HB.out)))); have n1_ := Aside0.mk (below_step (by repeat (first | (with_reducible first | exact HB.out | apply below_alloc | apply pw_below_drewN | apply below_drew1) | exact HB.out)) hb); clear HB; have HO161 := n0_; have HB := n1_; clear n0_ n1_; (try clear hb); (try clear hb2); (try clear hk); (try clear hi); (try clear ho0); obtain ⟨Ao12, co12, eo12⟩ := Kd.R_slice HO161.out; subst eo12) | ((with_reducible refine gate_callee (f := 9) rfl ?_); refine goesL_ (some 15) rfl rfl Tryd.func9 (by kernel_rfl) rfl #[.slice Ao12 t159.length co12] rfl (by (try simp only [List.map_toArray, List.map_cons, List.map_nil]); first | done | rfl | (simp only [List.length_drop, List.length_take]; rfl)) ?_; (with_reducible refine (style_Check.calls _ _ t159 t162 t163 _ ?side1 ?side2 A4.out).mono ?_); (case side1 => repeat (first | exact (Kd.R_reads' HO161.out).2.2 | (with_reducible refine Kd.C_alloc ?_ _) | (with_reducible refine Kd.C_drewN ?_ _) | (with_reducible refine Kd.C_drew ?_))); (case side2 => exact (Kd.R_reads' HO161.out).2.1); rintro e w13 ⟨rfl, hb⟩; refine ⟨_, rfl, ?_⟩; have n0_ := Aside0.mk (Kd.R_below (by (with_reducible repeat (first | apply Kd.R_alloc | apply Kd.R_drewN | apply Kd.R_drew)); exact HO161.out) hb); have n1_ := Aside0.mk (below_step (by repeat (first | (with_reducible first | exact HB.out | apply below_alloc | apply pw_below_drewN | apply below_drew1) | exact HB.out)) hb); clear HO161; clear HB; have HO161 := n0_; have HB := n1_; clear n0_ n1_; (try clear hb); (try clear hb2); (try clear hk); (try clear hi)) | ((with_reducible refine gate_callee (f := 10) rfl ?_); refine goesL_ (some 20) rfl rfl Tryd.func10 (by kernel_rfl) rfl #[.slice A0 l0.length c0] rfl (by (try simp only [List.map_toArray, List.map_cons, List.map_nil]); first | done | rfl | (simp only [List.length_drop, List.length_take]; rfl)) ?_; (with_reducible refine (rubricatorref14_Check.calls k _ _ l0 t164 t165 _ ?side1 ?side2 A5.out).mono ?_); (case side1 => repeat (first | exact (Kd.C_below HR0.out HB.out) | (with_reducible refine Kd.C_alloc ?_ _) | (with_reducible refine Kd.C_drewN ?_ _) | (with_reducible refine Kd.C_drew ?_))); (case side2 => exact HC0.out); rintro e w14 ⟨rfl, hb⟩; refine ⟨_, rfl, ?_⟩; have n0_ := Aside0.mk (Kd.R_below (by (with_reducible repeat (first | apply Kd.R_alloc | apply Kd.R_drewN | apply Kd.R_drew)); exact HO161.out) hb); have n1_ := Aside0.mk (below_step (by repeat (first | (with_reducible first | exact HB.out | apply below_alloc | apply pw_below_drewN | apply below_drew1) | exact HB.out)) hb); clear HO161; clear HB; have HO161 := n0_; have HB := n1_; clear n0_ n1_; (try clear hb); (try clear hb2); (try clear hk); (try clear hi)) | ((first | ((with_reducible refine gate_callee (f := 11) rfl ?_); (with_reducible refine gate_dst (N := 34) rfl ?_); refine gate_guard (by rfl) ?_; dsimp only; refine goesL_ (some 34) rfl rfl Tryd.func11 (by kernel_rfl) rfl #[.slice Ao12 t159.length co12, .slice A0 l0.length c0] rfl (by (try simp only [List.map_toArray, List.map_cons, List.map_nil]); first | done | rfl | (simp only [List.length_drop, List.length_take]; rfl)) ?_; (with_reducible refine (rubricatorlaw14_styles.calls k _ _ t159 _ _ l0 true _ ?side1 ?side2 ?side3 ?side4 A8.out).mono ?_); (case side1 => repeat (first | exact (Kd.R_reads' HO161.out).2.2 | (with_reducible refine Kd.C_alloc ?_ _) | (with_reducible refine Kd.C_drewN ?_ _) | (with_reducible refine Kd.C_drew ?_))); (case side2 => exact (Kd.R_reads' HO161.out).2.1); (case side3 => repeat (first | exact (Kd.C_below HR0.out HB.out) | (with_reducible refine Kd.C_alloc ?_ _) | (with_reducible refine Kd.C_drewN ?_ _) | (with_reducible refine Kd.C_drew ?_))); (case side4 => exact HC0.out); rintro e w' ⟨rfl, ⟨nd, rfl⟩⟩; refine ⟨_, rfl, ?_⟩) | (go_at_call 11; (with_reducible refine (rubricatorlaw14_styles.calls k _ _ t159 _ _ l0 true _ ?side1 ?side2 ?side3 ?side4 A8.out).mono ?_); (case side1 => repeat (first | exact (Kd.R_reads' HO161.out).2.2 | (with_reducible refine Kd.C_alloc ?_ _) | (with_reducible refine Kd.C_drewN ?_ _) | (with_reducible refine Kd.C_drew ?_))); (case side2 => exact (Kd.R_reads' HO161.out).2.1); (case side3 => repeat (first | exact (Kd.C_below HR0.out HB.out) | (with_reducible refine Kd.C_alloc ?_ _) | (with_reducible refine Kd.C_drewN ?_ _) | (with_reducible refine Kd.C_drew ?_))); (case side4 => exact HC0.out); rintro e w' ⟨rfl, ⟨nd, rfl⟩⟩))) | ((first | ((with_reducible refine gate_callee (f := 12) rfl ?_); (with_reducible refine gate_dst (N := 37) rfl ?_); refine gate_guard (by rfl) ?_; dsimp only; refine goesL_ (some 37) rfl rfl Tryd.func12 (by kernel_rfl) rfl #[] rfl (by (try simp only [List.map_toArray, List.map_cons, List.map_nil]); first | done | rfl | (simp only [List.length_drop, List.length_take]; rfl)) ?_; (with_reducible refine (rubricatorlaw14_known.calls k  t167 _ A10.out).mono ?_); rintro e w15 ⟨rfl, hb⟩; refine ⟨_, rfl, ?_⟩) | (go_at_call 12; (with_reducible refine (rubricatorlaw14_known.calls k  t167 _ A10.out).mono ?_); rintro e w15 ⟨rfl, hb⟩)); have n0_ := Aside0.mk (Kd.R_below (by (with_reducible repeat (first | apply Kd.R_alloc | apply Kd.R_drewN | apply Kd.R_drew)); exact HO161.out) hb); have n1_ := Aside0.mk (below_step (by repeat (first | (with_reducible first | exact HB.out | apply below_alloc | apply pw_below_drewN | apply below_drew1) | exact HB.out)) hb); clear HO161; clear HB; have HO161 := n0_; have HB := n1_; clear n0_ n1_; (try clear hb); (try clear hb2); (try clear hk); (try clear hi)))
          go_ret
          exact ⟨by first | rfl | (simp [errW_none, errW_some] <;> rfl) | (simp [*, errW_none, errW_some] <;> rfl), by repeat (first | (with_reducible first | exact HB.out | apply below_alloc | apply pw_below_drewN | apply below_drew1) | exact HB.out)⟩
        · replace c9 := Bool.eq_false_iff.mpr c9
          subst c9
          have H1 : (some false) = some r := by rw [if_neg (show ¬ (false = true) by decide)] at H; exact H
          clear H
          have H := H1
          clear H1
          obtain rfl := Option.some.inj H
          go_enter Tryd.func3, Tryd.ntmps3
          go_wp2_with (first | ((with_reducible refine gate_callee (f := 8) rfl ?_); refine goesL_ (some 12) rfl rfl Tryd.func8 (by kernel_rfl) rfl #[.slice A0 l0.length c0] rfl (by (try simp only [List.map_toArray, List.map_cons, List.map_nil]); first | done | rfl | (simp only [List.length_drop, List.length_take]; rfl)) ?_; (with_reducible refine (rubricatorlaw14_own.calls _ _ l0 t159 _ ?side1 ?side2 A3.out).mono ?_); (case side1 => repeat (first | exact HR0.out | (with_reducible refine Kd.C_alloc ?_ _) | (with_reducible refine Kd.C_drewN ?_ _) | (with_reducible refine Kd.C_drew ?_))); (case side2 => exact HC0.out); rintro e w16 ⟨v160, rfl, ho0, hb⟩; refine ⟨_, rfl, ?_⟩; have n0_ := Aside0.mk (Kd.R_lower ho0 (below_size (by repeat (first | (with_reducible first | exact HB.out | apply below_alloc | apply pw_below_drewN | apply below_drew1) | exact HB.out)))); have n1_ := Aside0.mk (below_step (by repeat (first | (with_reducible first | exact HB.out | apply below_alloc | apply pw_below_drewN | apply below_drew1) | exact HB.out)) hb); clear HB; have HO161 := n0_; have HB := n1_; clear n0_ n1_; (try clear hb); (try clear hb2); (try clear hk); (try clear hi); (try clear ho0); obtain ⟨Ao17, co17, eo17⟩ := Kd.R_slice HO161.out; subst eo17) | ((with_reducible refine gate_callee (f := 9) rfl ?_); refine goesL_ (some 15) rfl rfl Tryd.func9 (by kernel_rfl) rfl #[.slice Ao17 t159.length co17] rfl (by (try simp only [List.map_toArray, List.map_cons, List.map_nil]); first | done | rfl | (simp only [List.length_drop, List.length_take]; rfl)) ?_; (with_reducible refine (style_Check.calls _ _ t159 t162 t163 _ ?side1 ?side2 A4.out).mono ?_); (case side1 => repeat (first | exact (Kd.R_reads' HO161.out).2.2 | (with_reducible refine Kd.C_alloc ?_ _) | (with_reducible refine Kd.C_drewN ?_ _) | (with_reducible refine Kd.C_drew ?_))); (case side2 => exact (Kd.R_reads' HO161.out).2.1); rintro e w18 ⟨rfl, hb⟩; refine ⟨_, rfl, ?_⟩; have n0_ := Aside0.mk (Kd.R_below (by (with_reducible repeat (first | apply Kd.R_alloc | apply Kd.R_drewN | apply Kd.R_drew)); exact HO161.out) hb); have n1_ := Aside0.mk (below_step (by repeat (first | (with_reducible first | exact HB.out | apply below_alloc | apply pw_below_drewN | apply below_drew1) | exact HB.out)) hb); clear HO161; clear HB; have HO161 := n0_; have HB := n1_; clear n0_ n1_; (try clear hb); (try clear hb2); (try clear hk); (try clear hi)) | ((with_reducible refine gate_callee (f := 10) rfl ?_); refine goesL_ (some 20) rfl rfl Tryd.func10 (by kernel_rfl) rfl #[.slice A0 l0.length c0] rfl (by (try simp only [List.map_toArray, List.map_cons, List.map_nil]); first | done | rfl | (simp only [List.length_drop, List.length_take]; rfl)) ?_; (with_reducible refine (rubricatorref14_Check.calls k _ _ l0 t164 t165 _ ?side1 ?side2 A5.out).mono ?_); (case side1 => repeat (first | exact (Kd.C_below HR0.out HB.out) | (with_reducible refine Kd.C_alloc ?_ _) | (with_reducible refine Kd.C_drewN ?_ _) | (with_reducible refine Kd.C_drew ?_))); (case side2 => exact HC0.out); rintro e w19 ⟨rfl, hb⟩; refine ⟨_, rfl, ?_⟩; have n0_ := Aside0.mk (Kd.R_below (by (with_reducible repeat (first | apply Kd.R_alloc | apply Kd.R_drewN | apply Kd.R_drew)); exact HO161.out) hb); have n1_ := Aside0.mk (below_step (by repeat (first | (with_reducible first | exact HB.out | apply below_alloc | apply pw_below_drewN | apply below_drew1) | exact HB.out)) hb); clear HO161; clear HB; have HO161 := n0_; have HB := n1_; clear n0_ n1_; (try clear hb); (try clear hb2); (try clear hk); (try clear hi)) | ((first | ((with_reducible refine gate_callee (f := 11) rfl ?_); (with_reducible refine gate_dst (N := 34) rfl ?_); refine gate_guard (by rfl) ?_; dsimp only; refine goesL_ (some 34) rfl rfl Tryd.func11 (by kernel_rfl) rfl #[.slice Ao17 t159.length co17, .slice A0 l0.length c0] rfl (by (try simp only [List.map_toArray, List.map_cons, List.map_nil]); first | done | rfl | (simp only [List.length_drop, List.length_take]; rfl)) ?_; (with_reducible refine (rubricatorlaw14_styles.calls k _ _ t159 _ _ l0 false _ ?side1 ?side2 ?side3 ?side4 A8.out).mono ?_); (case side1 => repeat (first | exact (Kd.R_reads' HO161.out).2.2 | (with_reducible refine Kd.C_alloc ?_ _) | (with_reducible refine Kd.C_drewN ?_ _) | (with_reducible refine Kd.C_drew ?_))); (case side2 => exact (Kd.R_reads' HO161.out).2.1); (case side3 => repeat (first | exact (Kd.C_below HR0.out HB.out) | (with_reducible refine Kd.C_alloc ?_ _) | (with_reducible refine Kd.C_drewN ?_ _) | (with_reducible refine Kd.C_drew ?_))); (case side4 => exact HC0.out); rintro e w' ⟨rfl, ⟨nd, rfl⟩⟩; refine ⟨_, rfl, ?_⟩) | (go_at_call 11; (with_reducible refine (rubricatorlaw14_styles.calls k _ _ t159 _ _ l0 false _ ?side1 ?side2 ?side3 ?side4 A8.out).mono ?_); (case side1 => repeat (first | exact (Kd.R_reads' HO161.out).2.2 | (with_reducible refine Kd.C_alloc ?_ _) | (with_reducible refine Kd.C_drewN ?_ _) | (with_reducible refine Kd.C_drew ?_))); (case side2 => exact (Kd.R_reads' HO161.out).2.1); (case side3 => repeat (first | exact (Kd.C_below HR0.out HB.out) | (with_reducible refine Kd.C_alloc ?_ _) | (with_reducible refine Kd.C_drewN ?_ _) | (with_reducible refine Kd.C_drew ?_))); (case side4 => exact HC0.out); rintro e w' ⟨rfl, ⟨nd, rfl⟩⟩))))
          go_ret
          exact ⟨by first | rfl | (simp [errW_none, errW_some] <;> rfl) | (simp [*, errW_none, errW_some] <;> rfl), by repeat (first | (with_reducible first | exact HB.out | apply below_alloc | apply pw_below_drewN | apply below_drew1) | exact HB.out)⟩
      · rw [if_neg c7] at H
        have c7b0 : (t163 == t165) = false := beq_eq_false_iff_ne.mpr c7
        have c7b1 : (t163 != t165) = true := bne_iff_ne.mpr c7
        obtain rfl := Option.some.inj H
        go_enter Tryd.func3, Tryd.ntmps3
        go_wp2_with (first | ((with_reducible refine gate_callee (f := 8) rfl ?_); refine goesL_ (some 12) rfl rfl Tryd.func8 (by kernel_rfl) rfl #[.slice A0 l0.length c0] rfl (by (try simp only [List.map_toArray, List.map_cons, List.map_nil]); first | done | rfl | (simp only [List.length_drop, List.length_take]; rfl)) ?_; (with_reducible refine (rubricatorlaw14_own.calls _ _ l0 t159 _ ?side1 ?side2 A3.out).mono ?_); (case side1 => repeat (first | exact HR0.out | (with_reducible refine Kd.C_alloc ?_ _) | (with_reducible refine Kd.C_drewN ?_ _) | (with_reducible refine Kd.C_drew ?_))); (case side2 => exact HC0.out); rintro e w20 ⟨v160, rfl, ho0, hb⟩; refine ⟨_, rfl, ?_⟩; have n0_ := Aside0.mk (Kd.R_lower ho0 (below_size (by repeat (first | (with_reducible first | exact HB.out | apply below_alloc | apply pw_below_drewN | apply below_drew1) | exact HB.out)))); have n1_ := Aside0.mk (below_step (by repeat (first | (with_reducible first | exact HB.out | apply below_alloc | apply pw_below_drewN | apply below_drew1) | exact HB.out)) hb); clear HB; have HO161 := n0_; have HB := n1_; clear n0_ n1_; (try clear hb); (try clear hb2); (try clear hk); (try clear hi); (try clear ho0); obtain ⟨Ao21, co21, eo21⟩ := Kd.R_slice HO161.out; subst eo21) | ((with_reducible refine gate_callee (f := 9) rfl ?_); refine goesL_ (some 15) rfl rfl Tryd.func9 (by kernel_rfl) rfl #[.slice Ao21 t159.length co21] rfl (by (try simp only [List.map_toArray, List.map_cons, List.map_nil]); first | done | rfl | (simp only [List.length_drop, List.length_take]; rfl)) ?_; (with_reducible refine (style_Check.calls _ _ t159 t162 t163 _ ?side1 ?side2 A4.out).mono ?_); (case side1 => repeat (first | exact (Kd.R_reads' HO161.out).2.2 | (with_reducible refine Kd.C_alloc ?_ _) | (with_reducible refine Kd.C_drewN ?_ _) | (with_reducible refine Kd.C_drew ?_))); (case side2 => exact (Kd.R_reads' HO161.out).2.1); rintro e w22 ⟨rfl, hb⟩; refine ⟨_, rfl, ?_⟩; have n0_ := Aside0.mk (Kd.R_below (by (with_reducible repeat (first | apply Kd.R_alloc | apply Kd.R_drewN | apply Kd.R_drew)); exact HO161.out) hb); have n1_ := Aside0.mk (below_step (by repeat (first | (with_reducible first | exact HB.out | apply below_alloc | apply pw_below_drewN | apply below_drew1) | exact HB.out)) hb); clear HO161; clear HB; have HO161 := n0_; have HB := n1_; clear n0_ n1_; (try clear hb); (try clear hb2); (try clear hk); (try clear hi)) | ((with_reducible refine gate_callee (f := 10) rfl ?_); refine goesL_ (some 20) rfl rfl Tryd.func10 (by kernel_rfl) rfl #[.slice A0 l0.length c0] rfl (by (try simp only [List.map_toArray, List.map_cons, List.map_nil]); first | done | rfl | (simp only [List.length_drop, List.length_take]; rfl)) ?_; (with_reducible refine (rubricatorref14_Check.calls k _ _ l0 t164 t165 _ ?side1 ?side2 A5.out).mono ?_); (case side1 => repeat (first | exact (Kd.C_below HR0.out HB.out) | (with_reducible refine Kd.C_alloc ?_ _) | (with_reducible refine Kd.C_drewN ?_ _) | (with_reducible refine Kd.C_drew ?_))); (case side2 => exact HC0.out); rintro e w23 ⟨rfl, hb⟩; refine ⟨_, rfl, ?_⟩; have n0_ := Aside0.mk (Kd.R_below (by (with_reducible repeat (first | apply Kd.R_alloc | apply Kd.R_drewN | apply Kd.R_drew)); exact HO161.out) hb); have n1_ := Aside0.mk (below_step (by repeat (first | (with_reducible first | exact HB.out | apply below_alloc | apply pw_below_drewN | apply below_drew1) | exact HB.out)) hb); clear HO161; clear HB; have HO161 := n0_; have HB := n1_; clear n0_ n1_; (try clear hb); (try clear hb2); (try clear hk); (try clear hi)))
        go_ret
        exact ⟨by first | rfl | (simp [errW_none, errW_some] <;> rfl) | (simp [*, errW_none, errW_some] <;> rfl), by repeat (first | (with_reducible first | exact HB.out | apply below_alloc | apply pw_below_drewN | apply below_drew1) | exact HB.out)⟩
    · rw [if_neg c6] at H
      have c6b0 : (t162 == t164) = false := beq_eq_false_iff_ne.mpr c6
      have c6b1 : (t162 != t164) = true := bne_iff_ne.mpr c6
      obtain rfl := Option.some.inj H
      go_enter Tryd.func3, Tryd.ntmps3
      go_wp2_with (first | ((with_reducible refine gate_callee (f := 8) rfl ?_); refine goesL_ (some 12) rfl rfl Tryd.func8 (by kernel_rfl) rfl #[.slice A0 l0.length c0] rfl (by (try simp only [List.map_toArray, List.map_cons, List.map_nil]); first | done | rfl | (simp only [List.length_drop, List.length_take]; rfl)) ?_; (with_reducible refine (rubricatorlaw14_own.calls _ _ l0 t159 _ ?side1 ?side2 A3.out).mono ?_); (case side1 => repeat (first | exact HR0.out | (with_reducible refine Kd.C_alloc ?_ _) | (with_reducible refine Kd.C_drewN ?_ _) | (with_reducible refine Kd.C_drew ?_))); (case side2 => exact HC0.out); rintro e w24 ⟨v160, rfl, ho0, hb⟩; refine ⟨_, rfl, ?_⟩; have n0_ := Aside0.mk (Kd.R_lower ho0 (below_size (by repeat (first | (with_reducible first | exact HB.out | apply below_alloc | apply pw_below_drewN | apply below_drew1) | exact HB.out)))); have n1_ := Aside0.mk (below_step (by repeat (first | (with_reducible first | exact HB.out | apply below_alloc | apply pw_below_drewN | apply below_drew1) | exact HB.out)) hb); clear HB; have HO161 := n0_; have HB := n1_; clear n0_ n1_; (try clear hb); (try clear hb2); (try clear hk); (try clear hi); (try clear ho0); obtain ⟨Ao25, co25, eo25⟩ := Kd.R_slice HO161.out; subst eo25) | ((with_reducible refine gate_callee (f := 9) rfl ?_); refine goesL_ (some 15) rfl rfl Tryd.func9 (by kernel_rfl) rfl #[.slice Ao25 t159.length co25] rfl (by (try simp only [List.map_toArray, List.map_cons, List.map_nil]); first | done | rfl | (simp only [List.length_drop, List.length_take]; rfl)) ?_; (with_reducible refine (style_Check.calls _ _ t159 t162 t163 _ ?side1 ?side2 A4.out).mono ?_); (case side1 => repeat (first | exact (Kd.R_reads' HO161.out).2.2 | (with_reducible refine Kd.C_alloc ?_ _) | (with_reducible refine Kd.C_drewN ?_ _) | (with_reducible refine Kd.C_drew ?_))); (case side2 => exact (Kd.R_reads' HO161.out).2.1); rintro e w26 ⟨rfl, hb⟩; refine ⟨_, rfl, ?_⟩; have n0_ := Aside0.mk (Kd.R_below (by (with_reducible repeat (first | apply Kd.R_alloc | apply Kd.R_drewN | apply Kd.R_drew)); exact HO161.out) hb); have n1_ := Aside0.mk (below_step (by repeat (first | (with_reducible first | exact HB.out | apply below_alloc | apply pw_below_drewN | apply below_drew1) | exact HB.out)) hb); clear HO161; clear HB; have HO161 := n0_; have HB := n1_; clear n0_ n1_; (try clear hb); (try clear hb2); (try clear hk); (try clear hi)) | ((with_reducible refine gate_callee (f := 10) rfl ?_); refine goesL_ (some 20) rfl rfl Tryd.func10 (by kernel_rfl) rfl #[.slice A0 l0.length c0] rfl (by (try simp only [List.map_toArray, List.map_cons, List.map_nil]); first | done | rfl | (simp only [List.length_drop, List.length_take]; rfl)) ?_; (with_reducible refine (rubricatorref14_Check.calls k _ _ l0 t164 t165 _ ?side1 ?side2 A5.out).mono ?_); (case side1 => repeat (first | exact (Kd.C_below HR0.out HB.out) | (with_reducible refine Kd.C_alloc ?_ _) | (with_reducible refine Kd.C_drewN ?_ _) | (with_reducible refine Kd.C_drew ?_))); (case side2 => exact HC0.out); rintro e w27 ⟨rfl, hb⟩; refine ⟨_, rfl, ?_⟩; have n0_ := Aside0.mk (Kd.R_below (by (with_reducible repeat (first | apply Kd.R_alloc | apply Kd.R_drewN | apply Kd.R_drew)); exact HO161.out) hb); have n1_ := Aside0.mk (below_step (by repeat (first | (with_reducible first | exact HB.out | apply below_alloc | apply pw_below_drewN | apply below_drew1) | exact HB.out)) hb); clear HO161; clear HB; have HO161 := n0_; have HB := n1_; clear n0_ n1_; (try clear hb); (try clear hb2); (try clear hk); (try clear hi)))
      go_ret
      exact ⟨by first | rfl | (simp [errW_none, errW_some] <;> rfl) | (simp [*, errW_none, errW_some] <;> rfl), by repeat (first | (with_reducible first | exact HB.out | apply below_alloc | apply pw_below_drewN | apply below_drew1) | exact HB.out)⟩

/-- THE ONE PURE STATEMENT of rubricatorlaw14_StyleChecks: yours. -/
def rubricatorlaw14_StyleChecks.W35 (x : S35) : Prop := (x.f0.size ≤ 140737488351232) ∧ ((x.f1.size ≤ 140737488351232) ∧ ((True) ∧ (((Lit.int .i64 x.f3).wf = true) ∧ (((Lit.int .i64 x.f4).wf = true) ∧ ((Lit.int .i64 x.f5).wf = true)))))
theorem rubricatorlaw14_StyleChecks.opens35 {H : Type} {enc : TypeId × Value → H} {W : World} : Go.Proofs.YtahgfbficidjlaaDoorOpen.Opens Tryd.prog H enc W k35 35 rubricatorlaw14_StyleChecks.W35 := by
  have h := Go.Proofs.YtahgfbficidjlaaDoorOpen.opens_struct (H := H) (enc := enc) (W := W) Tryd.underlying35 (by kernel_rfl) (Go.Proofs.YtahgfbficidjlaaDoorOpen.fields_cons (wf := (fun (x : ByteArray) => x.size ≤ 140737488351232)) rfl (by kernel_rfl) (Go.Proofs.YtahgfbficidjlaaDoorOpen.opens_string Tryd.underlying9) (Go.Proofs.YtahgfbficidjlaaDoorOpen.fields_cons (wf := (fun (x : ByteArray) => x.size ≤ 140737488351232)) rfl (by kernel_rfl) (Go.Proofs.YtahgfbficidjlaaDoorOpen.opens_string Tryd.underlying9) (Go.Proofs.YtahgfbficidjlaaDoorOpen.fields_cons (wf := (fun x => True)) rfl (by kernel_rfl) (Go.Proofs.YtahgfbficidjlaaDoorOpen.opens_bool Tryd.underlying4) (Go.Proofs.YtahgfbficidjlaaDoorOpen.fields_cons (wf := (fun x => (Lit.int .i64 x).wf = true)) rfl (by kernel_rfl) (Go.Proofs.YtahgfbficidjlaaDoorOpen.opens_int Tryd.underlying3) (Go.Proofs.YtahgfbficidjlaaDoorOpen.fields_cons (wf := (fun x => (Lit.int .i64 x).wf = true)) rfl (by kernel_rfl) (Go.Proofs.YtahgfbficidjlaaDoorOpen.opens_int Tryd.underlying3) (Go.Proofs.YtahgfbficidjlaaDoorOpen.fields_last (wf := (fun x => (Lit.int .i64 x).wf = true)) rfl (by kernel_rfl) (Go.Proofs.YtahgfbficidjlaaDoorOpen.opens_int Tryd.underlying3)))))))
  exact Go.Proofs.YtahgfbficidjlaaDoorOpen.opens_iso (fun x : S35 => (x.f0, x.f1, x.f2, x.f3, x.f4, x.f5)) (fun a => ⟨⟨a.1, a.2.1, a.2.2.1, a.2.2.2.1, a.2.2.2.2.1, a.2.2.2.2.2⟩, rfl⟩) h
def rubricatorlaw14_StyleChecks.Pure : Prop := ∀ (l0 : List (S35)), (l0.length ≤ maxLen ∧ l0.length * 64 ≤ 140737488351232 ∧ ∀ y0_ ∈ l0, rubricatorlaw14_StyleChecks.W35 y0_) → ∃ k, rubricatorlaw14_StyleChecks.f k l0 = some true
theorem rubricatorlaw14_StyleChecks.walk (P : rubricatorlaw14_StyleChecks.Pure) (a0 : Option Addr) (c0 : Nat) (l0 : List (S35)) (w : World) (hr0 : Kd.C k35 w a0 l0.length l0) (hc0 : l0.length ≤ c0) (hw0 : l0.length ≤ maxLen ∧ l0.length * 64 ≤ 140737488351232 ∧ ∀ y0_ ∈ l0, rubricatorlaw14_StyleChecks.W35 y0_) :
    Calls Tryd.prog 3 #[.slice a0 l0.length c0] w fun e w' => e = .returned (.bool true) ∧ Below w.heap.size w w' := by
  obtain ⟨k, h⟩ := P l0 hw0
  refine (rubricatorlaw14_StyleChecks.calls k _ _ l0 true w hr0 hc0 h).mono ?_
  rintro e w' ⟨rfl, hd⟩
  exact ⟨rfl, hd⟩

end Go.Proofs.YtahgfbficidjlaaDoor.PA
