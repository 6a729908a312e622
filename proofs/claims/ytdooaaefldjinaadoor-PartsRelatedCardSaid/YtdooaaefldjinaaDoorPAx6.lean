-- Printed by a program of this workplace (a turned printer): functions, and proofs that the calls come to them.
import Derived.Test.YtdooaaefldjinaaDoorPAx0
import Derived.Test.YtdooaaefldjinaaDoorPAx1
import Derived.Test.YtdooaaefldjinaaDoorPAx2
import Derived.Test.YtdooaaefldjinaaDoorPAx4
import Derived.Test.YtdooaaefldjinaaDoorPAx5
namespace Go.Proofs.YtdooaaefldjinaaDoor.PA
open Go.RowKit Go.Proofs.YtdooaaefldjinaaDoorW.PrintWords Go.Proofs.YtdooaaefldjinaaDoorW.PrintLast Go.Proofs.YtdooaaefldjinaaDoorW.PrintMore
attribute [local go_sem] max2_int min2_int max_two min_two max_three min_three max_four min_four   -- for this text's walks alone
set_option linter.unusedVariables false
set_option linter.unusedSimpArgs false

/-! ### rubricatorlaw12_PartsRelated: function 6 -/
def rubricatorlaw12_PartsRelated.j0 : Nat → ByteArray → ByteArray → Bool → Option (Bool)
  | 0, _, _, _ => none
  | k + 1, x0, x1, x24 => if x24 = true then (some true) else ((parts_Rels.f k x0).bind fun t189 => ((parts_Rels.f k x1).bind fun t190 => ((rubricatorlaw12_rest.f k x0).bind fun t191 => (if 6 + t191.size ≤ 9223372036854775807 then (if ((⟨#[95, 114, 101, 108, 115, 47]⟩ : ByteArray) ++ t191).size + 5 ≤ 9223372036854775807 then ((parts_Resolve.f k x0 (((⟨#[95, 114, 101, 108, 115, 47]⟩ : ByteArray) ++ t191) ++ (⟨#[46, 114, 101, 108, 115]⟩ : ByteArray))).bind fun bt192 => (if ((t189.toList == t190.toList) == (x0.toList == x1.toList)) = true then (if bt192.2 = true then (if bt192.1.toList = t189.toList then (if (t189.size : Int) = (wrap64 ((x0.size : Int) + 11)) then ((rubricatorlaw12_known.f k).bind fun t194 => (some t194)) else (some false)) else (some false)) else (if (t189.size : Int) = (wrap64 ((x0.size : Int) + 11)) then ((rubricatorlaw12_known.f k).bind fun t195 => (some t195)) else (some false))) else (some false))) else (none)) else (none)))))
def rubricatorlaw12_PartsRelated.f (k : Nat) (a0 : ByteArray) (a1 : ByteArray) : Option (Bool) := if (wrap64 ((a0.size : Int) + (a1.size : Int))) > 1000 then (rubricatorlaw12_PartsRelated.j0 k a0 a1 true) else ((rubricatorref12_Is.f k a0).bind fun t187 => (if t187 = true then ((rubricatorref12_Is.f k a1).bind fun t188 => (rubricatorlaw12_PartsRelated.j0 k a0 a1 (!t188))) else (rubricatorlaw12_PartsRelated.j0 k a0 a1 true)))
theorem rubricatorlaw12_PartsRelated.mono_l : ∀ k, (∀ y0 y1 y2, LeO (rubricatorlaw12_PartsRelated.j0 k y0 y1 y2) (rubricatorlaw12_PartsRelated.j0 (k + 1) y0 y1 y2))
  | 0 => fun _ _ _ r h => by simp [rubricatorlaw12_PartsRelated.j0] at h
  | k + 1 => by
    have ih0 := rubricatorlaw12_PartsRelated.mono_l k
    · intro y0 y1 y2
      unfold rubricatorlaw12_PartsRelated.j0
      repeat' first
      | (with_reducible exact ih0 _ _ _)
      | (with_reducible exact parts_Rels.mono _ _)
      | (with_reducible exact parts_Resolve.mono _ _ _)
      | (with_reducible exact rubricatorlaw12_known.mono _)
      | (with_reducible exact rubricatorlaw12_rest.mono _ _)
      | (with_reducible exact rubricatorref12_Is.mono _ _)
      | (with_reducible exact LeO.refl _)
      | (with_reducible exact LeO.none _)
      | (with_reducible refine LeO.ite ?_ ?_)
      | (with_reducible refine LeO.bind ?_ (fun _ => ?_))
      | exact ih0 _ _ _
      | exact parts_Rels.mono _ _
      | exact parts_Resolve.mono _ _ _
      | exact rubricatorlaw12_known.mono _
      | exact rubricatorlaw12_rest.mono _ _
      | exact rubricatorref12_Is.mono _ _
      | exact LeO.none _
      | refine LeO.ite ?_ ?_
      | refine LeO.bind ?_ (fun _ => ?_)
theorem rubricatorlaw12_PartsRelated.mono : ∀ a0 a1 k, LeO (rubricatorlaw12_PartsRelated.f k a0 a1) (rubricatorlaw12_PartsRelated.f (k + 1) a0 a1) := by
  intro a0 a1 k
  have ih0 := rubricatorlaw12_PartsRelated.mono_l k
  unfold rubricatorlaw12_PartsRelated.f
  repeat' first
      | (with_reducible exact ih0 _ _ _)
      | (with_reducible exact parts_Rels.mono _ _)
      | (with_reducible exact parts_Resolve.mono _ _ _)
      | (with_reducible exact rubricatorlaw12_known.mono _)
      | (with_reducible exact rubricatorlaw12_rest.mono _ _)
      | (with_reducible exact rubricatorref12_Is.mono _ _)
      | (with_reducible exact LeO.refl _)
      | (with_reducible exact LeO.none _)
      | (with_reducible refine LeO.ite ?_ ?_)
      | (with_reducible refine LeO.bind ?_ (fun _ => ?_))
      | exact ih0 _ _ _
      | exact parts_Rels.mono _ _
      | exact parts_Resolve.mono _ _ _
      | exact rubricatorlaw12_known.mono _
      | exact rubricatorlaw12_rest.mono _ _
      | exact rubricatorref12_Is.mono _ _
      | exact LeO.none _
      | refine LeO.ite ?_ ?_
      | refine LeO.bind ?_ (fun _ => ?_)
set_option maxHeartbeats 8000000 in
set_option maxRecDepth 100000 in
theorem rubricatorlaw12_PartsRelated.calls (k : Nat) (a0 : ByteArray) (a1 : ByteArray) (r : Bool) (w : World) (h : rubricatorlaw12_PartsRelated.f k a0 a1 = some r) :
    Calls Tryd.prog 6 #[.string a0, .string a1] w fun e w' => e = .returned (.bool r) ∧ Below w.heap.size w w' := by
  have HB := Aside0.mk (Below.refl w.heap.size w)
  have H : (if (wrap64 ((a0.size : Int) + (a1.size : Int))) > 1000 then (rubricatorlaw12_PartsRelated.j0 k a0 a1 true) else ((rubricatorref12_Is.f k a0).bind fun t187 => (if t187 = true then ((rubricatorref12_Is.f k a1).bind fun t188 => (rubricatorlaw12_PartsRelated.j0 k a0 a1 (!t188))) else (rubricatorlaw12_PartsRelated.j0 k a0 a1 true)))) = some r := h
  clear h
  have HC3 := Aside0.mk H
  clear H
  go_enter Tryd.func6, Tryd.ntmps6
  go_upto_region 1 with (fail)
  go_cut [24] (fun v24 wc => ∃ (kq : Nat) (x24_2 : Bool), v24 = .bool x24_2 ∧ Aside0 (rubricatorlaw12_PartsRelated.j0 kq a0 a1 x24_2 = some r) ∧ Aside0 (kq ≤ k) ∧ Aside0 (Below w.heap.size w wc))
  case first =>
    have H := HC3.out
    clear HC3
    by_cases c4 : (wrap64 ((a0.size : Int) + (a1.size : Int))) > 1000
    · rw [if_pos c4] at H
      have c4b0 : decide (1000 < (wrap64 ((a0.size : Int) + (a1.size : Int)))) = true := decide_eq_true c4
      clear c4
      (first | rw [c4b0] | (simp only [i64_w, i32_w]; rw [c4b0]) | skip)
      have H' := Aside0.mk H
      clear H
      go_wp2
      go_meet
      case rel => exact ⟨_, (true), (by first | rfl | (simp; done) | (simp [*]; done)), H', ⟨by first | omega | exact Nat.le_refl _⟩, ⟨by repeat (first | (with_reducible first | exact HB.out | apply below_alloc | apply pw_below_drewN | apply below_drew1) | exact HB.out)⟩⟩
    · rw [if_neg c4] at H
      have c4b0 : decide (1000 < (wrap64 ((a0.size : Int) + (a1.size : Int)))) = false := decide_eq_false c4
      clear c4
      (first | rw [c4b0] | (simp only [i64_w, i32_w]; rw [c4b0]) | skip)
      replace H := Option.bind_eq_some_iff.mp H
      obtain ⟨t187, A50, H⟩ := H
      replace H : (if t187 = true then ((rubricatorref12_Is.f k a1).bind fun t188 => (rubricatorlaw12_PartsRelated.j0 k a0 a1 (!t188))) else (rubricatorlaw12_PartsRelated.j0 k a0 a1 true)) = some r := H
      have A5 := Aside0.mk A50
      clear A50
      by_cases c6 : t187 = true
      · subst c6
        have H1 : ((rubricatorref12_Is.f k a1).bind fun t188 => (rubricatorlaw12_PartsRelated.j0 k a0 a1 (!t188))) = some r := by rw [if_pos rfl] at H; exact H
        clear H
        have H := H1
        clear H1
        replace H := Option.bind_eq_some_iff.mp H
        obtain ⟨t188, A70, H⟩ := H
        replace H : (rubricatorlaw12_PartsRelated.j0 k a0 a1 (!t188)) = some r := H
        have A7 := Aside0.mk A70
        clear A70
        have H' := Aside0.mk H
        clear H
        go_wp2_with (first | ((first | ((with_reducible refine gate_callee (f := 12) rfl ?_); (with_reducible refine gate_dst (N := 17) rfl ?_); refine gate_guard (by rfl) ?_; dsimp only; refine goesL_ (some 17) rfl rfl Tryd.func12 (by kernel_rfl) rfl #[.string a0] rfl (by (try simp only [List.map_toArray, List.map_cons, List.map_nil]); first | done | rfl | (simp only [List.length_drop, List.length_take]; rfl)) ?_; (with_reducible refine (rubricatorref12_Is.calls k a0 true _ A5.out).mono ?_); rintro e w8 ⟨rfl, hb⟩; refine ⟨_, rfl, ?_⟩) | (go_at_call 12; (with_reducible refine (rubricatorref12_Is.calls k a0 true _ A5.out).mono ?_); rintro e w8 ⟨rfl, hb⟩)); have n0_ := Aside0.mk (below_step (by repeat (first | (with_reducible first | exact HB.out | apply below_alloc | apply pw_below_drewN | apply below_drew1) | exact HB.out)) hb); clear HB; have HB := n0_; clear n0_; (try clear hb); (try clear hb2); (try clear hk); (try clear hi)) | ((first | ((with_reducible refine gate_callee (f := 12) rfl ?_); (with_reducible refine gate_dst (N := 22) rfl ?_); refine gate_guard (by rfl) ?_; dsimp only; refine goesL_ (some 22) rfl rfl Tryd.func12 (by kernel_rfl) rfl #[.string a1] rfl (by (try simp only [List.map_toArray, List.map_cons, List.map_nil]); first | done | rfl | (simp only [List.length_drop, List.length_take]; rfl)) ?_; (with_reducible refine (rubricatorref12_Is.calls k a1 t188 _ A7.out).mono ?_); rintro e w9 ⟨rfl, hb⟩; refine ⟨_, rfl, ?_⟩) | (go_at_call 12; (with_reducible refine (rubricatorref12_Is.calls k a1 t188 _ A7.out).mono ?_); rintro e w9 ⟨rfl, hb⟩)); have n0_ := Aside0.mk (below_step (by repeat (first | (with_reducible first | exact HB.out | apply below_alloc | apply pw_below_drewN | apply below_drew1) | exact HB.out)) hb); clear HB; have HB := n0_; clear n0_; (try clear hb); (try clear hb2); (try clear hk); (try clear hi)))
        go_meet
        case rel => exact ⟨_, (!t188), (by first | rfl | (simp; done) | (simp [*]; done)), H', ⟨by first | omega | exact Nat.le_refl _⟩, ⟨by repeat (first | (with_reducible first | exact HB.out | apply below_alloc | apply pw_below_drewN | apply below_drew1) | exact HB.out)⟩⟩
      · replace c6 := Bool.eq_false_iff.mpr c6
        subst c6
        have H1 : (rubricatorlaw12_PartsRelated.j0 k a0 a1 true) = some r := by rw [if_neg (show ¬ (false = true) by decide)] at H; exact H
        clear H
        have H := H1
        clear H1
        have H' := Aside0.mk H
        clear H
        go_wp2_with (first | ((first | ((with_reducible refine gate_callee (f := 12) rfl ?_); (with_reducible refine gate_dst (N := 17) rfl ?_); refine gate_guard (by rfl) ?_; dsimp only; refine goesL_ (some 17) rfl rfl Tryd.func12 (by kernel_rfl) rfl #[.string a0] rfl (by (try simp only [List.map_toArray, List.map_cons, List.map_nil]); first | done | rfl | (simp only [List.length_drop, List.length_take]; rfl)) ?_; (with_reducible refine (rubricatorref12_Is.calls k a0 false _ A5.out).mono ?_); rintro e w10 ⟨rfl, hb⟩; refine ⟨_, rfl, ?_⟩) | (go_at_call 12; (with_reducible refine (rubricatorref12_Is.calls k a0 false _ A5.out).mono ?_); rintro e w10 ⟨rfl, hb⟩)); have n0_ := Aside0.mk (below_step (by repeat (first | (with_reducible first | exact HB.out | apply below_alloc | apply pw_below_drewN | apply below_drew1) | exact HB.out)) hb); clear HB; have HB := n0_; clear n0_; (try clear hb); (try clear hb2); (try clear hk); (try clear hi)))
        go_meet
        case rel => exact ⟨_, (true), (by first | rfl | (simp; done) | (simp [*]; done)), H', ⟨by first | omega | exact Nat.le_refl _⟩, ⟨by repeat (first | (with_reducible first | exact HB.out | apply below_alloc | apply pw_below_drewN | apply below_drew1) | exact HB.out)⟩⟩
  case rest =>
    clear HC3
    try clear c1
    try clear p2
    try clear c4
    try clear c4b0
    try clear c6
    try clear p6
    obtain ⟨kq, x24_2, rfl, HA, HJ2, HB⟩ := hcut
    cases kq with
    | zero => exact absurd HA.out (by simp [rubricatorlaw12_PartsRelated.j0])
    | succ kj2 =>
      have H := HA.out
      clear HA
      simp only [rubricatorlaw12_PartsRelated.j0] at H
      by_cases c11 : x24_2 = true
      · subst c11
        have H1 : (some true) = some r := by rw [if_pos rfl] at H; exact H
        clear H
        have H := H1
        clear H1
        obtain rfl := Option.some.inj H
        go_wp2
        go_ret
        exact ⟨by first | rfl | (simp [errW_none, errW_some] <;> rfl) | (simp [*, errW_none, errW_some] <;> rfl), by repeat (first | (with_reducible first | exact HB.out | apply below_alloc | apply pw_below_drewN | apply below_drew1) | exact HB.out)⟩
      · replace c11 := Bool.eq_false_iff.mpr c11
        subst c11
        have H1 : ((parts_Rels.f kj2 a0).bind fun t189 => ((parts_Rels.f kj2 a1).bind fun t190 => ((rubricatorlaw12_rest.f kj2 a0).bind fun t191 => (if 6 + t191.size ≤ 9223372036854775807 then (if ((⟨#[95, 114, 101, 108, 115, 47]⟩ : ByteArray) ++ t191).size + 5 ≤ 9223372036854775807 then ((parts_Resolve.f kj2 a0 (((⟨#[95, 114, 101, 108, 115, 47]⟩ : ByteArray) ++ t191) ++ (⟨#[46, 114, 101, 108, 115]⟩ : ByteArray))).bind fun bt192 => (if ((t189.toList == t190.toList) == (a0.toList == a1.toList)) = true then (if bt192.2 = true then (if bt192.1.toList = t189.toList then (if (t189.size : Int) = (wrap64 ((a0.size : Int) + 11)) then ((rubricatorlaw12_known.f kj2).bind fun t194 => (some t194)) else (some false)) else (some false)) else (if (t189.size : Int) = (wrap64 ((a0.size : Int) + 11)) then ((rubricatorlaw12_known.f kj2).bind fun t195 => (some t195)) else (some false))) else (some false))) else (none)) else (none))))) = some r := by rw [if_neg (show ¬ (false = true) by decide)] at H; exact H
        clear H
        have H := H1
        clear H1
        replace H := Option.bind_eq_some_iff.mp H
        obtain ⟨t189, A120, H⟩ := H
        replace H : ((parts_Rels.f kj2 a1).bind fun t190 => ((rubricatorlaw12_rest.f kj2 a0).bind fun t191 => (if 6 + t191.size ≤ 9223372036854775807 then (if ((⟨#[95, 114, 101, 108, 115, 47]⟩ : ByteArray) ++ t191).size + 5 ≤ 9223372036854775807 then ((parts_Resolve.f kj2 a0 (((⟨#[95, 114, 101, 108, 115, 47]⟩ : ByteArray) ++ t191) ++ (⟨#[46, 114, 101, 108, 115]⟩ : ByteArray))).bind fun bt192 => (if ((t189.toList == t190.toList) == (a0.toList == a1.toList)) = true then (if bt192.2 = true then (if bt192.1.toList = t189.toList then (if (t189.size : Int) = (wrap64 ((a0.size : Int) + 11)) then ((rubricatorlaw12_known.f kj2).bind fun t194 => (some t194)) else (some false)) else (some false)) else (if (t189.size : Int) = (wrap64 ((a0.size : Int) + 11)) then ((rubricatorlaw12_known.f kj2).bind fun t195 => (some t195)) else (some false))) else (some false))) else (none)) else (none)))) = some r := H
        have A12 := Aside0.mk A120
        clear A120
        replace H := Option.bind_eq_some_iff.mp H
        obtain ⟨t190, A130, H⟩ := H
        replace H : ((rubricatorlaw12_rest.f kj2 a0).bind fun t191 => (if 6 + t191.size ≤ 9223372036854775807 then (if ((⟨#[95, 114, 101, 108, 115, 47]⟩ : ByteArray) ++ t191).size + 5 ≤ 9223372036854775807 then ((parts_Resolve.f kj2 a0 (((⟨#[95, 114, 101, 108, 115, 47]⟩ : ByteArray) ++ t191) ++ (⟨#[46, 114, 101, 108, 115]⟩ : ByteArray))).bind fun bt192 => (if ((t189.toList == t190.toList) == (a0.toList == a1.toList)) = true then (if bt192.2 = true then (if bt192.1.toList = t189.toList then (if (t189.size : Int) = (wrap64 ((a0.size : Int) + 11)) then ((rubricatorlaw12_known.f kj2).bind fun t194 => (some t194)) else (some false)) else (some false)) else (if (t189.size : Int) = (wrap64 ((a0.size : Int) + 11)) then ((rubricatorlaw12_known.f kj2).bind fun t195 => (some t195)) else (some false))) else (some false))) else (none)) else (none))) = some r := H
        have A13 := Aside0.mk A130
        clear A130
        replace H := Option.bind_eq_some_iff.mp H
        obtain ⟨t191, A140, H⟩ := H
        replace H : (if 6 + t191.size ≤ 9223372036854775807 then (if ((⟨#[95, 114, 101, 108, 115, 47]⟩ : ByteArray) ++ t191).size + 5 ≤ 9223372036854775807 then ((parts_Resolve.f kj2 a0 (((⟨#[95, 114, 101, 108, 115, 47]⟩ : ByteArray) ++ t191) ++ (⟨#[46, 114, 101, 108, 115]⟩ : ByteArray))).bind fun bt192 => (if ((t189.toList == t190.toList) == (a0.toList == a1.toList)) = true then (if bt192.2 = true then (if bt192.1.toList = t189.toList then (if (t189.size : Int) = (wrap64 ((a0.size : Int) + 11)) then ((rubricatorlaw12_known.f kj2).bind fun t194 => (some t194)) else (some false)) else (some false)) else (if (t189.size : Int) = (wrap64 ((a0.size : Int) + 11)) then ((rubricatorlaw12_known.f kj2).bind fun t195 => (some t195)) else (some false))) else (some false))) else (none)) else (none)) = some r := H
        have A14 := Aside0.mk A140
        clear A140
        by_cases c15 : 6 + t191.size ≤ 9223372036854775807
        · rw [if_pos c15] at H
          have c15b0 := eq_true c15
          have c15b1 : decide (6 + t191.size ≤ 9223372036854775807) = true := decide_eq_true c15
          try have c15b2 : (9223372036854775807 < 6 + t191.size) = False := eq_false (Nat.not_lt.2 c15)
          by_cases c16 : ((⟨#[95, 114, 101, 108, 115, 47]⟩ : ByteArray) ++ t191).size + 5 ≤ 9223372036854775807
          · rw [if_pos c16] at H
            have c16b0 := eq_true c16
            have c16b1 : decide (((⟨#[95, 114, 101, 108, 115, 47]⟩ : ByteArray) ++ t191).size + 5 ≤ 9223372036854775807) = true := decide_eq_true c16
            try have c16b2 : (9223372036854775807 < ((⟨#[95, 114, 101, 108, 115, 47]⟩ : ByteArray) ++ t191).size + 5) = False := eq_false (Nat.not_lt.2 c16)
            have c16b3 := Nat.not_lt.2 c16
            try simp only [ByteArray.size_append, show (⟨#[95, 114, 101, 108, 115, 47]⟩ : ByteArray).size = 6 from rfl] at c16b3
            replace c16b3 := eq_false c16b3
            replace H := Option.bind_eq_some_iff.mp H
            obtain ⟨⟨t192, t193⟩, A170, H⟩ := H
            replace H : (if ((t189.toList == t190.toList) == (a0.toList == a1.toList)) = true then (if t193 = true then (if t192.toList = t189.toList then (if (t189.size : Int) = (wrap64 ((a0.size : Int) + 11)) then ((rubricatorlaw12_known.f kj2).bind fun t194 => (some t194)) else (some false)) else (some false)) else (if (t189.size : Int) = (wrap64 ((a0.size : Int) + 11)) then ((rubricatorlaw12_known.f kj2).bind fun t195 => (some t195)) else (some false))) else (some false)) = some r := H
            have A17 := Aside0.mk A170
            clear A170
            by_cases c18 : ((t189.toList == t190.toList) == (a0.toList == a1.toList)) = true
            · rw [if_pos c18] at H
              have c18b0 : ((t189.toList == t190.toList) == (a0.toList == a1.toList)) = true := c18
              (try (have c18b1 : decide ((t189.toList == t190.toList) = (a0.toList == a1.toList)) = true := by simpa using c18))
              (try (have c18b2 : ((t189.toList == t190.toList) == (a0.toList == a1.toList)) = true := by simpa using c18))
              clear c18
              by_cases c19 : t193 = true
              · subst c19
                have H1 : (if t192.toList = t189.toList then (if (t189.size : Int) = (wrap64 ((a0.size : Int) + 11)) then ((rubricatorlaw12_known.f kj2).bind fun t194 => (some t194)) else (some false)) else (some false)) = some r := by rw [if_pos rfl] at H; exact H
                clear H
                have H := H1
                clear H1
                by_cases c20 : t192.toList = t189.toList
                · rw [if_pos c20] at H
                  have c20b0 : (t192.toList == t189.toList) = true := beq_iff_eq.mpr c20
                  have c20b1 : (t192.toList != t189.toList) = false := bne_eq_false_iff_eq.mpr c20
                  clear c20
                  by_cases c21 : (t189.size : Int) = (wrap64 ((a0.size : Int) + 11))
                  · rw [if_pos c21] at H
                    have c21b0 : ((t189.size : Int) == (wrap64 ((a0.size : Int) + 11))) = true := beq_iff_eq.mpr c21
                    have c21b1 : ((t189.size : Int) != (wrap64 ((a0.size : Int) + 11))) = false := bne_eq_false_iff_eq.mpr c21
                    clear c21
                    replace H := Option.bind_eq_some_iff.mp H
                    obtain ⟨t194, A220, H⟩ := H
                    replace H : (some t194) = some r := H
                    have A22 := Aside0.mk A220
                    clear A220
                    obtain rfl := Option.some.inj H
                    go_wp2_with (first | ((with_reducible refine gate_callee (f := 13) rfl ?_); refine goesL_ (some 26) rfl rfl Tryd.func13 (by kernel_rfl) rfl #[.string a0] rfl (by (try simp only [List.map_toArray, List.map_cons, List.map_nil]); first | done | rfl | (simp only [List.length_drop, List.length_take]; rfl)) ?_; (with_reducible refine (parts_Rels.calls kj2 a0 t189 _ A12.out).mono ?_); rintro e w23 ⟨rfl, hb⟩; refine ⟨_, rfl, ?_⟩; have n0_ := Aside0.mk (below_step (by repeat (first | (with_reducible first | exact HB.out | apply below_alloc | apply pw_below_drewN | apply below_drew1) | exact HB.out)) hb); clear HB; have HB := n0_; clear n0_; (try clear hb); (try clear hb2); (try clear hk); (try clear hi)) | ((with_reducible refine gate_callee (f := 13) rfl ?_); refine goesL_ (some 28) rfl rfl Tryd.func13 (by kernel_rfl) rfl #[.string a1] rfl (by (try simp only [List.map_toArray, List.map_cons, List.map_nil]); first | done | rfl | (simp only [List.length_drop, List.length_take]; rfl)) ?_; (with_reducible refine (parts_Rels.calls kj2 a1 t190 _ A13.out).mono ?_); rintro e w24 ⟨rfl, hb⟩; refine ⟨_, rfl, ?_⟩; have n0_ := Aside0.mk (below_step (by repeat (first | (with_reducible first | exact HB.out | apply below_alloc | apply pw_below_drewN | apply below_drew1) | exact HB.out)) hb); clear HB; have HB := n0_; clear n0_; (try clear hb); (try clear hb2); (try clear hk); (try clear hi)) | ((with_reducible refine gate_callee (f := 14) rfl ?_); refine goesL_ (some 32) rfl rfl Tryd.func14 (by kernel_rfl) rfl #[.string a0] rfl (by (try simp only [List.map_toArray, List.map_cons, List.map_nil]); first | done | rfl | (simp only [List.length_drop, List.length_take]; rfl)) ?_; (with_reducible refine (rubricatorlaw12_rest.calls kj2 a0 t191 _ A14.out).mono ?_); rintro e w' ⟨rfl, ⟨nd, rfl⟩⟩; refine ⟨_, rfl, ?_⟩) | ((with_reducible refine gate_callee (f := 8) rfl ?_); refine goesL_ (some 35) rfl rfl Tryd.func8 (by kernel_rfl) rfl #[.string a0, .string (((⟨#[95, 114, 101, 108, 115, 47]⟩ : ByteArray) ++ t191) ++ (⟨#[46, 114, 101, 108, 115]⟩ : ByteArray))] rfl (by (try simp only [List.map_toArray, List.map_cons, List.map_nil]); first | done | rfl | (simp only [List.length_drop, List.length_take]; rfl)) ?_; (with_reducible refine (parts_Resolve.calls kj2 a0 (((⟨#[95, 114, 101, 108, 115, 47]⟩ : ByteArray) ++ t191) ++ (⟨#[46, 114, 101, 108, 115]⟩ : ByteArray)) t192 true _ A17.out).mono ?_); rintro e w25 ⟨rfl, hb⟩; refine ⟨_, rfl, ?_⟩; have n0_ := Aside0.mk (below_step (by repeat (first | (with_reducible first | exact HB.out | apply below_alloc | apply pw_below_drewN | apply below_drew1) | exact HB.out)) hb); clear HB; have HB := n0_; clear n0_; (try clear hb); (try clear hb2); (try clear hk); (try clear hi)) | ((first | ((with_reducible refine gate_callee (f := 11) rfl ?_); (with_reducible refine gate_dst (N := 63) rfl ?_); refine gate_guard (by rfl) ?_; dsimp only; refine goesL_ (some 63) rfl rfl Tryd.func11 (by kernel_rfl) rfl #[] rfl (by (try simp only [List.map_toArray, List.map_cons, List.map_nil]); first | done | rfl | (simp only [List.length_drop, List.length_take]; rfl)) ?_; (with_reducible refine (rubricatorlaw12_known.calls kj2  t194 _ A22.out).mono ?_); rintro e w26 ⟨rfl, hb⟩; refine ⟨_, rfl, ?_⟩) | (go_at_call 11; (with_reducible refine (rubricatorlaw12_known.calls kj2  t194 _ A22.out).mono ?_); rintro e w26 ⟨rfl, hb⟩)); have n0_ := Aside0.mk (below_step (by repeat (first | (with_reducible first | exact HB.out | apply below_alloc | apply pw_below_drewN | apply below_drew1) | exact HB.out)) hb); clear HB; have HB := n0_; clear n0_; (try clear hb); (try clear hb2); (try clear hk); (try clear hi)))
                    go_ret
                    exact ⟨by first | rfl | (simp [errW_none, errW_some] <;> rfl) | (simp [*, errW_none, errW_some] <;> rfl), by repeat (first | (with_reducible first | exact HB.out | apply below_alloc | apply pw_below_drewN | apply below_drew1) | exact HB.out)⟩
                  · rw [if_neg c21] at H
                    have c21b0 : ((t189.size : Int) == (wrap64 ((a0.size : Int) + 11))) = false := beq_eq_false_iff_ne.mpr c21
                    have c21b1 : ((t189.size : Int) != (wrap64 ((a0.size : Int) + 11))) = true := bne_iff_ne.mpr c21
                    obtain rfl := Option.some.inj H
                    go_wp2_with (first | ((with_reducible refine gate_callee (f := 13) rfl ?_); refine goesL_ (some 26) rfl rfl Tryd.func13 (by kernel_rfl) rfl #[.string a0] rfl (by (try simp only [List.map_toArray, List.map_cons, List.map_nil]); first | done | rfl | (simp only [List.length_drop, List.length_take]; rfl)) ?_; (with_reducible refine (parts_Rels.calls kj2 a0 t189 _ A12.out).mono ?_); rintro e w27 ⟨rfl, hb⟩; refine ⟨_, rfl, ?_⟩; have n0_ := Aside0.mk (below_step (by repeat (first | (with_reducible first | exact HB.out | apply below_alloc | apply pw_below_drewN | apply below_drew1) | exact HB.out)) hb); clear HB; have HB := n0_; clear n0_; (try clear hb); (try clear hb2); (try clear hk); (try clear hi)) | ((with_reducible refine gate_callee (f := 13) rfl ?_); refine goesL_ (some 28) rfl rfl Tryd.func13 (by kernel_rfl) rfl #[.string a1] rfl (by (try simp only [List.map_toArray, List.map_cons, List.map_nil]); first | done | rfl | (simp only [List.length_drop, List.length_take]; rfl)) ?_; (with_reducible refine (parts_Rels.calls kj2 a1 t190 _ A13.out).mono ?_); rintro e w28 ⟨rfl, hb⟩; refine ⟨_, rfl, ?_⟩; have n0_ := Aside0.mk (below_step (by repeat (first | (with_reducible first | exact HB.out | apply below_alloc | apply pw_below_drewN | apply below_drew1) | exact HB.out)) hb); clear HB; have HB := n0_; clear n0_; (try clear hb); (try clear hb2); (try clear hk); (try clear hi)) | ((with_reducible refine gate_callee (f := 14) rfl ?_); refine goesL_ (some 32) rfl rfl Tryd.func14 (by kernel_rfl) rfl #[.string a0] rfl (by (try simp only [List.map_toArray, List.map_cons, List.map_nil]); first | done | rfl | (simp only [List.length_drop, List.length_take]; rfl)) ?_; (with_reducible refine (rubricatorlaw12_rest.calls kj2 a0 t191 _ A14.out).mono ?_); rintro e w' ⟨rfl, ⟨nd, rfl⟩⟩; refine ⟨_, rfl, ?_⟩) | ((with_reducible refine gate_callee (f := 8) rfl ?_); refine goesL_ (some 35) rfl rfl Tryd.func8 (by kernel_rfl) rfl #[.string a0, .string (((⟨#[95, 114, 101, 108, 115, 47]⟩ : ByteArray) ++ t191) ++ (⟨#[46, 114, 101, 108, 115]⟩ : ByteArray))] rfl (by (try simp only [List.map_toArray, List.map_cons, List.map_nil]); first | done | rfl | (simp only [List.length_drop, List.length_take]; rfl)) ?_; (with_reducible refine (parts_Resolve.calls kj2 a0 (((⟨#[95, 114, 101, 108, 115, 47]⟩ : ByteArray) ++ t191) ++ (⟨#[46, 114, 101, 108, 115]⟩ : ByteArray)) t192 true _ A17.out).mono ?_); rintro e w29 ⟨rfl, hb⟩; refine ⟨_, rfl, ?_⟩; have n0_ := Aside0.mk (below_step (by repeat (first | (with_reducible first | exact HB.out | apply below_alloc | apply pw_below_drewN | apply below_drew1) | exact HB.out)) hb); clear HB; have HB := n0_; clear n0_; (try clear hb); (try clear hb2); (try clear hk); (try clear hi)))
                    go_ret
                    exact ⟨by first | rfl | (simp [errW_none, errW_some] <;> rfl) | (simp [*, errW_none, errW_some] <;> rfl), by repeat (first | (with_reducible first | exact HB.out | apply below_alloc | apply pw_below_drewN | apply below_drew1) | exact HB.out)⟩
                · rw [if_neg c20] at H
                  have c20b0 : (t192.toList == t189.toList) = false := beq_eq_false_iff_ne.mpr c20
                  have c20b1 : (t192.toList != t189.toList) = true := bne_iff_ne.mpr c20
                  obtain rfl := Option.some.inj H
                  go_wp2_with (first | ((with_reducible refine gate_callee (f := 13) rfl ?_); refine goesL_ (some 26) rfl rfl Tryd.func13 (by kernel_rfl) rfl #[.string a0] rfl (by (try simp only [List.map_toArray, List.map_cons, List.map_nil]); first | done | rfl | (simp only [List.length_drop, List.length_take]; rfl)) ?_; (with_reducible refine (parts_Rels.calls kj2 a0 t189 _ A12.out).mono ?_); rintro e w30 ⟨rfl, hb⟩; refine ⟨_, rfl, ?_⟩; have n0_ := Aside0.mk (below_step (by repeat (first | (with_reducible first | exact HB.out | apply below_alloc | apply pw_below_drewN | apply below_drew1) | exact HB.out)) hb); clear HB; have HB := n0_; clear n0_; (try clear hb); (try clear hb2); (try clear hk); (try clear hi)) | ((with_reducible refine gate_callee (f := 13) rfl ?_); refine goesL_ (some 28) rfl rfl Tryd.func13 (by kernel_rfl) rfl #[.string a1] rfl (by (try simp only [List.map_toArray, List.map_cons, List.map_nil]); first | done | rfl | (simp only [List.length_drop, List.length_take]; rfl)) ?_; (with_reducible refine (parts_Rels.calls kj2 a1 t190 _ A13.out).mono ?_); rintro e w31 ⟨rfl, hb⟩; refine ⟨_, rfl, ?_⟩; have n0_ := Aside0.mk (below_step (by repeat (first | (with_reducible first | exact HB.out | apply below_alloc | apply pw_below_drewN | apply below_drew1) | exact HB.out)) hb); clear HB; have HB := n0_; clear n0_; (try clear hb); (try clear hb2); (try clear hk); (try clear hi)) | ((with_reducible refine gate_callee (f := 14) rfl ?_); refine goesL_ (some 32) rfl rfl Tryd.func14 (by kernel_rfl) rfl #[.string a0] rfl (by (try simp only [List.map_toArray, List.map_cons, List.map_nil]); first | done | rfl | (simp only [List.length_drop, List.length_take]; rfl)) ?_; (with_reducible refine (rubricatorlaw12_rest.calls kj2 a0 t191 _ A14.out).mono ?_); rintro e w' ⟨rfl, ⟨nd, rfl⟩⟩; refine ⟨_, rfl, ?_⟩) | ((with_reducible refine gate_callee (f := 8) rfl ?_); refine goesL_ (some 35) rfl rfl Tryd.func8 (by kernel_rfl) rfl #[.string a0, .string (((⟨#[95, 114, 101, 108, 115, 47]⟩ : ByteArray) ++ t191) ++ (⟨#[46, 114, 101, 108, 115]⟩ : ByteArray))] rfl (by (try simp only [List.map_toArray, List.map_cons, List.map_nil]); first | done | rfl | (simp only [List.length_drop, List.length_take]; rfl)) ?_; (with_reducible refine (parts_Resolve.calls kj2 a0 (((⟨#[95, 114, 101, 108, 115, 47]⟩ : ByteArray) ++ t191) ++ (⟨#[46, 114, 101, 108, 115]⟩ : ByteArray)) t192 true _ A17.out).mono ?_); rintro e w32 ⟨rfl, hb⟩; refine ⟨_, rfl, ?_⟩; have n0_ := Aside0.mk (below_step (by repeat (first | (with_reducible first | exact HB.out | apply below_alloc | apply pw_below_drewN | apply below_drew1) | exact HB.out)) hb); clear HB; have HB := n0_; clear n0_; (try clear hb); (try clear hb2); (try clear hk); (try clear hi)))
                  go_ret
                  exact ⟨by first | rfl | (simp [errW_none, errW_some] <;> rfl) | (simp [*, errW_none, errW_some] <;> rfl), by repeat (first | (with_reducible first | exact HB.out | apply below_alloc | apply pw_below_drewN | apply below_drew1) | exact HB.out)⟩
              · replace c19 := Bool.eq_false_iff.mpr c19
                subst c19
                have H1 : (if (t189.size : Int) = (wrap64 ((a0.size : Int) + 11)) then ((rubricatorlaw12_known.f kj2).bind fun t195 => (some t195)) else (some false)) = some r := by rw [if_neg (show ¬ (false = true) by decide)] at H; exact H
                clear H
                have H := H1
                clear H1
                by_cases c33 : (t189.size : Int) = (wrap64 ((a0.size : Int) + 11))
                · rw [if_pos c33] at H
                  have c33b0 : ((t189.size : Int) == (wrap64 ((a0.size : Int) + 11))) = true := beq_iff_eq.mpr c33
                  have c33b1 : ((t189.size : Int) != (wrap64 ((a0.size : Int) + 11))) = false := bne_eq_false_iff_eq.mpr c33
                  clear c33
                  replace H := Option.bind_eq_some_iff.mp H
                  obtain ⟨t195, A340, H⟩ := H
                  replace H : (some t195) = some r := H
                  have A34 := Aside0.mk A340
                  clear A340
                  obtain rfl := Option.some.inj H
                  go_wp2_with (first | ((with_reducible refine gate_callee (f := 13) rfl ?_); refine goesL_ (some 26) rfl rfl Tryd.func13 (by kernel_rfl) rfl #[.string a0] rfl (by (try simp only [List.map_toArray, List.map_cons, List.map_nil]); first | done | rfl | (simp only [List.length_drop, List.length_take]; rfl)) ?_; (with_reducible refine (parts_Rels.calls kj2 a0 t189 _ A12.out).mono ?_); rintro e w35 ⟨rfl, hb⟩; refine ⟨_, rfl, ?_⟩; have n0_ := Aside0.mk (below_step (by repeat (first | (with_reducible first | exact HB.out | apply below_alloc | apply pw_below_drewN | apply below_drew1) | exact HB.out)) hb); clear HB; have HB := n0_; clear n0_; (try clear hb); (try clear hb2); (try clear hk); (try clear hi)) | ((with_reducible refine gate_callee (f := 13) rfl ?_); refine goesL_ (some 28) rfl rfl Tryd.func13 (by kernel_rfl) rfl #[.string a1] rfl (by (try simp only [List.map_toArray, List.map_cons, List.map_nil]); first | done | rfl | (simp only [List.length_drop, List.length_take]; rfl)) ?_; (with_reducible refine (parts_Rels.calls kj2 a1 t190 _ A13.out).mono ?_); rintro e w36 ⟨rfl, hb⟩; refine ⟨_, rfl, ?_⟩; have n0_ := Aside0.mk (below_step (by repeat (first | (with_reducible first | exact HB.out | apply below_alloc | apply pw_below_drewN | apply below_drew1) | exact HB.out)) hb); clear HB; have HB := n0_; clear n0_; (try clear hb); (try clear hb2); (try clear hk); (try clear hi)) | ((with_reducible refine gate_callee (f := 14) rfl ?_); refine goesL_ (some 32) rfl rfl Tryd.func14 (by kernel_rfl) rfl #[.string a0] rfl (by (try simp only [List.map_toArray, List.map_cons, List.map_nil]); first | done | rfl | (simp only [List.length_drop, List.length_take]; rfl)) ?_; (with_reducible refine (rubricatorlaw12_rest.calls kj2 a0 t191 _ A14.out).mono ?_); rintro e w' ⟨rfl, ⟨nd, rfl⟩⟩; refine ⟨_, rfl, ?_⟩) | ((with_reducible refine gate_callee (f := 8) rfl ?_); refine goesL_ (some 35) rfl rfl Tryd.func8 (by kernel_rfl) rfl #[.string a0, .string (((⟨#[95, 114, 101, 108, 115, 47]⟩ : ByteArray) ++ t191) ++ (⟨#[46, 114, 101, 108, 115]⟩ : ByteArray))] rfl (by (try simp only [List.map_toArray, List.map_cons, List.map_nil]); first | done | rfl | (simp only [List.length_drop, List.length_take]; rfl)) ?_; (with_reducible refine (parts_Resolve.calls kj2 a0 (((⟨#[95, 114, 101, 108, 115, 47]⟩ : ByteArray) ++ t191) ++ (⟨#[46, 114, 101, 108, 115]⟩ : ByteArray)) t192 false _ A17.out).mono ?_); rintro e w37 ⟨rfl, hb⟩; refine ⟨_, rfl, ?_⟩; have n0_ := Aside0.mk (below_step (by repeat (first | (with_reducible first | exact HB.out | apply below_alloc | apply pw_below_drewN | apply below_drew1) | exact HB.out)) hb); clear HB; have HB := n0_; clear n0_; (try clear hb); (try clear hb2); (try clear hk); (try clear hi)) | ((first | ((with_reducible refine gate_callee (f := 11) rfl ?_); (with_reducible refine gate_dst (N := 63) rfl ?_); refine gate_guard (by rfl) ?_; dsimp only; refine goesL_ (some 63) rfl rfl Tryd.func11 (by kernel_rfl) rfl #[] rfl (by (try simp only [List.map_toArray, List.map_cons, List.map_nil]); first | done | rfl | (simp only [List.length_drop, List.length_take]; rfl)) ?_; (with_reducible refine (rubricatorlaw12_known.calls kj2  t195 _ A34.out).mono ?_); rintro e w38 ⟨rfl, hb⟩; refine ⟨_, rfl, ?_⟩) | (go_at_call 11; (with_reducible refine (rubricatorlaw12_known.calls kj2  t195 _ A34.out).mono ?_); rintro e w38 ⟨rfl, hb⟩)); have n0_ := Aside0.mk (below_step (by repeat (first | (with_reducible first | exact HB.out | apply below_alloc | apply pw_below_drewN | apply below_drew1) | exact HB.out)) hb); clear HB; have HB := n0_; clear n0_; (try clear hb); (try clear hb2); (try clear hk); (try clear hi)))
                  go_ret
                  exact ⟨by first | rfl | (simp [errW_none, errW_some] <;> rfl) | (simp [*, errW_none, errW_some] <;> rfl), by repeat (first | (with_reducible first | exact HB.out | apply below_alloc | apply pw_below_drewN | apply below_drew1) | exact HB.out)⟩
                · rw [if_neg c33] at H
                  have c33b0 : ((t189.size : Int) == (wrap64 ((a0.size : Int) + 11))) = false := beq_eq_false_iff_ne.mpr c33
                  have c33b1 : ((t189.size : Int) != (wrap64 ((a0.size : Int) + 11))) = true := bne_iff_ne.mpr c33
                  obtain rfl := Option.some.inj H
                  go_wp2_with (first | ((with_reducible refine gate_callee (f := 13) rfl ?_); refine goesL_ (some 26) rfl rfl Tryd.func13 (by kernel_rfl) rfl #[.string a0] rfl (by (try simp only [List.map_toArray, List.map_cons, List.map_nil]); first | done | rfl | (simp only [List.length_drop, List.length_take]; rfl)) ?_; (with_reducible refine (parts_Rels.calls kj2 a0 t189 _ A12.out).mono ?_); rintro e w39 ⟨rfl, hb⟩; refine ⟨_, rfl, ?_⟩; have n0_ := Aside0.mk (below_step (by repeat (first | (with_reducible first | exact HB.out | apply below_alloc | apply pw_below_drewN | apply below_drew1) | exact HB.out)) hb); clear HB; have HB := n0_; clear n0_; (try clear hb); (try clear hb2); (try clear hk); (try clear hi)) | ((with_reducible refine gate_callee (f := 13) rfl ?_); refine goesL_ (some 28) rfl rfl Tryd.func13 (by kernel_rfl) rfl #[.string a1] rfl (by (try simp only [List.map_toArray, List.map_cons, List.map_nil]); first | done | rfl | (simp only [List.length_drop, List.length_take]; rfl)) ?_; (with_reducible refine (parts_Rels.calls kj2 a1 t190 _ A13.out).mono ?_); rintro e w40 ⟨rfl, hb⟩; refine ⟨_, rfl, ?_⟩; have n0_ := Aside0.mk (below_step (by repeat (first | (with_reducible first | exact HB.out | apply below_alloc | apply pw_below_drewN | apply below_drew1) | exact HB.out)) hb); clear HB; have HB := n0_; clear n0_; (try clear hb); (try clear hb2); (try clear hk); (try clear hi)) | ((with_reducible refine gate_callee (f := 14) rfl ?_); refine goesL_ (some 32) rfl rfl Tryd.func14 (by kernel_rfl) rfl #[.string a0] rfl (by (try simp only [List.map_toArray, List.map_cons, List.map_nil]); first | done | rfl | (simp only [List.length_drop, List.length_take]; rfl)) ?_; (with_reducible refine (rubricatorlaw12_rest.calls kj2 a0 t191 _ A14.out).mono ?_); rintro e w' ⟨rfl, ⟨nd, rfl⟩⟩; refine ⟨_, rfl, ?_⟩) | ((with_reducible refine gate_callee (f := 8) rfl ?_); refine goesL_ (some 35) rfl rfl Tryd.func8 (by kernel_rfl) rfl #[.string a0, .string (((⟨#[95, 114, 101, 108, 115, 47]⟩ : ByteArray) ++ t191) ++ (⟨#[46, 114, 101, 108, 115]⟩ : ByteArray))] rfl (by (try simp only [List.map_toArray, List.map_cons, List.map_nil]); first | done | rfl | (simp only [List.length_drop, List.length_take]; rfl)) ?_; (with_reducible refine (parts_Resolve.calls kj2 a0 (((⟨#[95, 114, 101, 108, 115, 47]⟩ : ByteArray) ++ t191) ++ (⟨#[46, 114, 101, 108, 115]⟩ : ByteArray)) t192 false _ A17.out).mono ?_); rintro e w41 ⟨rfl, hb⟩; refine ⟨_, rfl, ?_⟩; have n0_ := Aside0.mk (below_step (by repeat (first | (with_reducible first | exact HB.out | apply below_alloc | apply pw_below_drewN | apply below_drew1) | exact HB.out)) hb); clear HB; have HB := n0_; clear n0_; (try clear hb); (try clear hb2); (try clear hk); (try clear hi)))
                  go_ret
                  exact ⟨by first | rfl | (simp [errW_none, errW_some] <;> rfl) | (simp [*, errW_none, errW_some] <;> rfl), by repeat (first | (with_reducible first | exact HB.out | apply below_alloc | apply pw_below_drewN | apply below_drew1) | exact HB.out)⟩
            · rw [if_neg c18] at H
              have c18b0 : ((t189.toList == t190.toList) == (a0.toList == a1.toList)) = false := by simpa using c18
              (try (have c18b1 : decide ((t189.toList == t190.toList) = (a0.toList == a1.toList)) = false := by simpa using c18))
              (try (have c18b2 : ((t189.toList == t190.toList) == (a0.toList == a1.toList)) = false := by simpa using c18))
              (try (have c18b3 : ¬ ((t189.toList == t190.toList) = (a0.toList == a1.toList)) := by simpa using c18))
              clear c18
              obtain rfl := Option.some.inj H
              go_wp2_with (first | ((with_reducible refine gate_callee (f := 13) rfl ?_); refine goesL_ (some 26) rfl rfl Tryd.func13 (by kernel_rfl) rfl #[.string a0] rfl (by (try simp only [List.map_toArray, List.map_cons, List.map_nil]); first | done | rfl | (simp only [List.length_drop, List.length_take]; rfl)) ?_; (with_reducible refine (parts_Rels.calls kj2 a0 t189 _ A12.out).mono ?_); rintro e w42 ⟨rfl, hb⟩; refine ⟨_, rfl, ?_⟩; have n0_ := Aside0.mk (below_step (by repeat (first | (with_reducible first | exact HB.out | apply below_alloc | apply pw_below_drewN | apply below_drew1) | exact HB.out)) hb); clear HB; have HB := n0_; clear n0_; (try clear hb); (try clear hb2); (try clear hk); (try clear hi)) | ((with_reducible refine gate_callee (f := 13) rfl ?_); refine goesL_ (some 28) rfl rfl Tryd.func13 (by kernel_rfl) rfl #[.string a1] rfl (by (try simp only [List.map_toArray, List.map_cons, List.map_nil]); first | done | rfl | (simp only [List.length_drop, List.length_take]; rfl)) ?_; (with_reducible refine (parts_Rels.calls kj2 a1 t190 _ A13.out).mono ?_); rintro e w43 ⟨rfl, hb⟩; refine ⟨_, rfl, ?_⟩; have n0_ := Aside0.mk (below_step (by repeat (first | (with_reducible first | exact HB.out | apply below_alloc | apply pw_below_drewN | apply below_drew1) | exact HB.out)) hb); clear HB; have HB := n0_; clear n0_; (try clear hb); (try clear hb2); (try clear hk); (try clear hi)) | ((with_reducible refine gate_callee (f := 14) rfl ?_); refine goesL_ (some 32) rfl rfl Tryd.func14 (by kernel_rfl) rfl #[.string a0] rfl (by (try simp only [List.map_toArray, List.map_cons, List.map_nil]); first | done | rfl | (simp only [List.length_drop, List.length_take]; rfl)) ?_; (with_reducible refine (rubricatorlaw12_rest.calls kj2 a0 t191 _ A14.out).mono ?_); rintro e w' ⟨rfl, ⟨nd, rfl⟩⟩; refine ⟨_, rfl, ?_⟩) | ((with_reducible refine gate_callee (f := 8) rfl ?_); refine goesL_ (some 35) rfl rfl Tryd.func8 (by kernel_rfl) rfl #[.string a0, .string (((⟨#[95, 114, 101, 108, 115, 47]⟩ : ByteArray) ++ t191) ++ (⟨#[46, 114, 101, 108, 115]⟩ : ByteArray))] rfl (by (try simp only [List.map_toArray, List.map_cons, List.map_nil]); first | done | rfl | (simp only [List.length_drop, List.length_take]; rfl)) ?_; (with_reducible refine (parts_Resolve.calls kj2 a0 (((⟨#[95, 114, 101, 108, 115, 47]⟩ : ByteArray) ++ t191) ++ (⟨#[46, 114, 101, 108, 115]⟩ : ByteArray)) t192 t193 _ A17.out).mono ?_); rintro e w44 ⟨rfl, hb⟩; refine ⟨_, rfl, ?_⟩; have n0_ := Aside0.mk (below_step (by repeat (first | (with_reducible first | exact HB.out | apply below_alloc | apply pw_below_drewN | apply below_drew1) | exact HB.out)) hb); clear HB; have HB := n0_; clear n0_; (try clear hb); (try clear hb2); (try clear hk); (try clear hi)))
              go_ret
              exact ⟨by first | rfl | (simp [errW_none, errW_some] <;> rfl) | (simp [*, errW_none, errW_some] <;> rfl), by repeat (first | (with_reducible first | exact HB.out | apply below_alloc | apply pw_below_drewN | apply below_drew1) | exact HB.out)⟩
          · rw [if_neg c16] at H
            exact absurd H (by simp)
        · rw [if_neg c15] at H
          exact absurd H (by simp)

/-- THE ONE PURE STATEMENT of rubricatorlaw12_PartsRelated: yours. -/
def rubricatorlaw12_PartsRelated.Pure : Prop := ∀ (a0 : ByteArray) (a1 : ByteArray), a0.size ≤ 140737488351232 → a1.size ≤ 140737488351232 → ∃ k, rubricatorlaw12_PartsRelated.f k a0 a1 = some true
theorem rubricatorlaw12_PartsRelated.walk (P : rubricatorlaw12_PartsRelated.Pure) (a0 : ByteArray) (a1 : ByteArray) (w : World) (w0 : a0.size ≤ 140737488351232) (w1 : a1.size ≤ 140737488351232) :
    Calls Tryd.prog 6 #[.string a0, .string a1] w fun e w' => e = .returned (.bool true) ∧ Below w.heap.size w w' := by
  obtain ⟨k, h⟩ := P a0 a1 w0 w1
  refine (rubricatorlaw12_PartsRelated.calls k a0 a1 true w h).mono ?_
  rintro e w' ⟨rfl, hd⟩
  exact ⟨rfl, hd⟩

/-! ### rubricatorref12_Rels: function 15 -/
def rubricatorref12_Rels.f (k : Nat) (a0 : ByteArray) : Option ByteArray := (rubricatorref12_stroke.f k a0).bind fun t => if a0.size ≤ 1000000 ∧ -1 ≤ t ∧ t < (a0.size : Int) then some (((a0.extract 0 t.toNat ++ (⟨#[47, 95, 114, 101, 108, 115, 47]⟩ : ByteArray)) ++ a0.extract (t + 1).toNat a0.size) ++ (⟨#[46, 114, 101, 108, 115]⟩ : ByteArray)) else none
theorem rubricatorref12_Rels.mono : ∀ a0 k, LeO (rubricatorref12_Rels.f k a0) (rubricatorref12_Rels.f (k + 1) a0) := by
  intro a0 k
  unfold rubricatorref12_Rels.f
  exact LeO.bind (rubricatorref12_stroke.mono _ _) (fun _ => LeO.refl _)
set_option maxHeartbeats 4000000 in
set_option maxRecDepth 100000 in
theorem rubricatorref12_Rels.calls (k : Nat) (a0 : ByteArray) (r : ByteArray) (w : World) (h : rubricatorref12_Rels.f k a0 = some r) :
    Calls Tryd.prog 15 #[.string a0] w fun e w' => e = .returned (.string r) ∧ Below w.heap.size w w' := by
  unfold rubricatorref12_Rels.f at h
  obtain ⟨t, ht, h⟩ := Option.bind_eq_some_iff.mp h
  by_cases hh : a0.size ≤ 1000000 ∧ -1 ≤ t ∧ t < (a0.size : Int)
  · rw [if_pos hh] at h
    obtain ⟨h1, h2, h3⟩ := hh
    obtain ⟨m, hm⟩ : ∃ m : Int, (if 0 < t then t else 0) = m := ⟨_, rfl⟩
    have em : m = (t.toNat : Int) := by rw [← hm]; split <;> omega
    have hmx : max 0 t = m := by omega
    obtain ⟨t1, ht1⟩ : ∃ t1 : Int, wrap64 (t + 1) = t1 := ⟨_, rfl⟩
    have et : t1 = t + 1 := by rw [← ht1]; unfold wrap64; omega
    obtain ⟨X, hX⟩ : ∃ X, a0.extract 0 t.toNat = X := ⟨_, rfl⟩
    obtain ⟨Y, hY⟩ : ∃ Y, a0.extract (t + 1).toNat a0.size = Y := ⟨_, rfl⟩
    have hs1 : ∀ W : World, (Instr.slice 9 (.string a0) none (some (.int .i64 m)) none).run Tryd.prog W = .ok (.string X) W := by
      intro W
      rw [run_slice_string_to_if W 9 a0 .i64 m Tryd.underlying9, if_pos (by omega), em, Int.toNat_natCast, hX]
    have hs2 : ∀ W : World, (Instr.slice 9 (.string a0) (some (.int .i64 t1)) none none).run Tryd.prog W = .ok (.string Y) W := by
      intro W
      rw [run_slice_string_from_if W 9 a0 .i64 t1 Tryd.underlying9, if_pos (by omega), et, hY]
    have zX : X.size ≤ 1000000 := by rw [← hX, ByteArray.size_extract]; omega
    have zY : Y.size ≤ 1000000 := by rw [← hY, ByteArray.size_extract]; omega
    have n1 : (9223372036854775807 < X.size + 7) = False := eq_false (by omega)
    have n2 : (9223372036854775807 < X.size + 7 + Y.size) = False := eq_false (by omega)
    have n3 : (9223372036854775807 < X.size + 7 + Y.size + 5) = False := eq_false (by omega)
    have l1 : (X.size + 7 ≤ 9223372036854775807) = True := eq_true (by omega)
    have l2 : (X.size + 7 + Y.size ≤ 9223372036854775807) = True := eq_true (by omega)
    have l3 : (X.size + 7 + Y.size + 5 ≤ 9223372036854775807) = True := eq_true (by omega)
    rw [hX, hY] at h
    have HR := Aside0.mk (Option.some.inj h)
    have HT := Aside0.mk ht
    clear h ht h1 h2 h3 em et hX hY zX zY
    go_enter Tryd.func15, Tryd.ntmps15
    go_wp2_with ((with_reducible refine gate_callee (f := 21) rfl ?_); refine goesL_ (some 5) rfl rfl Tryd.func21 (by kernel_rfl) rfl #[.string a0] rfl (by (try simp only [List.map_toArray, List.map_cons, List.map_nil]); first | done | rfl) ?_; refine (rubricatorref12_stroke.calls k a0 t w HT.out).mono ?_; rintro e w1 ⟨rfl, hd⟩; refine ⟨_, rfl, ?_⟩; have HD := Aside0.mk hd; clear hd)
    go_region
    go_wp2
    go_ret
    exact ⟨by rw [← HR.out]; rfl, by first | exact HD.out.below | exact pw_below_drewN HD.out.below _⟩
  · rw [if_neg hh] at h
    exact absurd h (by simp)

/-! ### parts_lower: function 26 -/
def parts_lower.lowB (z : Int) : Int := if 65 ≤ z ∧ z ≤ 90 then z + 32 else z
def parts_lower.lowL (s : ByteArray) : List Int := (bytesOf s).map parts_lower.lowB
/-- The bytes at block o: the first i made small. -/
structure parts_lower.St (w0 w : World) (o n : Nat) (l : List Int) : Prop where
  len : l.length = n
  cell : ∀ i : Nat, i < n → w.cell? ⟨o, i, none⟩ = some (.int .u8 (rd l (i : Int)))
  froz : ∀ i : Nat, i < n → w.frozen? ⟨o, i, none⟩ = false
  base : w0.heap.size ≤ o
theorem parts_lower.St.put {w0 w : World} {o n : Nat} {l : List Int} (h : parts_lower.St w0 w o n l) (i : Nat) (hi : i < n) (z : Int) : parts_lower.St w0 (w.setCell ⟨o, i, none⟩ (.int .u8 z)) o n (l.set i z) := by
  refine ⟨by rw [List.length_set]; exact h.len, fun j hj => ?_, fun j hj => by rw [World.frozen?_setCell]; exact h.froz j hj, h.base⟩
  by_cases e : i = j
  · subst e
    rw [World.cell?_setCell_same w ⟨o, i, none⟩ (.int .u8 z) (h.cell i hi)]
    unfold rd
    rw [Int.toNat_natCast, List.getD_eq_getElem?_getD, List.getElem?_set_self (by rw [h.len]; exact hi)]
    rfl
  · rw [World.cell?_setCell_other w ⟨o, i, none⟩ ⟨o, j, none⟩ (.int .u8 z) (by intro hh; injection hh with _ h2; exact e h2), h.cell j hj]
    unfold rd
    rw [Int.toNat_natCast, List.getD_eq_getElem?_getD, List.getD_eq_getElem?_getD, List.getElem?_set_ne e]
def parts_lower.mix (l : List Int) (i : Nat) : List Int := (l.take i).map parts_lower.lowB ++ l.drop i
theorem parts_lower.mix_rd (l : List Int) (i : Nat) (h : i < l.length) : rd (parts_lower.mix l i) (i : Int) = rd l (i : Int) := by
  unfold rd parts_lower.mix
  rw [Int.toNat_natCast, List.getD_eq_getElem?_getD, List.getD_eq_getElem?_getD, List.getElem?_append_right (by simp; omega), List.getElem?_drop]
  simp
  rw [Nat.min_eq_left (by omega), show i + (i - i) = i by omega]
theorem parts_lower.mix_set (l : List Int) (i : Nat) (h : i < l.length) : (parts_lower.mix l i).set i (parts_lower.lowB (rd l (i : Int))) = parts_lower.mix l (i + 1) := by
  have hd : l.drop i = rd l (i : Int) :: l.drop (i + 1) := by
    rw [List.drop_eq_getElem_cons h]
    unfold rd
    rw [Int.toNat_natCast, List.getD_eq_getElem?_getD, List.getElem?_eq_getElem h]
    rfl
  have ht : l.take (i + 1) = l.take i ++ [rd l (i : Int)] := by
    rw [List.take_succ_eq_append_getElem h]
    unfold rd
    rw [Int.toNat_natCast, List.getD_eq_getElem?_getD, List.getElem?_eq_getElem h]
    rfl
  unfold parts_lower.mix
  rw [hd, ht, List.set_append_right _ _ (by simp; omega)]
  simp
  rw [Nat.min_eq_left (by omega), Nat.sub_self, List.set_cons_zero]
theorem parts_lower.mix_same (l : List Int) (i : Nat) (h : i < l.length) (he : parts_lower.lowB (rd l (i : Int)) = rd l (i : Int)) : parts_lower.mix l i = parts_lower.mix l (i + 1) := by
  rw [← parts_lower.mix_set l i h, he, ← parts_lower.mix_rd l i h]
  have hl : i < (parts_lower.mix l i).length := by unfold parts_lower.mix; simp; omega
  unfold rd
  rw [Int.toNat_natCast, List.getD_eq_getElem?_getD, List.getElem?_eq_getElem hl]
  exact (List.set_getElem_self hl).symm
def parts_lower.f (a0 : ByteArray) : Option ByteArray := if a0.size ≤ 1000000000 then some (strOfNums (parts_lower.lowL a0)) else none
set_option maxHeartbeats 4000000 in
set_option maxRecDepth 100000 in
theorem parts_lower.calls (a0 : ByteArray) (r : ByteArray) (w : World) (h : parts_lower.f a0 = some r) :
    Calls Tryd.prog 26 #[.string a0] w fun e w' => e = .returned (.string r) ∧ Below w.heap.size w w' := by
  unfold parts_lower.f at h
  by_cases hz : a0.size ≤ 1000000000
  case neg =>
    rw [if_neg hz] at h
    exact absurd h (by simp)
  rw [if_pos hz] at h
  have H := Aside0.mk (Option.some.inj h)
  clear h
  have kb := print_bytes (P := Tryd.prog) 9 40 5 Tryd.underlying9 Tryd.underlying40 Tryd.underlying5 a0 w
  obtain ⟨l, hl⟩ : ∃ l, bytesOf a0 = l := ⟨_, rfl⟩
  obtain ⟨n, hn⟩ : ∃ n, a0.size = n := ⟨_, rfl⟩
  have hln : l.length = n := by rw [← hl, bytesOf_length, hn]
  have HN := Aside0.mk (show l.length = n ∧ n ≤ 1000000000 ∧ (∀ i : Nat, i < n → 0 ≤ rd l (i : Int) ∧ rd l (i : Int) ≤ 255) ∧ n ≤ grownCap w a0.size 0 5 from ⟨hln, by omega, fun i hi => by rw [← hl, rd_bytesOf]; exact bt_range a0 _, hn ▸ grownCap_ge _ _ _ _⟩)
  obtain ⟨o, ho⟩ : ∃ o, o = w.heap.size := ⟨_, rfl⟩
  have H0 := Aside0.mk (show parts_lower.St w (Lib.bytesWorld w 5 a0) o n (parts_lower.mix l 0) ∧ Below w.heap.size w (Lib.bytesWorld w 5 a0) from by
    refine ⟨⟨by unfold parts_lower.mix; simp [hln], fun i hi => ?_, fun i hi => ?_, by omega⟩, bytes_below (Below.refl _ _) (Nat.le_refl _) 5 a0⟩
    · have h1 := (bytes_reads w 5 a0 (by omega)).2.2 (by omega)
      obtain ⟨ad, e, hc⟩ := h1
      obtain rfl := Option.some.inj e
      have h2 := hc i (by omega)
      rw [add_plain, hl] at h2
      rw [ho, h2]
      unfold parts_lower.mix rd
      simp
    · have h3 := Lib.bytesWorld_at_new w 5 a0
      unfold World.frozen?
      rw [ho, h3]
      have hsz : i < (Lib.bytesCells w 5 a0).size := by
        rcases Nat.lt_or_ge i (Lib.bytesCells w 5 a0).size with h | h
        · exact h
        · have h1 := (bytes_reads w 5 a0 (by omega)).2.2 (by omega)
          obtain ⟨ad, e, hc⟩ := h1
          obtain rfl := Option.some.inj e
          have h2 := hc i (by omega)
          rw [add_plain] at h2
          unfold World.cell? at h2
          rw [h3] at h2
          simp only at h2
          rw [if_neg (by simp), Array.getElem?_eq_none h] at h2
          cases h2
      simp
      omega)
  have HL := Aside0.mk hl
  have HO := Aside0.mk ho
  rw [hn, ← ho] at kb
  obtain ⟨cp, hcp⟩ : ∃ cp, grownCap w n 0 5 = cp := ⟨_, rfl⟩
  rw [hcp] at kb
  clear hz hl hn hln ho hcp
  go_enter Tryd.func26, Tryd.ntmps26
  go_wp2
  generalize Lib.bytesWorld w 5 a0 = w1 at H0 ⊢
  go_loopw [10] (fun v10 wr => ∃ (i : Nat) (ii : Int), v10 = .int .i64 ii ∧ ii = (i : Int) ∧ i ≤ n ∧ Aside0 (parts_lower.St w wr o n (parts_lower.mix l i)) ∧ Aside0 (Below w.heap.size w wr)) (fun v10 _ => n - (intOf v10).toNat)
  case atStart => exact ⟨0, 0, rfl, rfl, Nat.zero_le _, ⟨H0.out.1⟩, ⟨H0.out.2⟩⟩
  case round =>
    clear H0
    obtain ⟨i, ii, rfl, hii, hir, HS, HB⟩ := hrel
    by_cases hlt : ii < (n : Int)
    · have dlt : decide (ii < (n : Int)) = true := decide_eq_true hlt
      have dltn : (ii < (n : Int)) = True := eq_true hlt
      have p0 : (0 ≤ ii) = True := eq_true (by omega)
      have d0 : decide (0 ≤ ii) = true := decide_eq_true (by omega)
      have hin : i < n := by omega
      have hrg := HN.out.2.2.1 i hin
      obtain ⟨z, hz⟩ : ∃ z, rd l (i : Int) = z := ⟨_, rfl⟩
      have hc := HS.out.cell i hin
      rw [parts_lower.mix_rd l i (by rw [HN.out.1]; exact hin), hz] at hc
      rw [hz] at hrg
      have cz : wr.cell? ⟨o, ii.toNat, none⟩ = some (.int .u8 z) := by rw [show ii.toNat = i by omega]; exact hc
      have fz : wr.frozen? ⟨o, ii.toNat, none⟩ = false := by rw [show ii.toNat = i by omega]; exact HS.out.froz i hin
      have qo : o < wr.heap.size := World.block_lt_of_cell? wr _ hc
      have t5 : wrap64 (ii + 1) = ii + 1 := by unfold wrap64; have := HN.out.2.1; omega
      have HI := Aside0.mk (show ii = (i : Int) ∧ i < n ∧ rd l (i : Int) = z from ⟨hii, hin, hz⟩)
      by_cases hb : 65 ≤ z ∧ z ≤ 90
      · have d1 : decide (65 ≤ z) = true := decide_eq_true hb.1
        have d2 : decide (z ≤ 90) = true := decide_eq_true hb.2
        obtain ⟨y, hy⟩ : ∃ y, z + 32 = y := ⟨_, rfl⟩
        have e1 : (z + 97) % 256 = z + 97 := by omega
        have e2 : (z + 97 - 65) % 256 = y := by omega
        have e3 : IntKind.u8.wrap (z + 97) = z + 97 := e1
        have e4 : IntKind.u8.wrap (z + 97 - 65) = y := e2
        have HY := Aside0.mk (show parts_lower.lowB (rd l (i : Int)) = y by rw [hz]; unfold parts_lower.lowB; rw [if_pos hb]; exact hy)
        clear hlt hii hir hin hrg hz hc hb hy
        go_wp2
        go_roundw
        case rel =>
          obtain ⟨z1, z2, z3⟩ := HI.out
          refine ⟨i + 1, _, rfl, by rw [t5]; omega, by omega, ⟨?_⟩, ⟨HB.out.setCell (p := ⟨o, ii.toNat, none⟩) HS.out.base _⟩⟩
          rw [← parts_lower.mix_set l i (by rw [HN.out.1]; exact z2), HY.out, show ii.toNat = i by omega]
          exact HS.out.put i z2 y
        case measure =>
          have := HI.out
          simp only [intOf, t5]
          omega
      · have HY := Aside0.mk (show parts_lower.lowB (rd l (i : Int)) = rd l (i : Int) by rw [hz]; unfold parts_lower.lowB; rw [if_neg hb])
        have hd : decide (65 ≤ z) = false ∨ (decide (65 ≤ z) = true ∧ decide (z ≤ 90) = false) := by
          by_cases h1 : 65 ≤ z
          · exact .inr ⟨decide_eq_true h1, decide_eq_false (fun h2 => hb ⟨h1, h2⟩)⟩
          · exact .inl (decide_eq_false h1)
        clear hlt hii hir hin hrg hz hc hb
        rcases hd with d1 | ⟨d1, d2⟩
        all_goals
          go_wp2
          go_roundw
          case rel =>
            obtain ⟨z1, z2, z3⟩ := HI.out
            refine ⟨i + 1, _, rfl, by rw [t5]; omega, by omega, ⟨?_⟩, HB⟩
            rw [← parts_lower.mix_same l i (by rw [HN.out.1]; exact z2) HY.out]
            exact HS.out
          case measure =>
            have := HI.out
            simp only [intOf, t5]
            omega
    · have dlt : decide (ii < (n : Int)) = false := decide_eq_false hlt
      have dltn : (ii < (n : Int)) = False := eq_false hlt
      obtain rfl : i = n := by omega
      have hall : parts_lower.mix l i = parts_lower.lowL a0 := by
        unfold parts_lower.mix parts_lower.lowL
        rw [HL.out, ← HN.out.1, List.take_length, List.drop_length, List.append_nil]
      rw [hall] at HS
      have hcv : (convert 40 9 (.slice (some ⟨o, 0, none⟩) i cp)).run Tryd.prog wr = .ok (.string r) wr := by
        rw [← H.out]
        refine string_of_reads (P := Tryd.prog) Tryd.underlying40 Tryd.underlying5 Tryd.underlying9 ⟨HS.out.len, by have := HN.out; omega, fun _ => ⟨_, rfl, fun j hj => ?_⟩⟩
        rw [add_plain, HS.out.cell j hj]
        unfold rd
        rw [Int.toNat_natCast]
      clear hlt hii hir hall
      go_wp2
      go_ret
      exact ⟨rfl, HB.out⟩

/-! ### parts_Ext: function 16 -/
def parts_Ext.f (k : Nat) (a0 : ByteArray) : Option (ByteArray) := (parts_split.f k a0).bind fun bt196 => ((strings_LastIndexByte.f k bt196.2 46).bind fun t198 => (if t198 < 0 then (some (⟨#[]⟩ : ByteArray)) else (if 0 ≤ (wrap64 (t198 + 1)) then (if (wrap64 (t198 + 1)) ≤ (bt196.2.size : Int) then ((parts_lower.f (bt196.2.extract ((wrap64 (t198 + 1)) : Int).toNat bt196.2.size)).bind fun t199 => (some t199)) else (none)) else (none))))
theorem parts_Ext.mono : ∀ a0 k, LeO (parts_Ext.f k a0) (parts_Ext.f (k + 1) a0) := by
  intro a0 k
  unfold parts_Ext.f
  repeat' first
      | (with_reducible exact parts_split.mono _ _)
      | (with_reducible exact strings_LastIndexByte.mono _ _ _)
      | (with_reducible exact LeO.refl _)
      | (with_reducible exact LeO.none _)
      | (with_reducible refine LeO.ite ?_ ?_)
      | (with_reducible refine LeO.bind ?_ (fun _ => ?_))
      | exact parts_split.mono _ _
      | exact strings_LastIndexByte.mono _ _ _
      | exact LeO.none _
      | refine LeO.ite ?_ ?_
      | refine LeO.bind ?_ (fun _ => ?_)
set_option maxHeartbeats 8000000 in
set_option maxRecDepth 100000 in
theorem parts_Ext.calls (k : Nat) (a0 : ByteArray) (r : ByteArray) (w : World) (h : parts_Ext.f k a0 = some r) :
    Calls Tryd.prog 16 #[.string a0] w fun e w' => e = .returned (.string r) ∧ Below w.heap.size w w' := by
  have HB := Aside0.mk (Below.refl w.heap.size w)
  have H : ((parts_split.f k a0).bind fun bt196 => ((strings_LastIndexByte.f k bt196.2 46).bind fun t198 => (if t198 < 0 then (some (⟨#[]⟩ : ByteArray)) else (if 0 ≤ (wrap64 (t198 + 1)) then (if (wrap64 (t198 + 1)) ≤ (bt196.2.size : Int) then ((parts_lower.f (bt196.2.extract ((wrap64 (t198 + 1)) : Int).toNat bt196.2.size)).bind fun t199 => (some t199)) else (none)) else (none))))) = some r := h
  clear h
  replace H := Option.bind_eq_some_iff.mp H
  obtain ⟨⟨t196, t197⟩, A20, H⟩ := H
  replace H : ((strings_LastIndexByte.f k t197 46).bind fun t198 => (if t198 < 0 then (some (⟨#[]⟩ : ByteArray)) else (if 0 ≤ (wrap64 (t198 + 1)) then (if (wrap64 (t198 + 1)) ≤ (t197.size : Int) then ((parts_lower.f (t197.extract ((wrap64 (t198 + 1)) : Int).toNat t197.size)).bind fun t199 => (some t199)) else (none)) else (none)))) = some r := H
  have A2 := Aside0.mk A20
  clear A20
  replace H := Option.bind_eq_some_iff.mp H
  obtain ⟨t198, A30, H⟩ := H
  replace H : (if t198 < 0 then (some (⟨#[]⟩ : ByteArray)) else (if 0 ≤ (wrap64 (t198 + 1)) then (if (wrap64 (t198 + 1)) ≤ (t197.size : Int) then ((parts_lower.f (t197.extract ((wrap64 (t198 + 1)) : Int).toNat t197.size)).bind fun t199 => (some t199)) else (none)) else (none))) = some r := H
  have A3 := Aside0.mk A30
  clear A30
  by_cases c4 : t198 < 0
  · rw [if_pos c4] at H
    have c4b0 : decide (t198 < 0) = true := decide_eq_true c4
    clear c4
    obtain rfl := Option.some.inj H
    go_enter Tryd.func16, Tryd.ntmps16
    go_wp2_with (first | ((with_reducible refine gate_callee (f := 18) rfl ?_); refine goesL_ (some 8) rfl rfl Tryd.func18 (by kernel_rfl) rfl #[.string a0] rfl (by (try simp only [List.map_toArray, List.map_cons, List.map_nil]); first | done | rfl | (simp only [List.length_drop, List.length_take]; rfl)) ?_; (with_reducible refine (parts_split.calls k a0 t196 t197 _ A2.out).mono ?_); rintro e w5 ⟨rfl, hb⟩; refine ⟨_, rfl, ?_⟩; have n0_ := Aside0.mk (below_step (by repeat (first | (with_reducible first | exact HB.out | apply below_alloc | apply pw_below_drewN | apply below_drew1) | exact HB.out)) hb); clear HB; have HB := n0_; clear n0_; (try clear hb); (try clear hb2); (try clear hk); (try clear hi)) | ((with_reducible refine gate_callee (f := 25) rfl ?_); refine goesL_ (some 12) rfl rfl Tryd.func25 (by kernel_rfl) rfl #[.string t197, .int .u8 46] rfl (by (try simp only [List.map_toArray, List.map_cons, List.map_nil]); first | done | rfl | (simp only [List.length_drop, List.length_take]; rfl)) ?_; (with_reducible refine (strings_LastIndexByte.calls k t197 46 t198 _ A3.out).mono ?_); rintro e w' ⟨rfl, ⟨nd, rfl⟩⟩; refine ⟨_, rfl, ?_⟩))
    go_ret
    exact ⟨by first | rfl | (simp [errW_none, errW_some] <;> rfl) | (simp [*, errW_none, errW_some] <;> rfl), by repeat (first | (with_reducible first | exact HB.out | apply below_alloc | apply pw_below_drewN | apply below_drew1) | exact HB.out)⟩
  · rw [if_neg c4] at H
    have c4b0 : decide (t198 < 0) = false := decide_eq_false c4
    clear c4
    obtain ⟨ji6, hji6⟩ : ∃ j_ : Int, (wrap64 (t198 + 1)) = j_ := ⟨_, rfl⟩
    replace H : (if 0 ≤ (ji6) then (if (ji6) ≤ (t197.size : Int) then ((parts_lower.f (t197.extract ((ji6) : Int).toNat t197.size)).bind fun t199 => (some t199)) else (none)) else (none)) = some r := by first | (rw [hji6] at H; exact H) | (simp only [hji6] at H ⊢; exact H)
    (try rw [hji6] at A2)
    (try rw [hji6] at A3)
    have hji6w : (IntKind.i64.wrap (t198 + 1)) = ji6 := (i64_w _).trans hji6
    by_cases c7 : 0 ≤ (ji6)
    · rw [if_pos c7] at H
      have c7b0 := eq_true c7
      have c7b1 : decide (0 ≤ (ji6)) = true := decide_eq_true c7
      clear c7
      by_cases c8 : (ji6) ≤ (t197.size : Int)
      · rw [if_pos c8] at H
        have c8b0 := eq_true c8
        have c8b1 : decide ((ji6) ≤ (t197.size : Int)) = true := decide_eq_true c8
        clear c8
        replace H := Option.bind_eq_some_iff.mp H
        obtain ⟨t199, A90, H⟩ := H
        replace H : (some t199) = some r := H
        have A9 := Aside0.mk A90
        clear A90
        obtain rfl := Option.some.inj H
        go_enter Tryd.func16, Tryd.ntmps16
        go_wp2_with (first | ((with_reducible refine gate_callee (f := 18) rfl ?_); refine goesL_ (some 8) rfl rfl Tryd.func18 (by kernel_rfl) rfl #[.string a0] rfl (by (try simp only [List.map_toArray, List.map_cons, List.map_nil]); first | done | rfl | (simp only [List.length_drop, List.length_take]; rfl)) ?_; (with_reducible refine (parts_split.calls k a0 t196 t197 _ A2.out).mono ?_); rintro e w10 ⟨rfl, hb⟩; refine ⟨_, rfl, ?_⟩; have n0_ := Aside0.mk (below_step (by repeat (first | (with_reducible first | exact HB.out | apply below_alloc | apply pw_below_drewN | apply below_drew1) | exact HB.out)) hb); clear HB; have HB := n0_; clear n0_; (try clear hb); (try clear hb2); (try clear hk); (try clear hi)) | ((with_reducible refine gate_callee (f := 25) rfl ?_); refine goesL_ (some 12) rfl rfl Tryd.func25 (by kernel_rfl) rfl #[.string t197, .int .u8 46] rfl (by (try simp only [List.map_toArray, List.map_cons, List.map_nil]); first | done | rfl | (simp only [List.length_drop, List.length_take]; rfl)) ?_; (with_reducible refine (strings_LastIndexByte.calls k t197 46 t198 _ A3.out).mono ?_); rintro e w' ⟨rfl, ⟨nd, rfl⟩⟩; refine ⟨_, rfl, ?_⟩) | ((with_reducible refine gate_callee (f := 26) rfl ?_); refine goesL_ (some 19) rfl rfl Tryd.func26 (by kernel_rfl) rfl #[.string (t197.extract ((ji6) : Int).toNat t197.size)] rfl (by (try simp only [List.map_toArray, List.map_cons, List.map_nil]); first | done | (simp only [hji6]; rfl) | rfl | (simp only [List.length_drop, List.length_take]; rfl)) ?_; (with_reducible refine (parts_lower.calls (t197.extract ((ji6) : Int).toNat t197.size) t199 _ A9.out).mono ?_); rintro e w11 ⟨rfl, hb⟩; refine ⟨_, rfl, ?_⟩; have n0_ := Aside0.mk (below_step (by repeat (first | (with_reducible first | exact HB.out | apply below_alloc | apply pw_below_drewN | apply below_drew1) | exact HB.out)) hb); clear HB; have HB := n0_; clear n0_; (try clear hb); (try clear hb2); (try clear hk); (try clear hi)))
        go_ret
        exact ⟨by first | rfl | (simp [errW_none, errW_some] <;> rfl) | (simp only [← hji6]; first | rfl | (simp [errW_none, errW_some] <;> rfl)) | (simp [*, errW_none, errW_some] <;> rfl), by repeat (first | (with_reducible first | exact HB.out | apply below_alloc | apply pw_below_drewN | apply below_drew1) | exact HB.out)⟩
      · rw [if_neg c8] at H
        exact absurd H (by simp)
    · rw [if_neg c7] at H
      exact absurd H (by simp)

/-! ### rubricatorref12_Lower: function 27 -/
def rubricatorref12_Lower.lowB (z : Int) : Int := if 65 ≤ z ∧ z ≤ 90 then z + 32 else z
def rubricatorref12_Lower.lowL (s : ByteArray) : List Int := (bytesOf s).map rubricatorref12_Lower.lowB
/-- The bytes at block o: the first i made small. -/
structure rubricatorref12_Lower.St (w0 w : World) (o n : Nat) (l : List Int) : Prop where
  len : l.length = n
  cell : ∀ i : Nat, i < n → w.cell? ⟨o, i, none⟩ = some (.int .u8 (rd l (i : Int)))
  froz : ∀ i : Nat, i < n → w.frozen? ⟨o, i, none⟩ = false
  base : w0.heap.size ≤ o
theorem rubricatorref12_Lower.St.put {w0 w : World} {o n : Nat} {l : List Int} (h : rubricatorref12_Lower.St w0 w o n l) (i : Nat) (hi : i < n) (z : Int) : rubricatorref12_Lower.St w0 (w.setCell ⟨o, i, none⟩ (.int .u8 z)) o n (l.set i z) := by
  refine ⟨by rw [List.length_set]; exact h.len, fun j hj => ?_, fun j hj => by rw [World.frozen?_setCell]; exact h.froz j hj, h.base⟩
  by_cases e : i = j
  · subst e
    rw [World.cell?_setCell_same w ⟨o, i, none⟩ (.int .u8 z) (h.cell i hi)]
    unfold rd
    rw [Int.toNat_natCast, List.getD_eq_getElem?_getD, List.getElem?_set_self (by rw [h.len]; exact hi)]
    rfl
  · rw [World.cell?_setCell_other w ⟨o, i, none⟩ ⟨o, j, none⟩ (.int .u8 z) (by intro hh; injection hh with _ h2; exact e h2), h.cell j hj]
    unfold rd
    rw [Int.toNat_natCast, List.getD_eq_getElem?_getD, List.getD_eq_getElem?_getD, List.getElem?_set_ne e]
def rubricatorref12_Lower.mix (l : List Int) (i : Nat) : List Int := (l.take i).map rubricatorref12_Lower.lowB ++ l.drop i
theorem rubricatorref12_Lower.mix_rd (l : List Int) (i : Nat) (h : i < l.length) : rd (rubricatorref12_Lower.mix l i) (i : Int) = rd l (i : Int) := by
  unfold rd rubricatorref12_Lower.mix
  rw [Int.toNat_natCast, List.getD_eq_getElem?_getD, List.getD_eq_getElem?_getD, List.getElem?_append_right (by simp; omega), List.getElem?_drop]
  simp
  rw [Nat.min_eq_left (by omega), show i + (i - i) = i by omega]
theorem rubricatorref12_Lower.mix_set (l : List Int) (i : Nat) (h : i < l.length) : (rubricatorref12_Lower.mix l i).set i (rubricatorref12_Lower.lowB (rd l (i : Int))) = rubricatorref12_Lower.mix l (i + 1) := by
  have hd : l.drop i = rd l (i : Int) :: l.drop (i + 1) := by
    rw [List.drop_eq_getElem_cons h]
    unfold rd
    rw [Int.toNat_natCast, List.getD_eq_getElem?_getD, List.getElem?_eq_getElem h]
    rfl
  have ht : l.take (i + 1) = l.take i ++ [rd l (i : Int)] := by
    rw [List.take_succ_eq_append_getElem h]
    unfold rd
    rw [Int.toNat_natCast, List.getD_eq_getElem?_getD, List.getElem?_eq_getElem h]
    rfl
  unfold rubricatorref12_Lower.mix
  rw [hd, ht, List.set_append_right _ _ (by simp; omega)]
  simp
  rw [Nat.min_eq_left (by omega), Nat.sub_self, List.set_cons_zero]
theorem rubricatorref12_Lower.mix_same (l : List Int) (i : Nat) (h : i < l.length) (he : rubricatorref12_Lower.lowB (rd l (i : Int)) = rd l (i : Int)) : rubricatorref12_Lower.mix l i = rubricatorref12_Lower.mix l (i + 1) := by
  rw [← rubricatorref12_Lower.mix_set l i h, he, ← rubricatorref12_Lower.mix_rd l i h]
  have hl : i < (rubricatorref12_Lower.mix l i).length := by unfold rubricatorref12_Lower.mix; simp; omega
  unfold rd
  rw [Int.toNat_natCast, List.getD_eq_getElem?_getD, List.getElem?_eq_getElem hl]
  exact (List.set_getElem_self hl).symm
def rubricatorref12_Lower.f (a0 : ByteArray) : Option ByteArray := if a0.size ≤ 1000000000 then some (strOfNums (rubricatorref12_Lower.lowL a0)) else none
set_option maxHeartbeats 4000000 in
set_option maxRecDepth 100000 in
theorem rubricatorref12_Lower.calls (a0 : ByteArray) (r : ByteArray) (w : World) (h : rubricatorref12_Lower.f a0 = some r) :
    Calls Tryd.prog 27 #[.string a0] w fun e w' => e = .returned (.string r) ∧ Below w.heap.size w w' := by
  unfold rubricatorref12_Lower.f at h
  by_cases hz : a0.size ≤ 1000000000
  case neg =>
    rw [if_neg hz] at h
    exact absurd h (by simp)
  rw [if_pos hz] at h
  have H := Aside0.mk (Option.some.inj h)
  clear h
  have kb := print_bytes (P := Tryd.prog) 9 40 5 Tryd.underlying9 Tryd.underlying40 Tryd.underlying5 a0 w
  obtain ⟨l, hl⟩ : ∃ l, bytesOf a0 = l := ⟨_, rfl⟩
  obtain ⟨n, hn⟩ : ∃ n, a0.size = n := ⟨_, rfl⟩
  have hln : l.length = n := by rw [← hl, bytesOf_length, hn]
  have HN := Aside0.mk (show l.length = n ∧ n ≤ 1000000000 ∧ (∀ i : Nat, i < n → 0 ≤ rd l (i : Int) ∧ rd l (i : Int) ≤ 255) ∧ n ≤ grownCap w a0.size 0 5 from ⟨hln, by omega, fun i hi => by rw [← hl, rd_bytesOf]; exact bt_range a0 _, hn ▸ grownCap_ge _ _ _ _⟩)
  obtain ⟨o, ho⟩ : ∃ o, o = w.heap.size := ⟨_, rfl⟩
  have H0 := Aside0.mk (show rubricatorref12_Lower.St w (Lib.bytesWorld w 5 a0) o n (rubricatorref12_Lower.mix l 0) ∧ Below w.heap.size w (Lib.bytesWorld w 5 a0) from by
    refine ⟨⟨by unfold rubricatorref12_Lower.mix; simp [hln], fun i hi => ?_, fun i hi => ?_, by omega⟩, bytes_below (Below.refl _ _) (Nat.le_refl _) 5 a0⟩
    · have h1 := (bytes_reads w 5 a0 (by omega)).2.2 (by omega)
      obtain ⟨ad, e, hc⟩ := h1
      obtain rfl := Option.some.inj e
      have h2 := hc i (by omega)
      rw [add_plain, hl] at h2
      rw [ho, h2]
      unfold rubricatorref12_Lower.mix rd
      simp
    · have h3 := Lib.bytesWorld_at_new w 5 a0
      unfold World.frozen?
      rw [ho, h3]
      have hsz : i < (Lib.bytesCells w 5 a0).size := by
        rcases Nat.lt_or_ge i (Lib.bytesCells w 5 a0).size with h | h
        · exact h
        · have h1 := (bytes_reads w 5 a0 (by omega)).2.2 (by omega)
          obtain ⟨ad, e, hc⟩ := h1
          obtain rfl := Option.some.inj e
          have h2 := hc i (by omega)
          rw [add_plain] at h2
          unfold World.cell? at h2
          rw [h3] at h2
          simp only at h2
          rw [if_neg (by simp), Array.getElem?_eq_none h] at h2
          cases h2
      simp
      omega)
  have HL := Aside0.mk hl
  have HO := Aside0.mk ho
  rw [hn, ← ho] at kb
  obtain ⟨cp, hcp⟩ : ∃ cp, grownCap w n 0 5 = cp := ⟨_, rfl⟩
  rw [hcp] at kb
  clear hz hl hn hln ho hcp
  go_enter Tryd.func27, Tryd.ntmps27
  go_wp2
  generalize Lib.bytesWorld w 5 a0 = w1 at H0 ⊢
  go_loopw [4] (fun v4 wr => ∃ (i : Nat) (ii : Int), v4 = .int .i64 ii ∧ ii = (i : Int) ∧ i ≤ n ∧ Aside0 (rubricatorref12_Lower.St w wr o n (rubricatorref12_Lower.mix l i)) ∧ Aside0 (Below w.heap.size w wr)) (fun v4 _ => n - (intOf v4).toNat)
  case atStart => exact ⟨0, 0, rfl, rfl, Nat.zero_le _, ⟨H0.out.1⟩, ⟨H0.out.2⟩⟩
  case round =>
    clear H0
    obtain ⟨i, ii, rfl, hii, hir, HS, HB⟩ := hrel
    by_cases hlt : ii < (n : Int)
    · have dlt : decide (ii < (n : Int)) = true := decide_eq_true hlt
      have dltn : (ii < (n : Int)) = True := eq_true hlt
      have p0 : (0 ≤ ii) = True := eq_true (by omega)
      have d0 : decide (0 ≤ ii) = true := decide_eq_true (by omega)
      have hin : i < n := by omega
      have hrg := HN.out.2.2.1 i hin
      obtain ⟨z, hz⟩ : ∃ z, rd l (i : Int) = z := ⟨_, rfl⟩
      have hc := HS.out.cell i hin
      rw [rubricatorref12_Lower.mix_rd l i (by rw [HN.out.1]; exact hin), hz] at hc
      rw [hz] at hrg
      have cz : wr.cell? ⟨o, ii.toNat, none⟩ = some (.int .u8 z) := by rw [show ii.toNat = i by omega]; exact hc
      have fz : wr.frozen? ⟨o, ii.toNat, none⟩ = false := by rw [show ii.toNat = i by omega]; exact HS.out.froz i hin
      have qo : o < wr.heap.size := World.block_lt_of_cell? wr _ hc
      have t5 : wrap64 (ii + 1) = ii + 1 := by unfold wrap64; have := HN.out.2.1; omega
      have HI := Aside0.mk (show ii = (i : Int) ∧ i < n ∧ rd l (i : Int) = z from ⟨hii, hin, hz⟩)
      by_cases hb : 65 ≤ z ∧ z ≤ 90
      · have d1 : decide (65 ≤ z) = true := decide_eq_true hb.1
        have d2 : decide (z ≤ 90) = true := decide_eq_true hb.2
        obtain ⟨y, hy⟩ : ∃ y, z + 32 = y := ⟨_, rfl⟩
        have e1 : (z + 32) % 256 = y := by omega
        have e3 : IntKind.u8.wrap (z + 32) = y := e1
        have HY := Aside0.mk (show rubricatorref12_Lower.lowB (rd l (i : Int)) = y by rw [hz]; unfold rubricatorref12_Lower.lowB; rw [if_pos hb]; exact hy)
        clear hlt hii hir hin hrg hz hc hb hy
        go_wp2
        go_roundw
        case rel =>
          obtain ⟨z1, z2, z3⟩ := HI.out
          refine ⟨i + 1, _, rfl, by rw [t5]; omega, by omega, ⟨?_⟩, ⟨HB.out.setCell (p := ⟨o, ii.toNat, none⟩) HS.out.base _⟩⟩
          rw [← rubricatorref12_Lower.mix_set l i (by rw [HN.out.1]; exact z2), HY.out, show ii.toNat = i by omega]
          exact HS.out.put i z2 y
        case measure =>
          have := HI.out
          simp only [intOf, t5]
          omega
      · have HY := Aside0.mk (show rubricatorref12_Lower.lowB (rd l (i : Int)) = rd l (i : Int) by rw [hz]; unfold rubricatorref12_Lower.lowB; rw [if_neg hb])
        have hd : decide (65 ≤ z) = false ∨ (decide (65 ≤ z) = true ∧ decide (z ≤ 90) = false) := by
          by_cases h1 : 65 ≤ z
          · exact .inr ⟨decide_eq_true h1, decide_eq_false (fun h2 => hb ⟨h1, h2⟩)⟩
          · exact .inl (decide_eq_false h1)
        clear hlt hii hir hin hrg hz hc hb
        rcases hd with d1 | ⟨d1, d2⟩
        all_goals
          go_wp2
          go_roundw
          case rel =>
            obtain ⟨z1, z2, z3⟩ := HI.out
            refine ⟨i + 1, _, rfl, by rw [t5]; omega, by omega, ⟨?_⟩, HB⟩
            rw [← rubricatorref12_Lower.mix_same l i (by rw [HN.out.1]; exact z2) HY.out]
            exact HS.out
          case measure =>
            have := HI.out
            simp only [intOf, t5]
            omega
    · have dlt : decide (ii < (n : Int)) = false := decide_eq_false hlt
      have dltn : (ii < (n : Int)) = False := eq_false hlt
      obtain rfl : i = n := by omega
      have hall : rubricatorref12_Lower.mix l i = rubricatorref12_Lower.lowL a0 := by
        unfold rubricatorref12_Lower.mix rubricatorref12_Lower.lowL
        rw [HL.out, ← HN.out.1, List.take_length, List.drop_length, List.append_nil]
      rw [hall] at HS
      have hcv : (convert 40 9 (.slice (some ⟨o, 0, none⟩) i cp)).run Tryd.prog wr = .ok (.string r) wr := by
        rw [← H.out]
        refine string_of_reads (P := Tryd.prog) Tryd.underlying40 Tryd.underlying5 Tryd.underlying9 ⟨HS.out.len, by have := HN.out; omega, fun _ => ⟨_, rfl, fun j hj => ?_⟩⟩
        rw [add_plain, HS.out.cell j hj]
        unfold rd
        rw [Int.toNat_natCast]
      clear hlt hii hir hall
      go_wp2
      go_ret
      exact ⟨rfl, HB.out⟩

/-! ### rubricatorref12_Ext: function 17 -/
def rubricatorref12_Ext.last (l : List UInt8) : Nat → Int
  | 0 => -1
  | n + 1 => if l[n]? = some 46 then (n : Int) else rubricatorref12_Ext.last l n
def rubricatorref12_Ext.val (q : ByteArray) (t : Int) : ByteArray := if t < 0 then ⟨#[]⟩ else strOfNums (rubricatorref12_Lower.lowL (q.extract (t + 1).toNat q.size))
def rubricatorref12_Ext.of_ (q : ByteArray) : ByteArray := rubricatorref12_Ext.val q (rubricatorref12_Ext.last q.data.toList q.size)
def rubricatorref12_Ext.f (k : Nat) (a0 : ByteArray) : Option ByteArray := (rubricatorref12_stroke.f k a0).bind fun t => if a0.size ≤ 1000000 ∧ -1 ≤ t ∧ t < (a0.size : Int) then some (rubricatorref12_Ext.of_ (a0.extract (t + 1).toNat a0.size)) else none
theorem rubricatorref12_Ext.mono : ∀ a0 k, LeO (rubricatorref12_Ext.f k a0) (rubricatorref12_Ext.f (k + 1) a0) := by
  intro a0 k
  unfold rubricatorref12_Ext.f
  exact LeO.bind (rubricatorref12_stroke.mono _ _) (fun _ => LeO.refl _)
theorem rubricatorref12_Ext.at_ (q : ByteArray) (i : Nat) (h : i < q.size) : q.data.toList[i]? = some (q[i]'h) ∧ bt q (i : Int) = ((q[i]'h).toNat : Int) := by
  have hi : i < q.data.toList.length := by rw [data_length]; exact h
  refine ⟨?_, ?_⟩
  · rw [List.getElem?_eq_getElem hi]
    rfl
  · unfold bt
    rw [dif_pos (by simpa using h)]
    rfl
set_option maxHeartbeats 4000000 in
set_option maxRecDepth 100000 in
theorem rubricatorref12_Ext.calls (k : Nat) (a0 : ByteArray) (r : ByteArray) (w : World) (h : rubricatorref12_Ext.f k a0 = some r) :
    Calls Tryd.prog 17 #[.string a0] w fun e w' => e = .returned (.string r) ∧ Below w.heap.size w w' := by
  unfold rubricatorref12_Ext.f at h
  obtain ⟨t, ht, h⟩ := Option.bind_eq_some_iff.mp h
  by_cases hh : a0.size ≤ 1000000 ∧ -1 ≤ t ∧ t < (a0.size : Int)
  · rw [if_pos hh] at h
    obtain ⟨h1, h2, h3⟩ := hh
    obtain ⟨t1, ht1⟩ : ∃ t1 : Int, wrap64 (t + 1) = t1 := ⟨_, rfl⟩
    have et : t1 = t + 1 := by rw [← ht1]; unfold wrap64; omega
    obtain ⟨q, hq⟩ : ∃ q, a0.extract (t + 1).toNat a0.size = q := ⟨_, rfl⟩
    have hs2 : ∀ W : World, (Instr.slice 9 (.string a0) (some (.int .i64 t1)) none none).run Tryd.prog W = .ok (.string q) W := by
      intro W
      rw [run_slice_string_from_if W 9 a0 .i64 t1 Tryd.underlying9, if_pos (by omega), et, hq]
    have zq : q.size ≤ 1000000 := by rw [← hq, ByteArray.size_extract]; omega
    rw [hq] at h
    have HR := Aside0.mk (Option.some.inj h)
    have HT := Aside0.mk ht
    have HZ := Aside0.mk zq
    clear h ht h1 h2 h3 et hq zq
    go_enter Tryd.func17, Tryd.ntmps17
    go_wp2_with ((with_reducible refine gate_callee (f := 21) rfl ?_); refine goesL_ (some 7) rfl rfl Tryd.func21 (by kernel_rfl) rfl #[.string a0] rfl (by (try simp only [List.map_toArray, List.map_cons, List.map_nil]); first | done | rfl) ?_; refine (rubricatorref12_stroke.calls k a0 t w HT.out).mono ?_; rintro e w1 ⟨rfl, hd⟩; refine ⟨_, rfl, ?_⟩; have HD := Aside0.mk hd.below; clear hd)
    clear ht1 hs2
    go_loopw [4] (fun v4 wr => ∃ (n : Nat) (ii : Int), v4 = .int .i64 ii ∧ ii = (n : Int) - 1 ∧ n ≤ q.size ∧ Aside0 (rubricatorref12_Ext.last q.data.toList n = rubricatorref12_Ext.last q.data.toList q.size) ∧ Aside0 (Below w.heap.size w wr)) (fun v4 _ => (intOf v4 + 1).toNat)
    case atStart => exact ⟨q.size, _, rfl, by have := HZ.out; unfold wrap64; omega, Nat.le_refl _, ⟨rfl⟩, HD⟩
    case round =>
      clear HD
      obtain ⟨n, ii, rfl, hii, hn, HL, HB⟩ := hrel
      have hz := HZ.out
      by_cases hlt : 0 ≤ ii
      · obtain ⟨n, rfl⟩ : ∃ n', n = n' + 1 := ⟨n - 1, by omega⟩
        have hii2 : ii = (n : Int) := by omega
        have dlt : decide (0 ≤ ii) = true := decide_eq_true hlt
        have p0 : (0 ≤ ii) = True := eq_true hlt
        have q0 : (ii < (q.size : Int)) = True := eq_true (by omega)
        have hx := bt_at q ii
        obtain ⟨ha1, ha2⟩ := rubricatorref12_Ext.at_ q n (by omega)
        obtain ⟨c, hc⟩ : ∃ c, q[n]'(by omega) = c := ⟨_, rfl⟩
        rw [hc] at ha1 ha2
        rw [← hii2] at ha2
        have HI := Aside0.mk (show ii = (n : Int) ∧ n < q.size from ⟨hii2, by omega⟩)
        have HA := Aside0.mk ha1
        by_cases h46 : c = 46
        · have hb : (bt q ii == 46) = true := by rw [ha2, h46]; rfl
          obtain ⟨t2, ht2⟩ : ∃ t2 : Int, wrap64 (ii + 1) = t2 := ⟨_, rfl⟩
          have et2 : t2 = (n : Int) + 1 := by rw [← ht2]; unfold wrap64; omega
          obtain ⟨y, hy⟩ : ∃ y, q.extract (n + 1) q.size = y := ⟨_, rfl⟩
          have hs3 : ∀ W : World, (Instr.slice 9 (.string q) (some (.int .i64 t2)) none none).run Tryd.prog W = .ok (.string y) W := by
            intro W
            rw [run_slice_string_from_if W 9 q .i64 t2 Tryd.underlying9, if_pos (by omega), et2, show ((n : Int) + 1).toNat = n + 1 by omega, hy]
          have zy : y.size ≤ 1000000 := by rw [← hy, ByteArray.size_extract]; omega
          have hlo : rubricatorref12_Lower.f y = some r := by
            unfold rubricatorref12_Lower.f
            rw [if_pos (by omega), ← HR.out]
            unfold rubricatorref12_Ext.of_ rubricatorref12_Ext.val
            rw [← HL.out, rubricatorref12_Ext.last, ha1, h46, if_pos rfl, if_neg (by omega), show ((n : Int) + 1).toNat = n + 1 by omega, hy]
          have HLO := Aside0.mk hlo
          clear hlo zy hy et2 ha1 hc h46 hii hii2 hn hz hlt
          go_wp2_with ((with_reducible refine gate_callee (f := 27) rfl ?_); refine goesL_ (some 25) rfl rfl Tryd.func27 (by kernel_rfl) rfl #[.string y] rfl (by (try simp only [List.map_toArray, List.map_cons, List.map_nil]); first | done | rfl) ?_; refine (rubricatorref12_Lower.calls y r wr HLO.out).mono ?_; rintro e w3 ⟨rfl, hd⟩; refine ⟨_, rfl, ?_⟩; have HB3 := Aside0.mk (HB.out.trans (hd.mono HB.out.size)); clear hd)
          go_ret
          exact ⟨rfl, HB3.out⟩
        · have hb : (bt q ii == 46) = false := by
            rw [ha2]
            exact beq_eq_false_iff_ne.mpr (fun e => h46 (UInt8.toNat_inj.1 (by show c.toNat = 46; omega)))
          have t5 : wrap64 (ii - 1) = ii - 1 := by unfold wrap64; omega
          have HNX := Aside0.mk (show rubricatorref12_Ext.last q.data.toList n = rubricatorref12_Ext.last q.data.toList q.size by
            rw [← HL.out, rubricatorref12_Ext.last, ha1, if_neg (fun e => h46 (Option.some.inj e))])
          clear ha1 hc h46 hii hii2 hn hz hlt
          go_wp2
          go_roundw
          case rel =>
            obtain ⟨z1, z2⟩ := HI.out
            exact ⟨n, _, rfl, by rw [t5]; omega, by omega, HNX, HB⟩
          case measure =>
            have := HI.out
            simp only [intOf, t5]
            omega
      · have dlt : decide (0 ≤ ii) = false := decide_eq_false hlt
        obtain rfl : n = 0 := by omega
        have e : (⟨#[]⟩ : ByteArray) = r := by
          rw [← HR.out]
          unfold rubricatorref12_Ext.of_ rubricatorref12_Ext.val
          rw [← HL.out, rubricatorref12_Ext.last, if_pos (by decide)]
        clear hii hn hz hlt
        go_wp2
        go_ret
        exact ⟨by rw [← e]; rfl, HB.out⟩
  · rw [if_neg hh] at h
    exact absurd h (by simp)

end Go.Proofs.YtdooaaefldjinaaDoor.PA
