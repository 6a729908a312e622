/- Which kind a rune or byte is: blank, sign, punctuation, as sets of ranges. No conditions. -/
import Derived.Test.YtojmhdooglihaaaPAx9
import Derived.Test.YtojmhdooglihaaaPAx10
import Derived.Test.YtojmhdooglihaaaAid
namespace Go.Proofs.Ytojmhdooglihaaa.Mat
open Go.RowKit Go.Proofs.Ytojmhdooglihaaa.PA Go.Proofs.YtojmhdooglihaaaW.PrintWords Go.Proofs.YtojmhdooglihaaaW.PrintLast Go.Proofs.YtojmhdooglihaaaAid
set_option linter.unusedVariables false
set_option linter.unusedSimpArgs false

def withinB (r : Int) : List Int → Bool
  | a :: b :: l => (decide (a ≤ r) && decide (r ≤ b)) || withinB r l
  | _ => false
theorem rd_get (a : List Int) (i : Nat) (h : i < a.length) : rd a (i : Int) = a[i] := by
  simp [rd, List.getD_eq_getElem?_getD, List.getElem?_eq_getElem h]
theorem within_l0 (r : Int) (l : List Int) (hl : l.length ≤ 1000) : ∀ (d i : Nat), l.length ≤ i + d → i ≤ l.length + 1 → Ev (fun k => class_within.l0 k r l (i : Int)) (withinB r (l.drop i)) := by
  intro d
  induction d using Nat.strongRecOn with
  | ind d ih =>
    intro i hi hi2
    have ew : wrap64 ((i : Int) + 1) = ((i + 1 : Nat) : Int) := by unfold wrap64; omega
    have ew2 : wrap64 ((i : Int) + 2) = ((i + 2 : Nat) : Int) := by unfold wrap64; omega
    refine ev_succ ?_
    simp only [class_within.l0, ew, ew2]
    by_cases h : i + 1 < l.length
    · have hd : l.drop i = l[i] :: l[i + 1] :: l.drop (i + 2) := by
        rw [List.drop_eq_getElem_cons (by omega), List.drop_eq_getElem_cons h]
      have h2 := ih (d - 2) (by omega) (i + 2) (by omega) (by omega)
      rw [hd, withinB]
      refine ev_if (by omega) (ev_if (by omega) (ev_if (by omega) ?_))
      rw [rd_get l i (by omega), rd_get l (i + 1) h]
      by_cases c1 : r ≥ l[i]
      · refine ev_if c1 (ev_if (by omega) ?_)
        by_cases c2 : r ≤ l[i + 1]
        · refine ev_if c2 (ev_val ?_)
          rw [decide_eq_true (by omega), decide_eq_true c2]
          rfl
        · refine ev_else c2 ?_
          rw [decide_eq_false c2, Bool.and_false, Bool.false_or]
          exact h2
      · refine ev_else c1 ?_
        rw [decide_eq_false (by omega : ¬ l[i] ≤ r), Bool.false_and, Bool.false_or]
        exact h2
    · refine ev_else (by omega) (ev_val ?_)
      have hlen : (l.drop i).length ≤ 1 := by rw [List.length_drop]; omega
      match l.drop i, hlen with
      | [], _ => rfl
      | [_], _ => rfl
theorem within_ev (r : Int) (l : List Int) (hl : l.length ≤ 1000) : Ev (fun k => class_within.f k r l) (withinB r l) := by
  have := within_l0 r l hl l.length 0 (by omega) (by omega)
  exact this

def blankP (r : Int) : Prop := r = 9 ∨ r = 10 ∨ r = 12 ∨ r = 13 ∨ r = 32 ∨ r = 160 ∨ r = 5760 ∨ (8192 ≤ r ∧ r ≤ 8202) ∨ r = 8239 ∨ r = 8287 ∨ r = 12288
def signP (r : Int) : Prop := (33 ≤ r ∧ r ≤ 47) ∨ (58 ≤ r ∧ r ≤ 64) ∨ (91 ≤ r ∧ r ≤ 96) ∨ (123 ≤ r ∧ r ≤ 126)
def punctP (r : Int) : Prop := signP r ∨ (161 ≤ r ∧ r ≤ 169) ∨ r = 171 ∨ r = 172 ∨ (174 ≤ r ∧ r ≤ 177) ∨ r = 180 ∨ (182 ≤ r ∧ r ≤ 184) ∨ r = 187 ∨ r = 191 ∨ r = 215 ∨ r = 247 ∨ (8208 ≤ r ∧ r ≤ 8231) ∨ (8240 ≤ r ∧ r ≤ 8286) ∨
  (8352 ≤ r ∧ r ≤ 8384) ∨ (8592 ≤ r ∧ r ≤ 11263) ∨ (12289 ≤ r ∧ r ≤ 12291) ∨ (12296 ≤ r ∧ r ≤ 12320)
instance (r : Int) : Decidable (blankP r) := by unfold blankP; infer_instance
instance (r : Int) : Decidable (signP r) := by unfold signP; infer_instance
instance (r : Int) : Decidable (punctP r) := by unfold punctP; infer_instance

theorem Blank_ev (r : Int) : Ev (fun k => class_Blank.f k r) (decide (blankP r)) := by
  refine Ev.bind (within_ev r _ (by decide)) (ev_val ?_)
  have e : withinB r [9, 10, 12, 13, 32, 32, 160, 160, 5760, 5760, 8192, 8202, 8239, 8239, 8287, 8287, 12288, 12288] = true ↔ blankP r := by
    simp only [withinB, Bool.or_eq_true, Bool.and_eq_true, decide_eq_true_eq, Bool.false_eq_true, or_false]
    unfold blankP
    omega
  rw [Bool.eq_iff_iff, e, decide_eq_true_eq]
theorem refBlank_eq (r : Int) : rubricatorref8_Blank.f r = some (decide (blankP r)) := by
  unfold rubricatorref8_Blank.f rubricatorref8_in.f
  (repeat' split)
  all_goals (simp only [Option.bind_some, Option.some.injEq])
  all_goals first
    | (symm; rw [decide_eq_true_eq]; unfold blankP; omega)
    | (symm; rw [decide_eq_false_iff_not]; unfold blankP; omega)
    | (rw [decide_eq_decide]; unfold blankP; omega)
theorem Sign_ev (c : Int) (h : 0 ≤ c ∧ c ≤ 255) : Ev (fun k => class_Sign.f k c) (decide (signP c)) := by
  have ew : wrap32 c = c := by unfold wrap32; omega
  unfold class_Sign.f
  rw [ew]
  refine Ev.bind (within_ev c _ (by decide)) (ev_val ?_)
  have e : withinB c [33, 47, 58, 64, 91, 96, 123, 126] = true ↔ signP c := by
    simp only [withinB, Bool.or_eq_true, Bool.and_eq_true, decide_eq_true_eq, Bool.false_eq_true, or_false]
    unfold signP
    omega
  rw [Bool.eq_iff_iff, e, decide_eq_true_eq]
theorem refSign_eq (c : Int) : rubricatorref8_Sign.f c = some (decide (signP c)) := by
  unfold rubricatorref8_Sign.f
  (repeat' split)
  all_goals (simp only [Option.some.injEq])
  all_goals first
    | (symm; rw [decide_eq_true_eq]; unfold signP; omega)
    | (symm; rw [decide_eq_false_iff_not]; unfold signP; omega)
    | (rw [decide_eq_decide]; unfold signP; omega)
theorem Punct_ev (r : Int) (hr : r ≤ 2147483647) : Ev (fun k => class_Punct.f k r) (decide (punctP r)) := by
  have j : ∀ v : Bool, v = decide (0 ≤ r ∧ r < 128) → Ev (fun k => class_Punct.j0 k r v) (decide (punctP r)) := by
    intro v hv
    refine ev_succ ?_
    simp only [class_Punct.j0]
    by_cases h : 0 ≤ r ∧ r < 128
    · refine ev_if (by rw [hv]; exact decide_eq_true h) ?_
      have e : r % 256 = r := by omega
      rw [e]
      refine Ev.bind (Sign_ev r (by omega)) (ev_val ?_)
      rw [decide_eq_decide]
      unfold punctP signP
      omega
    · refine ev_else (by rw [hv, decide_eq_true_eq]; exact h) ?_
      refine Ev.bind (within_ev r _ (by decide)) (ev_val ?_)
      have e : withinB r [161, 169, 171, 172, 174, 177, 180, 180, 182, 184, 187, 187, 191, 191, 215, 215, 247, 247, 8208, 8231, 8240, 8286, 8352, 8384, 8592, 11263, 12289, 12291, 12296, 12320] = true ↔ punctP r := by
        simp only [withinB, Bool.or_eq_true, Bool.and_eq_true, decide_eq_true_eq, Bool.false_eq_true, or_false]
        unfold punctP signP
        omega
      rw [Bool.eq_iff_iff, e, decide_eq_true_eq]
  unfold class_Punct.f
  by_cases h : r ≥ 0
  · exact ev_if h (j _ (by rw [decide_eq_decide]; omega))
  · exact ev_else h (j _ (by symm; rw [decide_eq_false_iff_not]; omega))
theorem in_eq (r a b : Int) : rubricatorref8_in.f r a b = some (decide (a ≤ r ∧ r ≤ b)) := by
  unfold rubricatorref8_in.f
  split
  · simp only [Option.some.injEq]
    rw [decide_eq_decide]
    omega
  · simp only [Option.some.injEq]
    symm
    rw [decide_eq_false_iff_not]
    omega
theorem refPunct_ev (r : Int) : Ev (fun k => rubricatorref8_Punct.f k r) (decide (punctP r)) := by
  have j1 : ∀ v : Bool, (v = true → punctP r) → (v = false → (punctP r ↔ (8208 ≤ r ∧ r ≤ 8231) ∨ (8240 ≤ r ∧ r ≤ 8286) ∨ (8352 ≤ r ∧ r ≤ 8384) ∨ (8592 ≤ r ∧ r ≤ 11263) ∨ (12289 ≤ r ∧ r ≤ 12291) ∨ (12296 ≤ r ∧ r ≤ 12320))) →
      Ev (fun k => rubricatorref8_Punct.j1 k r v) (decide (punctP r)) := by
    intro v h1 h2
    refine ev_succ ?_
    simp only [rubricatorref8_Punct.j1, in_eq, Option.bind_some]
    cases v with
    | true => exact ev_if rfl (ev_val (decide_eq_true (h1 rfl)).symm)
    | false =>
      have h3 := h2 rfl
      refine ev_else (by decide) ?_
      have hp : punctP r ↔ (8208 ≤ r ∧ r ≤ 8231) ∨ (8240 ≤ r ∧ r ≤ 8286) ∨ (8352 ≤ r ∧ r ≤ 8384) ∨ (8592 ≤ r ∧ r ≤ 11263) ∨ (12289 ≤ r ∧ r ≤ 12291) ∨ (12296 ≤ r ∧ r ≤ 12320) := h3
      by_cases c1 : 8208 ≤ r ∧ r ≤ 8231
      · exact ev_if (decide_eq_true c1) (ev_val (by symm; rw [decide_eq_true_eq, hp]; omega))
      refine ev_else (by rw [decide_eq_true_eq]; exact c1) ?_
      by_cases c2 : 8240 ≤ r ∧ r ≤ 8286
      · exact ev_if (decide_eq_true c2) (ev_val (by symm; rw [decide_eq_true_eq, hp]; omega))
      refine ev_else (by rw [decide_eq_true_eq]; exact c2) ?_
      by_cases c3 : 8352 ≤ r ∧ r ≤ 8384
      · exact ev_if (decide_eq_true c3) (ev_val (by symm; rw [decide_eq_true_eq, hp]; omega))
      refine ev_else (by rw [decide_eq_true_eq]; exact c3) ?_
      by_cases c4 : 8592 ≤ r ∧ r ≤ 11263
      · exact ev_if (decide_eq_true c4) (ev_val (by symm; rw [decide_eq_true_eq, hp]; omega))
      refine ev_else (by rw [decide_eq_true_eq]; exact c4) ?_
      by_cases c5 : 12289 ≤ r ∧ r ≤ 12291
      · exact ev_if (decide_eq_true c5) (ev_val (by symm; rw [decide_eq_true_eq, hp]; omega))
      refine ev_else (by rw [decide_eq_true_eq]; exact c5) (ev_val ?_)
      rw [decide_eq_decide, hp]
      omega
  have j0 : ∀ v : Bool, v = decide (0 ≤ r ∧ r < 128) → Ev (fun k => rubricatorref8_Punct.j0 k r v) (decide (punctP r)) := by
    intro v hv
    refine ev_succ ?_
    simp only [rubricatorref8_Punct.j0, in_eq, Option.bind_some, refSign_eq]
    by_cases h : 0 ≤ r ∧ r < 128
    · refine ev_if (by rw [hv]; exact decide_eq_true h) (ev_val ?_)
      have e : r % 256 = r := by omega
      rw [e, decide_eq_decide]
      unfold punctP signP
      omega
    · refine ev_else (by rw [hv, decide_eq_true_eq]; exact h) ?_
      have yes : ∀ n : Int, r = n → punctP n → Ev (fun _ => some true) (decide (punctP r)) := fun n hn hp => ev_val (by symm; rw [decide_eq_true_eq, hn]; exact hp)
      by_cases c1 : r = 171
      · exact ev_if c1 (yes 171 c1 (by decide))
      refine ev_else c1 ?_
      by_cases c2 : r = 172
      · exact ev_if c2 (yes 172 c2 (by decide))
      refine ev_else c2 ?_
      by_cases c3 : r = 180
      · exact ev_if c3 (yes 180 c3 (by decide))
      refine ev_else c3 ?_
      by_cases c4 : r = 187
      · exact ev_if c4 (yes 187 c4 (by decide))
      refine ev_else c4 ?_
      by_cases c5 : r = 191
      · exact ev_if c5 (yes 191 c5 (by decide))
      refine ev_else c5 ?_
      by_cases c6 : r = 215
      · exact ev_if c6 (yes 215 c6 (by decide))
      refine ev_else c6 ?_
      by_cases c7 : r = 247
      · exact ev_if c7 (yes 247 c7 (by decide))
      refine ev_else c7 ?_
      by_cases d1 : 161 ≤ r ∧ r ≤ 169
      · exact ev_if (decide_eq_true d1) (j1 true (fun _ => by unfold punctP signP; omega) (fun h => by cases h))
      refine ev_else (by rw [decide_eq_true_eq]; exact d1) ?_
      by_cases d2 : 174 ≤ r ∧ r ≤ 177
      · exact ev_if (decide_eq_true d2) (j1 true (fun _ => by unfold punctP signP; omega) (fun h => by cases h))
      refine ev_else (by rw [decide_eq_true_eq]; exact d2) ?_
      refine j1 _ (fun h => ?_) (fun h => ?_)
      · rw [decide_eq_true_eq] at h
        unfold punctP signP
        omega
      · rw [decide_eq_false_iff_not] at h
        unfold punctP signP
        omega
  unfold rubricatorref8_Punct.f
  by_cases h : r ≥ 0
  · exact ev_if h (j0 _ (by rw [decide_eq_decide]; omega))
  · exact ev_else h (j0 _ (by symm; rw [decide_eq_false_iff_not]; omega))
end Go.Proofs.Ytojmhdooglihaaa.Mat
