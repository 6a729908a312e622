/- Signs that close a heading, behind a blank, are none of its text; without the blank they are. No conditions. -/
import Derived.Test.YtofklonjmdefgaaDoorPAx5
import Derived.Test.YtofklonjmdefgaaDoorHead
namespace Go.Proofs.YtofklonjmdefgaaDoor.Pure
open Go.RowKit Go.Proofs.YtofklonjmdefgaaDoor.PA Go.Proofs.YtofklonjmdefgaaDoorW.PrintWords Go.Proofs.YtofklonjmdefgaaDoorW.PrintLast
open Go.Proofs.YtofklonjmdefgaaDoorAid Go.Proofs.YtofklonjmdefgaaDoor.Spec
set_option linter.unusedVariables false
def letter (b : UInt8) : Prop := 97 ≤ b.toNat ∧ b.toNat ≤ 122
theorem letter_no {b : UInt8} (h : letter b) : [32, 9].contains b = false ∧ [35].contains b = false ∧ ¬ (b = 32 ∨ b = 9) := by
  unfold letter at h
  refine ⟨?_, ?_, ?_⟩
  · simp only [List.contains_cons, List.contains_nil, Bool.or_false, Bool.or_eq_false_iff, beq_eq_false_iff_ne]
    exact ⟨by rintro rfl; simp at h, by rintro rfl; simp at h⟩
  · simp only [List.contains_cons, List.contains_nil, Bool.or_false, beq_eq_false_iff_ne]
    rintro rfl; simp at h
  · rintro (rfl | rfl) <;> simp at h
theorem ends_of {t : List UInt8} (ht : t ≠ []) (hl : ∀ b ∈ t, letter b) : (∀ b, t.head? = some b → letter b) ∧ ∃ z, t.getLast? = some z ∧ letter z := by
  refine ⟨fun b hb => hl b (List.mem_of_mem_head? hb), t.getLast ht, List.getLast?_eq_some_getLast ht, hl _ (List.getLast_mem ht)⟩
/-- The three ways: no signs behind; signs behind a blank; signs alone. -/
theorem way0 {t : List UInt8} (ht : t ≠ []) (hl : ∀ b ∈ t, letter b) : Lib.trimS (32 :: (t ++ [32] ++ [32, 32])) [32, 9] = t ∧ Lib.trimRightS t [35] = t ∧ ∃ z, t.getLast? = some z ∧ (if z = 32 ∨ z = 9 then Lib.trimS t [32, 9] = t else t = t) := by
  obtain ⟨h1, z, hz, hlz⟩ := ends_of ht hl
  refine ⟨?_, ?_, z, hz, ?_⟩
  · have h := trim_eq [32] t [32, 32, 32] [32, 9] (by decide) (by decide) (fun b hb => (letter_no (h1 b hb)).1) (fun b hb => by rw [hz] at hb; cases hb; exact (letter_no hlz).1) ht
    simpa using h
  · have h := trimR t [] [35] (by simp) (fun b hb => by rw [hz] at hb; cases hb; exact (letter_no hlz).2.1)
    simpa using h
  · rw [if_neg (letter_no hlz).2.2]
theorem wayA {t : List UInt8} (ht : t ≠ []) (hl : ∀ b ∈ t, letter b) (c : Nat) (hc : 0 < c) : Lib.trimS (32 :: (t ++ [32] ++ List.replicate c 35 ++ [32, 32])) [32, 9] = t ++ [32] ++ List.replicate c 35 ∧ Lib.trimRightS (t ++ [32] ++ List.replicate c 35) [35] = t ++ [32] ∧
    ∃ z, (t ++ [32] : List UInt8).getLast? = some z ∧ (if z = 32 ∨ z = 9 then Lib.trimS (t ++ [32]) [32, 9] = t else t = t ++ [32] ++ List.replicate c 35) := by
  obtain ⟨h1, z, hz, hlz⟩ := ends_of ht hl
  have hr : (List.replicate c (35 : UInt8)).getLast? = some 35 := by
    rw [List.getLast?_replicate]
    simp [Nat.pos_iff_ne_zero.1 hc]
  refine ⟨?_, ?_, 32, by simp, ?_⟩
  · have h := trim_eq [32] (t ++ [32] ++ List.replicate c 35) [32, 32] [32, 9] (by decide) (by decide) (fun b hb => ?_) (fun b hb => ?_) (by simp)
    · simpa using h
    · cases t with
      | nil => exact absurd rfl ht
      | cons a t => exact (letter_no (h1 b (by simpa using hb))).1
    · rw [List.getLast?_append, hr] at hb
      cases hb
      decide
  · have h := trimR (t ++ [32]) (List.replicate c 35) [35] (fun b hb => by rw [List.eq_of_mem_replicate hb]; decide) (fun b hb => by simp at hb; rw [← hb]; decide)
    exact h
  · rw [if_pos (.inl rfl)]
    have h := trim_eq [] t [32] [32, 9] (by simp) (by decide) (fun b hb => (letter_no (h1 b hb)).1) (fun b hb => by rw [hz] at hb; cases hb; exact (letter_no hlz).1) ht
    simpa using h
theorem wayB {t : List UInt8} (ht : t ≠ []) (hl : ∀ b ∈ t, letter b) (c : Nat) (hc : 0 < c) : Lib.trimS (32 :: (t ++ List.replicate c 35 ++ [32, 32])) [32, 9] = t ++ List.replicate c 35 ∧ Lib.trimRightS (t ++ List.replicate c 35) [35] = t ∧
    ∃ z, t.getLast? = some z ∧ (if z = 32 ∨ z = 9 then Lib.trimS t [32, 9] = t ++ List.replicate c 35 else t ++ List.replicate c 35 = t ++ List.replicate c 35) := by
  obtain ⟨h1, z, hz, hlz⟩ := ends_of ht hl
  have hr : (List.replicate c (35 : UInt8)).getLast? = some 35 := by
    rw [List.getLast?_replicate]
    simp [Nat.pos_iff_ne_zero.1 hc]
  refine ⟨?_, ?_, z, hz, ?_⟩
  · have h := trim_eq [32] (t ++ List.replicate c 35) [32, 32] [32, 9] (by decide) (by decide) (fun b hb => ?_) (fun b hb => ?_) (by simp [ht])
    · simpa using h
    · cases t with
      | nil => exact absurd rfl ht
      | cons a t => exact (letter_no (h1 b (by simpa using hb))).1
    · rw [List.getLast?_append, hr] at hb
      cases hb
      decide
  · exact trimR t (List.replicate c 35) [35] (fun b hb => by rw [List.eq_of_mem_replicate hb]; decide) (fun b hb => by rw [hz] at hb; cases hb; exact (letter_no hlz).2.1)
  · rw [if_neg (letter_no hlz).2.2]
theorem j6_ev (n : Int) (want : ByteArray) (k : Int) (s : ByteArray) (b : Bool) (h : if b = true then k = 0 ∧ s.size = 0 else k = n ∧ s.toList = want.toList) : Ev (fun q => rubricatorlaw18_LeafClosed.j6 q n want k s b) true := by
  refine ev_succ ?_
  simp only [rubricatorlaw18_LeafClosed.j6]
  cases b with
  | true =>
    rw [if_pos rfl] at h
    exact ev_if rfl (ev_if h.1 (ev_if (by rw [toList_nil]; exact h.2) known_end))
  | false =>
    rw [if_neg (by simp)] at h
    exact ev_else (by simp) (ev_if h.1 (ev_if h.2 known_end))
theorem j5_ev (n : Nat) (hn : n ≤ 9) (t : ByteArray) (ht : t.size ≤ 100) (c : Nat) (hc : c ≤ 20) (gap want : List UInt8) (hg : gap.length ≤ 1) (hw : want.length ≤ 200) (Y x : List UInt8)
    (h : Lib.trimS (32 :: (t.data.toList ++ gap ++ List.replicate c 35 ++ [32, 32])) [32, 9] = Y ∧ Lib.trimRightS Y [35] = x ∧ ∃ z, x.getLast? = some z ∧ (if z = 32 ∨ z = 9 then Lib.trimS x [32, 9] = want else want = Y)) (hY : Y.length ≤ 1000000) (hx : x.length ≤ 1000000) :
    Ev (fun k => rubricatorlaw18_LeafClosed.j5 k (n : Int) t (mkS (List.replicate n 35)) (mkS (List.replicate c 35)) (mkS gap) (mkS want)) true := by
  refine ev_succ ?_
  simp only [rubricatorlaw18_LeafClosed.j5]
  have s1 : (mkS (List.replicate n (35 : UInt8))).size = n := by rw [mkS_size]; simp
  have s2 : (mkS (List.replicate c (35 : UInt8))).size = c := by rw [mkS_size]; simp
  have s3 : (mkS gap).size = gap.length := mkS_size gap
  have s4 : (⟨#[32]⟩ : ByteArray).size = 1 := rfl
  refine ev_if (by omega) (ev_if (by rw [ByteArray.size_append]; omega) (ev_if (by rw [ByteArray.size_append, ByteArray.size_append]; omega) (ev_if (by rw [ByteArray.size_append, ByteArray.size_append, ByteArray.size_append]; omega) (ev_if (by rw [ByteArray.size_append, ByteArray.size_append, ByteArray.size_append, ByteArray.size_append]; omega) ?_))))
  have hT : (((((mkS (List.replicate n 35) ++ (⟨#[32]⟩ : ByteArray)) ++ t) ++ mkS gap) ++ mkS (List.replicate c 35)) ++ (⟨#[32, 32]⟩ : ByteArray)) = mkS (List.replicate n 35 ++ 32 :: (t.data.toList ++ gap ++ List.replicate c 35 ++ [32, 32])) := by
    rw [← mkS_of (((((mkS (List.replicate n 35) ++ (⟨#[32]⟩ : ByteArray)) ++ t) ++ mkS gap) ++ mkS (List.replicate c 35)) ++ (⟨#[32, 32]⟩ : ByteArray))]
    congr 1
    try simp [mkS]
  rw [hT]
  have hts : t.data.toList.length ≤ 100 := by simpa using ht
  obtain ⟨g1, g2⟩ := heading_ev n (t.data.toList ++ gap ++ List.replicate c 35 ++ [32, 32]) (by simp; omega)
  by_cases b : n < 1 ∨ 6 < n
  · refine Ev.bind (g1 b) ?_
    have hj : Ev (fun q => rubricatorlaw18_LeafClosed.j6 q (n : Int) (mkS want) 0 (⟨#[]⟩ : ByteArray) true) true := j6_ev _ _ _ _ _ (by rw [if_pos rfl]; exact ⟨rfl, rfl⟩)
    by_cases c1 : (n : Int) < 1
    · exact ev_if c1 hj
    · refine ev_else c1 ?_
      rw [decide_eq_true (show (n : Int) > 6 by omega)]
      exact hj
  · refine Ev.bind (g2 (by omega) (by omega) Y x want h.1 h.2.1 h.2.2 hY hx) (ev_else (by omega) ?_)
    rw [decide_eq_false (show ¬ (n : Int) > 6 by omega)]
    exact j6_ev _ _ _ _ _ (by rw [if_neg (by simp)]; exact ⟨rfl, rfl⟩)
theorem l2_ev (n : Nat) (hn : n ≤ 9) (t : ByteArray) (ht : t.size ≤ 100) (hne : t.data.toList ≠ []) (hl : ∀ b ∈ t.data.toList, letter b) (c : Nat) (hc : c ≤ 20) (b : Bool) : ∀ d i : Nat, i + d = c →
    Ev (fun k => rubricatorlaw18_LeafClosed.l2 k (n : Int) t (c : Int) b (mkS (List.replicate n 35)) (mkS (List.replicate i 35)) (i : Int)) true := by
  have hts : t.data.toList.length ≤ 100 := by simpa using ht
  intro d
  induction d with
  | zero =>
    intro i hi
    obtain rfl : i = c := by omega
    refine ev_succ ?_
    simp only [rubricatorlaw18_LeafClosed.l2]
    have s2 : (mkS (List.replicate i (35 : UInt8))).size = i := by rw [mkS_size]; simp
    refine ev_else (by omega) (ev_if (by omega) ?_)
    have yes : Ev (fun k => rubricatorlaw18_LeafClosed.j4 k (n : Int) t (mkS (List.replicate n 35)) (mkS (List.replicate i 35)) (⟨#[]⟩ : ByteArray) (t ++ mkS (List.replicate i 35)) true) true := by
      refine ev_succ ?_
      simp only [rubricatorlaw18_LeafClosed.j4]
      by_cases i0 : i = 0
      · subst i0
        exact j5_ev n hn t ht 0 (by omega) [32] t.data.toList (by simp) (by omega) t.data.toList t.data.toList (by simpa using way0 hne hl) (by omega) (by omega)
      · exact j5_ev n hn t ht i hc [32] t.data.toList (by simp) (by omega) _ _ (wayA hne hl i (by omega)) (by simp; omega) (by simp; omega)
    cases b with
    | true => exact ev_if rfl yes
    | false =>
      refine ev_else (by simp) ?_
      by_cases i0 : i = 0
      · have e : ((i : Int) == 0) = true := beq_iff_eq.2 (by omega)
        rw [e]
        exact yes
      · have e : ((i : Int) == 0) = false := beq_eq_false_iff_ne.2 (by omega)
        rw [e]
        refine ev_succ ?_
        simp only [rubricatorlaw18_LeafClosed.j4]
        refine ev_else (by simp) ?_
        have hw : t ++ mkS (List.replicate i 35) = mkS (t.data.toList ++ List.replicate i 35) := by
          rw [← mkS_of (t ++ mkS (List.replicate i 35))]
          congr 1
          try simp [mkS]
        rw [hw]
        exact j5_ev n hn t ht i hc [] _ (by simp) (by simp; omega) (t.data.toList ++ List.replicate i 35) t.data.toList (by have h := wayB hne hl i (by omega); simpa only [List.append_nil] using h) (by simp; omega) (by omega)
  | succ d ih =>
    intro i hi
    refine ev_succ ?_
    simp only [rubricatorlaw18_LeafClosed.l2]
    have s2 : (mkS (List.replicate i (35 : UInt8))).size = i := by rw [mkS_size]; simp
    refine ev_if (by omega) (ev_if (by omega) ?_)
    have e : mkS (List.replicate i 35) ++ (⟨#[35]⟩ : ByteArray) = mkS (List.replicate (i + 1) 35) := by
      rw [← mkS_of (mkS (List.replicate i 35) ++ (⟨#[35]⟩ : ByteArray)), List.replicate_succ']
      congr 1
      try simp [mkS]
    rw [e, w1 i (by omega)]
    exact ih (i + 1) (by omega)
theorem l1_ev (n : Nat) (hn : n ≤ 9) (t : ByteArray) (ht : t.size ≤ 100) (hne : t.data.toList ≠ []) (hl : ∀ b ∈ t.data.toList, letter b) (c : Nat) (hc : c ≤ 20) (b : Bool) : ∀ d i : Nat, i + d = n →
    Ev (fun k => rubricatorlaw18_LeafClosed.l1 k (n : Int) t (c : Int) b (mkS (List.replicate i 35)) (i : Int)) true := by
  intro d
  induction d with
  | zero =>
    intro i hi
    obtain rfl : i = n := by omega
    refine ev_succ ?_
    simp only [rubricatorlaw18_LeafClosed.l1]
    exact ev_else (by omega) (l2_ev i hn t ht hne hl c hc b c 0 (by omega))
  | succ d ih =>
    intro i hi
    refine ev_succ ?_
    simp only [rubricatorlaw18_LeafClosed.l1]
    have s2 : (mkS (List.replicate i (35 : UInt8))).size = i := by rw [mkS_size]; simp
    refine ev_if (by omega) (ev_if (by omega) ?_)
    have e : mkS (List.replicate i 35) ++ (⟨#[35]⟩ : ByteArray) = mkS (List.replicate (i + 1) 35) := by
      rw [← mkS_of (mkS (List.replicate i 35) ++ (⟨#[35]⟩ : ByteArray)), List.replicate_succ']
      congr 1
      try simp [mkS]
    rw [e, w1 i (by omega)]
    exact ih (i + 1) (by omega)
theorem l0_ev (n : Nat) (hn : n ≤ 9) (t : ByteArray) (ht : t.size ≤ 100) (hne : t.data.toList ≠ []) (c : Nat) (hc : c ≤ 20) (b : Bool) : ∀ d i : Nat, i + d = t.size → (∀ j : Nat, j < i → (h : j < t.data.toList.length) → letter t.data.toList[j]) →
    Ev (fun k => rubricatorlaw18_LeafClosed.l0 k (n : Int) t (c : Int) b (i : Int)) true := by
  have hts : t.data.toList.length = t.size := by simp
  intro d
  induction d with
  | zero =>
    intro i hi hl
    refine ev_succ ?_
    simp only [rubricatorlaw18_LeafClosed.l0]
    refine ev_else (by omega) (l1_ev n hn t ht hne (fun b hb => ?_) c hc b n 0 (by omega))
    obtain ⟨j, hj, rfl⟩ := List.getElem_of_mem hb
    exact hl j (by omega) hj
  | succ d ih =>
    intro i hi hl
    refine ev_succ ?_
    simp only [rubricatorlaw18_LeafClosed.l0]
    refine ev_if (by omega) (ev_if (by omega) ?_)
    rw [bt_nat t i (by omega)]
    by_cases c1 : ((t.data.toList[i]'(by omega)).toNat : Int) < 97
    · exact ev_if c1 known_end
    · refine ev_else c1 ?_
      by_cases c2 : ((t.data.toList[i]'(by omega)).toNat : Int) > 122
      · exact ev_if c2 known_end
      · refine ev_else c2 ?_
        rw [w1 i (by omega)]
        refine ih (i + 1) (by omega) (fun j hj h => ?_)
        by_cases e : j = i
        · subst e
          unfold letter
          omega
        · exact hl j (by omega) h
theorem LeafClosed : rubricatorlaw18_LeafClosed.Pure := by
  intro n t c b hn ht hc
  refine Ev.rounds (r := true) ?_
  have bad : Ev (fun k => rubricatorlaw18_LeafClosed.j0 k n t c b true) true := by
    refine ev_succ ?_
    simp only [rubricatorlaw18_LeafClosed.j0]
    exact known_end
  unfold rubricatorlaw18_LeafClosed.f
  by_cases c1 : n < 0
  · exact ev_if c1 bad
  refine ev_else c1 ?_
  by_cases c2 : n > 9
  · exact ev_if c2 bad
  refine ev_else c2 ?_
  by_cases c3 : c < 0
  · exact ev_if c3 bad
  refine ev_else c3 ?_
  by_cases c4 : c > 20
  · exact ev_if c4 bad
  refine ev_else c4 ?_
  by_cases c5 : (t.size : Int) > 100
  · exact ev_if c5 bad
  refine ev_else c5 ?_
  by_cases c6 : t.toList = []
  · have e : (t.toList == ([] : List UInt8)) = true := beq_iff_eq.2 c6
    rw [e]
    exact bad
  · have e : (t.toList == ([] : List UInt8)) = false := beq_eq_false_iff_ne.2 c6
    rw [e]
    refine ev_succ ?_
    simp only [rubricatorlaw18_LeafClosed.j0]
    refine ev_else (by simp) ?_
    obtain ⟨m, rfl⟩ := Int.eq_ofNat_of_zero_le (show 0 ≤ n by omega)
    obtain ⟨q, rfl⟩ := Int.eq_ofNat_of_zero_le (show 0 ≤ c by omega)
    exact l0_ev m (by omega) t (by omega) (by rw [← Lib.toList_data]; exact c6) q (by omega) b t.size 0 (by omega) (fun j hj => by omega)
end Go.Proofs.YtofklonjmdefgaaDoor.Pure
