/- What Utf8.decode tells of bytes: ASCII is itself, the bytes behind a rune's first are continuation bytes, and a rune that is text stays what it is whatever comes behind. No conditions. -/
import Derived.Test.YtekkkohncfmmfaaDoorAid
import Derived.Laws.RangeAny
import Derived.Laws.BytesArg
namespace Go.Proofs.YtekkkohncfmmfaaDoorDec
open Go.RowKit Go.Proofs Go.Proofs.YtekkkohncfmmfaaDoorW.PrintWords
set_option linter.unusedVariables false
set_option linter.unusedSimpArgs false

theorem get_of (s : ByteArray) (i : Nat) (h : i < s.size) : s.get! i = s[i]'h := by
  have := get_at s i h
  rwa [Nat.add_zero] at this
theorem get_left (a b : ByteArray) (i : Nat) (h : i < a.size) : (a ++ b).get! i = a.get! i := by
  rw [get_of a i h, get_of (a ++ b) i (by rw [ByteArray.size_append]; omega), ByteArray.getElem_append_left]
theorem get_right (a b : ByteArray) (i : Nat) (h : i < b.size) : (a ++ b).get! (a.size + i) = b.get! i := by
  rw [get_of b i h, get_of (a ++ b) (a.size + i) (by rw [ByteArray.size_append]; omega), ByteArray.getElem_append_right (by omega)]
  congr 1
  omega
/-- Places behind a prefix: the same as in what comes behind it. -/
theorem decode_right (a b : ByteArray) (i : Nat) (h : i < b.size) : Utf8.decode (a ++ b) (a.size + i) = Utf8.decode b i := by
  have h0 : (a ++ b).get! (a.size + i + 0) = b.get! (i + 0) := get_right a b i h
  have hc : ∀ k, (decide (a.size + i + k < (a ++ b).size) && ((a ++ b).get! (a.size + i + k)).toNat / 64 == 2) = (decide (i + k < b.size) && (b.get! (i + k)).toNat / 64 == 2) := by
    intro k
    by_cases hk : i + k < b.size
    · rw [Nat.add_assoc, get_right a b (i + k) hk, decide_eq_true (by rw [ByteArray.size_append]; omega), decide_eq_true hk]
    · rw [decide_eq_false (by rw [ByteArray.size_append]; omega), decide_eq_false hk]
      rfl
  have hg : ∀ k, (decide (i + k < b.size) && (b.get! (i + k)).toNat / 64 == 2) = true → (a ++ b).get! (a.size + i + k) = b.get! (i + k) := by
    intro k hk
    simp only [Bool.and_eq_true, decide_eq_true_eq] at hk
    rw [Nat.add_assoc]
    exact get_right a b (i + k) hk.1
  unfold Utf8.decode
  simp only [h0, hc]
  by_cases b0 : (b.get! (i + 0)).toNat < 0x80
  · rw [if_pos b0, if_pos b0]
  rw [if_neg b0, if_neg b0]
  cases hb1 : (decide (i + 1 < b.size) && (b.get! (i + 1)).toNat / 64 == 2)
  · simp only [Bool.and_false, Bool.false_and, Bool.false_eq_true, if_false]
  rw [hg 1 hb1]
  cases hb2 : (decide (i + 2 < b.size) && (b.get! (i + 2)).toNat / 64 == 2)
  · simp only [Bool.and_false, Bool.false_and, Bool.and_true, Bool.false_eq_true, if_false]
  rw [hg 2 hb2]
  cases hb3 : (decide (i + 3 < b.size) && (b.get! (i + 3)).toNat / 64 == 2)
  · simp only [Bool.and_false, Bool.false_and, Bool.and_true, Bool.false_eq_true, if_false]
  rw [hg 3 hb3]
/-- The bytes behind a rune's first. -/
theorem inner (s : ByteArray) (i j : Nat) (h1 : 1 ≤ j) (h2 : j < (Utf8.decode s i).2) : i + j < s.size ∧ (s.get! (i + j)).toNat / 64 = 2 := by
  revert h2
  unfold Utf8.decode
  simp only [Utf8.runeError]
  have hk : ∀ k, decide (i + k < s.size) = true ∧ ((s.get! (i + k)).toNat / 64 == 2) = true → i + k < s.size ∧ (s.get! (i + k)).toNat / 64 = 2 := by
    intro k h
    simpa using h
  repeat' split
  all_goals intro h2
  all_goals simp only at h2
  all_goals first
    | omega
    | skip
  all_goals
    rename_i hh _
    simp only [Bool.and_eq_true] at hh
  · exact (by omega : j = 1) ▸ hk 1 hh.2
  · rcases (by omega : j = 1 ∨ j = 2) with rfl | rfl
    · exact hk 1 hh.1.2
    · exact hk 2 hh.2
  · rcases (by omega : j = 1 ∨ j = 2 ∨ j = 3) with rfl | rfl | rfl
    · exact hk 1 hh.1.1.2
    · exact hk 2 hh.1.2
    · exact hk 3 hh.2
theorem width_end (s : ByteArray) (i : Nat) (h : i < s.size) : i + (Utf8.decode s i).2 ≤ s.size := by
  by_cases hw : (Utf8.decode s i).2 ≤ 1
  · omega
  · have := (inner s i ((Utf8.decode s i).2 - 1) (by omega) (by omega)).1
    omega
theorem width_pos (s : ByteArray) (i : Nat) (h : i < s.size) : 1 ≤ (Utf8.decode s i).2 := by
  by_cases ha : (s[i]'h).toNat < 128
  · rw [decode_ascii s i h ha]
    exact Nat.le_refl _
  · exact (decode_high s i h (by omega)).2
/-- A rune that is text stays what it is whatever comes behind. -/
theorem decode_left (a b : ByteArray) (i : Nat) (h : i < a.size) (hne : Utf8.decode a i ≠ (65533, 1)) : Utf8.decode (a ++ b) i = Utf8.decode a i := by
  have h0 : (a ++ b).get! (i + 0) = a.get! (i + 0) := get_left a b i h
  have hc : ∀ k, (decide (i + k < a.size) && (a.get! (i + k)).toNat / 64 == 2) = true → (decide (i + k < (a ++ b).size) && (a.get! (i + k)).toNat / 64 == 2) = true ∧ (a ++ b).get! (i + k) = a.get! (i + k) := by
    intro k hk
    simp only [Bool.and_eq_true, decide_eq_true_eq] at hk
    rw [get_left a b (i + k) hk.1, decide_eq_true (by rw [ByteArray.size_append]; omega), hk.2]
    exact ⟨rfl, rfl⟩
  revert hne
  unfold Utf8.decode
  simp only [h0, Utf8.runeError]
  by_cases b0 : (a.get! (i + 0)).toNat < 0x80
  · rw [if_pos b0, if_pos b0]
    exact fun _ => rfl
  rw [if_neg b0, if_neg b0]
  intro hne
  by_cases k2 : ((a.get! (i + 0)).toNat / 32 == 6) = true
  · have n3 : ((a.get! (i + 0)).toNat / 16 == 14) = false := by rw [beq_iff_eq] at k2; rw [beq_eq_false_iff_ne]; omega
    have n4 : ((a.get! (i + 0)).toNat / 8 == 30) = false := by rw [beq_iff_eq] at k2; rw [beq_eq_false_iff_ne]; omega
    simp only [k2, n3, n4] at hne ⊢
    rcases (Bool.eq_false_or_eq_true (decide (i + 1 < a.size) && (a.get! (i + 1)).toNat / 64 == 2)).symm with c1 | c1
    · simp only [c1, Bool.and_false, Bool.false_and, Bool.true_and, Bool.and_true, Bool.false_eq_true, if_false, ne_eq, not_true_eq_false] at hne
    · simp only [c1, (hc 1 c1).1, (hc 1 c1).2, Bool.and_false, Bool.false_and, Bool.true_and, Bool.and_true, Bool.false_eq_true, if_false, if_true]
  · rw [Bool.not_eq_true] at k2
    simp only [k2] at hne ⊢
    by_cases k3 : ((a.get! (i + 0)).toNat / 16 == 14) = true
    · have n4 : ((a.get! (i + 0)).toNat / 8 == 30) = false := by rw [beq_iff_eq] at k3; rw [beq_eq_false_iff_ne]; omega
      simp only [k3, n4] at hne ⊢
      rcases (Bool.eq_false_or_eq_true (decide (i + 1 < a.size) && (a.get! (i + 1)).toNat / 64 == 2)).symm with c1 | c1
      · simp only [c1, Bool.and_false, Bool.false_and, Bool.true_and, Bool.and_true, Bool.false_eq_true, if_false, ne_eq, not_true_eq_false] at hne
      · rcases (Bool.eq_false_or_eq_true (decide (i + 2 < a.size) && (a.get! (i + 2)).toNat / 64 == 2)).symm with c2 | c2
        · simp only [c1, c2, Bool.and_false, Bool.false_and, Bool.true_and, Bool.and_true, Bool.false_eq_true, if_false, ne_eq, not_true_eq_false] at hne
        · simp only [c1, c2, (hc 1 c1).1, (hc 1 c1).2, (hc 2 c2).1, (hc 2 c2).2, Bool.and_false, Bool.false_and, Bool.true_and, Bool.and_true, Bool.false_eq_true, if_false, if_true]
    · rw [Bool.not_eq_true] at k3
      simp only [k3] at hne ⊢
      by_cases k4 : ((a.get! (i + 0)).toNat / 8 == 30) = true
      · simp only [k4] at hne ⊢
        rcases (Bool.eq_false_or_eq_true (decide (i + 1 < a.size) && (a.get! (i + 1)).toNat / 64 == 2)).symm with c1 | c1
        · simp only [c1, Bool.and_false, Bool.false_and, Bool.true_and, Bool.and_true, Bool.false_eq_true, if_false, ne_eq, not_true_eq_false] at hne
        · rcases (Bool.eq_false_or_eq_true (decide (i + 2 < a.size) && (a.get! (i + 2)).toNat / 64 == 2)).symm with c2 | c2
          · simp only [c1, c2, Bool.and_false, Bool.false_and, Bool.true_and, Bool.and_true, Bool.false_eq_true, if_false, ne_eq, not_true_eq_false] at hne
          · rcases (Bool.eq_false_or_eq_true (decide (i + 3 < a.size) && (a.get! (i + 3)).toNat / 64 == 2)).symm with c3 | c3
            · simp only [c1, c2, c3, Bool.and_false, Bool.false_and, Bool.true_and, Bool.and_true, Bool.false_eq_true, if_false, ne_eq, not_true_eq_false] at hne
            · simp only [c1, c2, c3, (hc 1 c1).1, (hc 1 c1).2, (hc 2 c2).1, (hc 2 c2).2, (hc 3 c3).1, (hc 3 c3).2, Bool.and_false, Bool.false_and, Bool.true_and, Bool.and_true, Bool.false_eq_true, if_false, if_true]
      · rw [Bool.not_eq_true] at k4
        simp only [k4, Bool.and_false, Bool.false_and, Bool.true_and, Bool.and_true, Bool.false_eq_true, if_false, ne_eq, not_true_eq_false] at hne
theorem nums_back (s : ByteArray) : strOfNums (bytesOf s) = s := by
  apply ByteArray.ext
  apply Array.toList_inj.1
  rw [strOfNums_data]
  unfold bytesOf
  rw [List.map_map]
  conv => rhs; rw [← List.map_id s.data.toList]
  apply List.map_congr_left
  intro x _
  simp
end Go.Proofs.YtekkkohncfmmfaaDoorDec
