/- Two texts side by side, the first one whole: the lines, runes and repaired bytes are those of both. No conditions. -/
import Derived.Test.YtekkkohncfmmfaaLines
import Derived.Test.YtekkkohncfmmfaaRune
namespace Go.Proofs.Ytekkkohncfmmfaa.Par
open Go.RowKit Go.Proofs Go.Proofs.Ytekkkohncfmmfaa.PA Go.Proofs.YtekkkohncfmmfaaW.PrintWords Go.Proofs.YtekkkohncfmmfaaW.PrintLast
open Go.Proofs.YtekkkohncfmmfaaAid Go.Proofs.YtekkkohncfmmfaaDec Go.Proofs.Ytekkkohncfmmfaa.Lin Go.Proofs.Ytekkkohncfmmfaa.Rune
set_option linter.unusedVariables false
set_option linter.unusedSimpArgs false

theorem spec_append : ∀ (x : List UInt8) (y cur : List UInt8) (c : Bool), spec (x ++ (10 :: y)) cur c = spec (x ++ [10]) cur c ++ spec y [] false
  | [], y, cur, c => by
    rw [List.nil_append, List.nil_append, spec, spec]
    split
    · rw [spec, if_pos rfl, List.nil_append]
    · rw [if_pos (.inl rfl), if_pos (.inl rfl), show ((10 : UInt8) == 13) = false from rfl, spec, if_pos rfl]
      rfl
  | b :: x, y, cur, c => by
    rw [List.cons_append, List.cons_append, spec, spec]
    split
    · exact spec_append x y [] false
    · split
      · rw [spec_append x y [] (b == 13)]
        rfl
      · exact spec_append x y (cur ++ [b]) false
theorem data_append (a b : ByteArray) : from_ (a ++ b) 0 = from_ a 0 ++ from_ b 0 := by
  unfold from_
  simp
theorem lines_append (a b : ByteArray) : linesOf ((a ++ (⟨#[10]⟩ : ByteArray)) ++ b) = linesOf (a ++ (⟨#[10]⟩ : ByteArray)) ++ linesOf b := by
  unfold linesOf
  rw [data_append, data_append, show from_ (⟨#[10]⟩ : ByteArray) 0 = [10] from rfl, List.append_assoc, List.singleton_append, spec_append]

/-- Every rune from i on is text. -/
inductive Whole (a : ByteArray) : Nat → Prop
  | done (i : Nat) (h : ¬ i < a.size) : Whole a i
  | more (i : Nat) (h : i < a.size) (hne : Utf8.decode a i ≠ (65533, 1)) (t : Whole a (i + (Utf8.decode a i).2)) : Whole a i
theorem valid_l0 (a : ByteArray) (hs : a.size ≤ 3000) : ∀ (d i : Nat), a.size ≤ i + d → i ≤ a.size → ∃ b : Bool, Ev (fun k => rubricatorref7_Valid.l0 k a (i : Int)) b ∧ (b = true → Whole a i) := by
  intro d
  induction d with
  | zero =>
    intro i hi _
    refine ⟨true, ev_succ ?_, fun _ => .done i (by omega)⟩
    simp only [rubricatorref7_Valid.l0]
    exact ev_else (by omega) (ev_val rfl)
  | succ d ih =>
    intro i hi hi2
    by_cases h : i < a.size
    · have hw := width_pos a i h
      have he := width_end a i h
      by_cases hne : Utf8.decode a i = (65533, 1)
      · refine ⟨false, ev_succ ?_, fun h => absurd h (by simp)⟩
        simp only [rubricatorref7_Valid.l0]
        refine ev_if (by omega) (ev_if (by omega) (ev_if (by omega) ?_))
        rw [Int.toNat_natCast]
        refine Ev.bind (rune_at a i h) (ev_else ?_ (ev_val rfl))
        unfold rune
        simp [hne]
      · obtain ⟨b, hb, hB⟩ := ih (i + (Utf8.decode a i).2) (by omega) (by omega)
        refine ⟨b, ev_succ ?_, fun e => .more i h hne (hB e)⟩
        simp only [rubricatorref7_Valid.l0]
        refine ev_if (by omega) (ev_if (by omega) (ev_if (by omega) ?_))
        rw [Int.toNat_natCast]
        refine Ev.bind (rune_at a i h) (ev_if ?_ ?_)
        · unfold rune
          simp [hne]
        · rw [show wrap64 ((i : Int) + (rune a i).2.1) = ((i + (Utf8.decode a i).2 : Nat) : Int) by unfold rune wrap64; simp only; omega]
          exact hb
    · refine ⟨true, ev_succ ?_, fun _ => .done i h⟩
      simp only [rubricatorref7_Valid.l0]
      exact ev_else (by omega) (ev_val rfl)

/-! Count and Repair, their rounds told by what is left -/
theorem count_more (s : ByteArray) : ∀ (d e p : Nat), s.size ≤ p + d → s.size ≤ p + e → utf_Count.from d s p = utf_Count.from e s p := by
  intro d
  induction d with
  | zero =>
    intro e p h _
    rw [utf_Count.done s 0 p (by omega), utf_Count.done s e p (by omega)]
  | succ d ih =>
    intro e p hd he
    by_cases hp : p < s.size
    · obtain ⟨e, rfl⟩ : ∃ e', e = e' + 1 := ⟨e - 1, by omega⟩
      have hw := width_pos s p hp
      rw [utf_Count.from, utf_Count.from, if_pos hp, if_pos hp, ih e (p + (Utf8.decode s p).2) (by omega) (by omega)]
    · rw [utf_Count.done s _ p hp, utf_Count.done s e p hp]
theorem count_right (a b : ByteArray) : ∀ (d i : Nat), utf_Count.from d (a ++ b) (a.size + i) = utf_Count.from d b i
  | 0, i => rfl
  | d + 1, i => by
    rw [utf_Count.from, utf_Count.from]
    by_cases h : i < b.size
    · rw [if_pos (by rw [ByteArray.size_append]; omega), if_pos h, decode_right a b i h, Nat.add_assoc, count_right a b d]
    · rw [if_neg (by rw [ByteArray.size_append]; omega), if_neg h]
theorem count_left (a b : ByteArray) (i : Nat) (hW : Whole a i) : ∀ (d : Nat), i ≤ a.size → a.size + b.size ≤ i + d → utf_Count.from d (a ++ b) i = utf_Count.from d a i + utf_Count.from d b 0 := by
  induction hW with
  | done i h =>
    intro d hi hd
    obtain rfl : i = a.size := by omega
    rw [utf_Count.done a d _ h, Nat.zero_add]
    exact count_right a b d 0
  | more i h hne t ih =>
    intro d hi hd
    have hw := width_pos a i h
    have he := width_end a i h
    obtain ⟨d, rfl⟩ : ∃ d', d = d' + 1 := ⟨d - 1, by omega⟩
    rw [utf_Count.from, if_pos (by rw [ByteArray.size_append]; omega), decode_left a b i h hne, ih d he (by omega), utf_Count.from, if_pos h, count_more b (d + 1) d 0 (by omega) (by omega)]
    omega
theorem repair_more (s : ByteArray) : ∀ (d e p : Nat), s.size ≤ p + d → s.size ≤ p + e → utf_Repair.from d s p = utf_Repair.from e s p := by
  intro d
  induction d with
  | zero =>
    intro e p h _
    rw [utf_Repair.done s 0 p (by omega), utf_Repair.done s e p (by omega)]
  | succ d ih =>
    intro e p hd he
    by_cases hp : p < s.size
    · obtain ⟨e, rfl⟩ : ∃ e', e = e' + 1 := ⟨e - 1, by omega⟩
      have hw := width_pos s p hp
      rw [utf_Repair.from, utf_Repair.from, if_pos hp, if_pos hp, ih e (p + (Utf8.decode s p).2) (by omega) (by omega)]
    · rw [utf_Repair.done s _ p hp, utf_Repair.done s e p hp]
theorem repair_right (a b : ByteArray) : ∀ (d i : Nat), utf_Repair.from d (a ++ b) (a.size + i) = utf_Repair.from d b i
  | 0, i => rfl
  | d + 1, i => by
    rw [utf_Repair.from, utf_Repair.from]
    by_cases h : i < b.size
    · rw [if_pos (by rw [ByteArray.size_append]; omega), if_pos h, decode_right a b i h, Nat.add_assoc, repair_right a b d]
    · rw [if_neg (by rw [ByteArray.size_append]; omega), if_neg h]
theorem repair_left (a b : ByteArray) (i : Nat) (hW : Whole a i) : ∀ (d : Nat), i ≤ a.size → a.size + b.size ≤ i + d → utf_Repair.from d (a ++ b) i = utf_Repair.from d a i ++ utf_Repair.from d b 0 := by
  induction hW with
  | done i h =>
    intro d hi hd
    obtain rfl : i = a.size := by omega
    rw [utf_Repair.done a d _ h, List.nil_append]
    exact repair_right a b d 0
  | more i h hne t ih =>
    intro d hi hd
    have hw := width_pos a i h
    have he := width_end a i h
    obtain ⟨d, rfl⟩ : ∃ d', d = d' + 1 := ⟨d - 1, by omega⟩
    rw [utf_Repair.from, if_pos (by rw [ByteArray.size_append]; omega), decode_left a b i h hne, ih d he (by omega), utf_Repair.from, if_pos h, repair_more b (d + 1) d 0 (by omega) (by omega), List.append_assoc]
theorem repair_f (s : ByteArray) (h : s.size ≤ 1099511627776) : utf_Repair.f (bytesOf s) = some ⟨(utf_Repair.from s.size s 0).toArray⟩ := by
  unfold utf_Repair.f utf_Repair.whole
  rw [nums_back, if_pos h]
theorem repair_length (s : ByteArray) : ∀ (d p : Nat), (utf_Repair.from d s p).length ≤ 4 * d
  | 0, p => by simp [utf_Repair.from]
  | d + 1, p => by
    rw [utf_Repair.from]
    split
    · have := repair_length s d (p + (Utf8.decode s p).2)
      have h4 := Lib.runeCells_le ((utf_Repair.one (Utf8.decode s p).1 : Nat) : Int)
      rw [Lib.runeCells_length] at h4
      rw [List.length_append]
      omega
    · simp
end Go.Proofs.Ytekkkohncfmmfaa.Par
