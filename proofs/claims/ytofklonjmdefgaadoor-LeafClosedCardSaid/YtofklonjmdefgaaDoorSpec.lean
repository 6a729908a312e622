/- What leaf's Marker comes to: digits, a sign, a blank. No conditions. -/
import Derived.Test.YtofklonjmdefgaaDoorPAx3
import Derived.Test.YtofklonjmdefgaaDoorAid
namespace Go.Proofs.YtofklonjmdefgaaDoor.Spec
open Go.RowKit Go.Proofs.YtofklonjmdefgaaDoor.PA Go.Proofs.YtofklonjmdefgaaDoorW.PrintWords Go.Proofs.YtofklonjmdefgaaDoorW.PrintLast
open Go.Proofs.YtofklonjmdefgaaDoorAid
set_option linter.unusedVariables false
set_option linter.unusedSimpArgs false
theorem known_ev : Ev (fun k => rubricatorlaw18_known.f k) true := Ev.of rubricatorlaw18_known.mono (k := 30) (by decide +kernel)
theorem known_end : Ev (fun k => (rubricatorlaw18_known.f k).bind fun t => some t) true := Ev.bind known_ev (Ev.now _)
theorem bt_bd (s : ByteArray) (i : Int) : 0 ≤ bt s i ∧ bt s i ≤ 255 := by
  unfold bt
  split
  · have := (s[i.toNat]'(by assumption)).toNat_lt
    omega
  · omega
/-- Is a byte among some: by the table of all bytes. -/
theorem among (l : List UInt8) (P : Nat → Bool) (h : (List.range 256).all (fun n => decide (Lib.indexByte l n.toUInt8 ≥ 0) == P n) = true) (c : Int) (hc : 0 ≤ c ∧ c ≤ 255) : (Lib.indexByte l c.toNat.toUInt8 ≥ 0) ↔ P c.toNat = true := by
  have h1 := List.all_eq_true.1 h c.toNat (List.mem_range.2 (by omega))
  rw [beq_iff_eq] at h1
  rw [← h1, decide_eq_true_eq]
theorem blanks (c : Int) (hc : 0 ≤ c ∧ c ≤ 255) : (Lib.indexByte [32, 9] c.toNat.toUInt8 ≥ 0) ↔ (c = 32 ∨ c = 9) := by
  rw [among [32, 9] (fun n => n == 32 || n == 9) (by decide +kernel) c hc]
  simp only [Bool.or_eq_true, beq_iff_eq]
  omega
theorem points (c : Int) (hc : 0 ≤ c ∧ c ≤ 255) : (Lib.indexByte [46, 41] c.toNat.toUInt8 ≥ 0) ↔ (c = 46 ∨ c = 41) := by
  rw [among [46, 41] (fun n => n == 46 || n == 41) (by decide +kernel) c hc]
  simp only [Bool.or_eq_true, beq_iff_eq]
  omega
theorem bullets (c : Int) (hc : 0 ≤ c ∧ c ≤ 255) : (Lib.indexByte [45, 43, 42] c.toNat.toUInt8 ≥ 0) ↔ (c = 45 ∨ c = 43 ∨ c = 42) := by
  rw [among [45, 43, 42] (fun n => n == 45 || n == 43 || n == 42) (by decide +kernel) c hc]
  simp only [Bool.or_eq_true, beq_iff_eq]
  omega
theorem bt_extract (s : ByteArray) (a : Nat) (h : a < s.size) : bt (s.extract a s.size) 0 = bt s (a : Int) := by
  have hs : (s.extract a s.size).size = s.size - a := by simp
  unfold bt
  rw [dif_pos (by simp; omega), dif_pos (by simpa using h)]
  congr 1
  congr 1
  simp [ByteArray.getElem_extract]
theorem toList_nil (s : ByteArray) : s.toList = ([] : List UInt8) ↔ s.size = 0 := by
  rw [← List.length_eq_zero_iff]
  have : s.toList.length = s.size := by rw [Lib.toList_data]; simp
  rw [this]
/-- Behind a sign: nothing, or a blank. -/
theorem ends_eq (s : ByteArray) (a : Nat) (h : a ≤ s.size) : leaf_ends.f (s.extract a s.size) = some (if a < s.size then decide (bt s (a : Int) = 32 ∨ bt s (a : Int) = 9) else true) := by
  have hs : (s.extract a s.size).size = s.size - a := by simp
  unfold leaf_ends.f strings_IndexByte.f
  by_cases c : a < s.size
  · rw [if_neg (by rw [toList_nil, hs]; omega), if_pos (by rw [hs]; omega), Option.bind_some, if_pos c, bt_extract s a c]
    congr 1
    rw [decide_eq_decide]
    exact blanks _ (bt_bd s _)
  · rw [if_pos (by rw [toList_nil, hs]; omega), if_neg c]
end Go.Proofs.YtofklonjmdefgaaDoor.Spec
