/- Marker where a text begins with digits, a sign and a blank. Texts below 2^40 bytes. -/
import Derived.Test.YtofklonjmdefgaaDoorPAx3
import Derived.Test.YtofklonjmdefgaaDoorMark
namespace Go.Proofs.YtofklonjmdefgaaDoor.Spec
open Go.RowKit Go.Proofs.YtofklonjmdefgaaDoor.PA Go.Proofs.YtofklonjmdefgaaDoorW.PrintWords Go.Proofs.YtofklonjmdefgaaDoorW.PrintLast
open Go.Proofs.YtofklonjmdefgaaDoorAid
set_option linter.unusedVariables false
/-- The number of digits, read from the first one on. -/
def digVal : List UInt8 → Int → Int
  | [], v => v
  | b :: l, v => digVal l (10 * v + ((b.toNat : Int) - 48))
theorem bt_nat (s : ByteArray) (i : Nat) (h : i < s.size) : bt s (i : Int) = ((s.data.toList[i]'(by simpa using h)).toNat : Int) := by
  unfold bt
  rw [dif_pos (by simpa using h)]
  rfl
theorem digVal_bd : ∀ (l : List UInt8) (v : Int), (∀ b ∈ l, 48 ≤ b.toNat ∧ b.toNat ≤ 57) → 0 ≤ v → 0 ≤ digVal l v ∧ digVal l v < (v + 1) * 10 ^ l.length
  | [], v, _, h => by simp [digVal]; omega
  | b :: l, v, hl, h => by
    have hb := hl b List.mem_cons_self
    have h1 := digVal_bd l (10 * v + ((b.toNat : Int) - 48)) (fun c hc => hl c (List.mem_cons_of_mem _ hc)) (by omega)
    refine ⟨h1.1, Int.lt_of_lt_of_le h1.2 ?_⟩
    rw [List.length_cons, Int.pow_succ, Int.mul_comm (10 ^ l.length) 10, ← Int.mul_assoc]
    refine Int.mul_le_mul_of_nonneg_right (by omega) ?_
    exact Int.le_of_lt (Int.pow_pos (by decide))
/-- m digits, then a point or a bracket, then a blank. -/
theorem marker_digits (s : ByteArray) (hs : s.size ≤ 1099511627776) (m : Nat) (hm : m + 1 < s.size) (hm0 : 0 < m) (hd : ∀ i : Nat, i < m → dig s i) (hc : bt s (m : Int) = 46 ∨ bt s (m : Int) = 41) (hb : bt s ((m + 1 : Nat) : Int) = 32) :
    ∀ (d i : Nat) (v : Int), i + d = m → i ≤ 9 → 0 ≤ v → v < 10 ^ i → Ev (fun k => leaf_Marker.l0 k s (i : Int) v) (if m ≤ 9 then (((m + 1 : Nat) : Int), bt s (m : Int), digVal ((s.data.toList.drop i).take d) v) else (0, 0, 0)) := by
  have p9 : ∀ i : Nat, i ≤ 9 → (10 : Int) ^ i ≤ 1000000000 := by
    intro i hi
    have : ∀ j : Fin 10, (10 : Int) ^ (j : Nat) ≤ 1000000000 := by decide
    exact this ⟨i, by omega⟩
  intro d
  induction d with
  | zero =>
    intro i v hi h9 h0 h1
    obtain rfl : i = m := by omega
    rw [if_pos h9, List.take_zero, digVal]
    have hn : ¬ dig s i := fun h => by
      have := h.2
      rcases hc with hc | hc <;> omega
    have h2 := l_stop s hs i (by omega) v hn
    have e : markV s i v = (((i + 1 : Nat) : Int), bt s (i : Int), v) := by
      unfold markV
      rw [if_pos (by omega), if_pos hm0, if_pos hm, if_pos (decide_eq_true hc), if_pos (decide_eq_true (.inl hb))]
    rw [← e]
    exact h2
  | succ d ih =>
    intro i v hi h9 h0 h1
    have hp := p9 i h9
    have hdi := hd i (by omega)
    have hlt : i < s.data.toList.length := by have := hdi.1; simpa using this
    have hv := bt_nat s i hdi.1
    obtain ⟨g1, g2, g3⟩ := hdi
    refine l_digit s hs i v ⟨g1, g2, g3⟩ h9 (by omega) ?_
    by_cases c : i = 9
    · rw [if_pos c, if_neg (by omega)]
    · rw [if_neg c]
      have h2 := ih (i + 1) (10 * v + (bt s (i : Int) - 48)) (by omega) (by omega) (by omega) (by rw [Int.pow_succ]; omega)
      have e : digVal ((s.data.toList.drop i).take (d + 1)) v = digVal ((s.data.toList.drop (i + 1)).take d) (10 * v + (bt s (i : Int) - 48)) := by
        rw [List.drop_eq_getElem_cons hlt, List.take_succ_cons, digVal, hv]
      rw [e]
      exact h2
end Go.Proofs.YtofklonjmdefgaaDoor.Spec
