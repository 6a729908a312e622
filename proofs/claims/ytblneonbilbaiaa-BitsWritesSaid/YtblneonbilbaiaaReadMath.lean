/- What a Reader of bits tells, as numbers: so many bits from a place on are the row's number from there on. No conditions beside sizes. -/
import Derived.Test.YtblneonbilbaiaaMath
import Derived.Test.YtblneonbilbaiaaRead
import Derived.Test.YtblneonbilbaiaaSame
namespace Go.Proofs.Ytblneonbilbaiaa.Mat
open Go.RowKit Go.Proofs.Ytblneonbilbaiaa.PA Go.Proofs.YtblneonbilbaiaaW.PrintWords Go.Proofs.YtblneonbilbaiaaW.PrintLast Go.Proofs.YtblneonbilbaiaaW.PrintMore
set_option linter.unusedVariables false
set_option linter.unusedSimpArgs false
theorem val_split (b : List Int) (K : Nat) (hK : K < b.length) : val b = val (b.take K) + 256 ^ K * (b[K] + 256 * val (b.drop (K + 1))) := by
  have h : b = b.take K ++ (b[K] :: b.drop (K + 1)) := by
    rw [← List.drop_eq_getElem_cons hK, List.take_append_drop]
  have hl : (b.take K).length = K := by rw [List.length_take]; omega
  have e := val_append (b.take K) (b[K] :: b.drop (K + 1))
  rw [← h, hl, val] at e
  exact e
theorem bit_of (x h : Int) (J : Nat) (hJ : J < 8) : (x + 256 * h) / 2 ^ J % 2 = x / 2 ^ J % 2 := by
  have : J = 0 ∨ J = 1 ∨ J = 2 ∨ J = 3 ∨ J = 4 ∨ J = 5 ∨ J = 6 ∨ J = 7 := by omega
  rcases this with rfl | rfl | rfl | rfl | rfl | rfl | rfl | rfl <;> simp only [Int.reducePow] <;> omega
theorem bit_at (b : List Int) (hb : ∀ c ∈ b, Byte c) (p : Nat) (hp : p < 8 * b.length) : rd b ((p / 8 : Nat) : Int) / 2 ^ (p % 8) % 2 = val b / 2 ^ p % 2 ∧ Byte (rd b ((p / 8 : Nat) : Int)) := by
  have hK : p / 8 < b.length := by omega
  have er : rd b ((p / 8 : Nat) : Int) = b[p / 8] := Go.Proofs.Ytblneonbilbaiaa.Same.rd_get b (p / 8) hK
  have hbk := hb b[p / 8] (List.getElem_mem hK)
  refine ⟨?_, er ▸ hbk⟩
  have hv := val_split b (p / 8) hK
  have h1 := val_nonneg (b.take (p / 8)) (fun c hc => hb c (List.mem_of_mem_take hc))
  have h2 := val_lt (b.take (p / 8)) (fun c hc => hb c (List.mem_of_mem_take hc))
  have hl : (b.take (p / 8)).length = p / 8 := by rw [List.length_take]; omega
  rw [hl] at h2
  have e : (2 : Int) ^ p = 256 ^ (p / 8) * 2 ^ (p % 8) := by
    rw [pow256, ← Int.pow_add]
    congr 1
    omega
  have hp0 : (0 : Int) < 256 ^ (p / 8) := Int.pow_pos (by decide)
  rw [e, ← Int.ediv_ediv_of_nonneg (Int.le_of_lt hp0), hv, Int.add_mul_ediv_left _ _ (Int.ne_of_gt hp0), Int.ediv_eq_zero_of_lt h1 h2, Int.zero_add, bit_of _ _ _ (by omega), er]
theorem pow_le23 (n : Nat) (h : n ≤ 24) : (2 : Int) ^ n ≤ 16777216 ∧ 0 < (2 : Int) ^ n := by
  refine ⟨?_, Int.pow_pos (by decide)⟩
  have : (2 : Nat) ^ n ≤ 2 ^ 24 := Nat.pow_le_pow_right (by decide) h
  have e : ((2 ^ n : Nat) : Int) = (2 : Int) ^ n := by rw [Int.natCast_pow]; rfl
  rw [← e]
  omega
theorem or_bit (a t : Int) (i : Nat) (hi : i < 24) (h0 : 0 ≤ a) (h1 : a < 2 ^ i) (x : Int) (hx : Byte x) (ht : x % 2 = t) :
    Go.bits .or .i64 a (wrap64 (wrap64 (Go.bits .and .u8 x 1) * 2 ^ i)) = a + t * 2 ^ i := by
  unfold Byte at hx
  obtain ⟨X, rfl⟩ := Int.eq_ofNat_of_zero_le hx.1
  obtain ⟨A, rfl⟩ := Int.eq_ofNat_of_zero_le h0
  have hpw := pow_le23 i (by omega)
  have e1 : Go.bits .and .u8 (X : Int) 1 = (X : Int) % 2 := by
    rw [show (1 : Int) = ((1 : Nat) : Int) from rfl, u8_and_nat X 1 (by omega) (by decide), nat_mask1]
    omega
  have hA : A < 2 ^ i := by
    have : ((A : Nat) : Int) < ((2 ^ i : Nat) : Int) := by rw [Int.natCast_pow]; exact h1
    omega
  have hpi : 2 ^ i ≤ 16777216 := by
    have : ((2 ^ i : Nat) : Int) ≤ 16777216 := by rw [Int.natCast_pow]; exact hpw.1
    omega
  have hb : t = 0 ∨ t = 1 := by omega
  rw [e1, ht]
  rcases hb with rfl | rfl
  · rw [show wrap64 (wrap64 0 * 2 ^ i) = ((0 : Nat) : Int) by rw [show wrap64 0 = 0 by unfold wrap64; rfl, Int.zero_mul]; unfold wrap64; rfl, i64_or A 0 (by omega) (by decide)]
    simp
  · have e2 : wrap64 (wrap64 1 * 2 ^ i) = ((2 ^ i : Nat) : Int) := by
      rw [show wrap64 1 = 1 by unfold wrap64; rfl, Int.one_mul, Int.natCast_pow]
      show wrap64 (2 ^ i) = (2 : Int) ^ i
      unfold wrap64
      omega
    rw [e2, i64_or A (2 ^ i) (by omega) (by omega), Nat.or_comm, nat_join i (2 ^ i) A (by simp) hA, Int.natCast_add, Int.natCast_pow]
    show (2 : Int) ^ i + A = A + 1 * 2 ^ i
    omega
theorem getR_eq (b : List Int) (hb : ∀ c ∈ b, Byte c) (p : Nat) : ∀ (d i : Nat) (a : Int), 0 ≤ a → a < 2 ^ i → i + d ≤ 24 → p + i + d ≤ 8 * b.length → getR b p d i a = a + val b / 2 ^ (p + i) % 2 ^ d * 2 ^ i
  | 0, i, a, _, _, _, _ => by
    rw [getR, Int.pow_zero, Int.emod_one, Int.zero_mul, Int.add_zero]
  | d + 1, i, a, h0, h1, hd, hl => by
    obtain ⟨k1, k2⟩ := bit_at b hb (p + i) (by omega)
    have hx : Byte (rd b (((p + i) / 8 : Nat) : Int) / 2 ^ ((p + i) % 8)) := by
      unfold Byte at k2 ⊢
      have hp : (0 : Int) < 2 ^ ((p + i) % 8) := Int.pow_pos (by decide)
      exact ⟨Int.ediv_nonneg k2.1 (Int.le_of_lt hp), Int.lt_of_le_of_lt (Int.ediv_le_self _ k2.1) k2.2⟩
    have hpw := pow_le23 i (by omega)
    have hm : val b / 2 ^ (p + i) % 2 = 0 ∨ val b / 2 ^ (p + i) % 2 = 1 := by omega
    rw [getR, or_bit a (val b / 2 ^ (p + i) % 2) i (by omega) h0 h1 _ hx k1]
    rw [getR_eq b hb p d (i + 1) (a + val b / 2 ^ (p + i) % 2 * 2 ^ i) (by rcases hm with h | h <;> rw [h] <;> omega) (by rw [Int.pow_succ]; rcases hm with h | h <;> rw [h] <;> omega) (by omega) (by omega)]
    rw [mod_step, div_div, Int.pow_succ 2 i, Nat.add_assoc p i 1]
    exact step2 _ _ _ _
theorem get_eq (b : List Int) (hb : ∀ c ∈ b, Byte c) (p d : Nat) (hd : d ≤ 24) (hl : p + d ≤ 8 * b.length) : getR b p d 0 0 = val b / 2 ^ p % 2 ^ d := by
  rw [getR_eq b hb p d 0 0 (Int.le_refl _) (by decide) (by omega) (by omega), Int.pow_zero, Int.mul_one, Int.zero_add, Nat.add_zero]
theorem rev_bit : ∀ (d i : Nat) (v : Int), i < d → rev d v / 2 ^ i % 2 = v / 2 ^ (d - 1 - i) % 2
  | 0, i, v, h => by omega
  | d + 1, 0, v, h => by
    rw [rev, Int.pow_zero, Int.ediv_one, show d + 1 - 1 - 0 = d by omega]
    omega
  | d + 1, i + 1, v, h => by
    have e : rev (d + 1) v / 2 ^ (i + 1) = rev d v / 2 ^ i := by
      rw [rev, Int.pow_succ, Int.mul_comm (2 ^ i) 2, ← Int.ediv_ediv_of_nonneg (by decide)]
      congr 1
      omega
    rw [e, rev_bit d i v (by omega), show d + 1 - 1 - (i + 1) = d - 1 - i by omega]
theorem fits_no (v n : Int) (m : Nat) (hm : m ≤ 24) (h : n < 0 ∨ (m : Int) < n ∨ v < 0 ∨ 2 ^ n.toNat ≤ v) : bits_fits.f v n (m : Int) = some false := by
  unfold bits_fits.f
  split
  · split
    · split
      · try rw [if_pos (by omega)]
        obtain ⟨k, rfl⟩ := Int.eq_ofNat_of_zero_le (show 0 ≤ n by omega)
        have e : shl .i64 1 (k : Int) = 2 ^ k := by
          have hk : k ≤ 24 := by omega
          have : k = 0 ∨ k = 1 ∨ k = 2 ∨ k = 3 ∨ k = 4 ∨ k = 5 ∨ k = 6 ∨ k = 7 ∨ k = 8 ∨ k = 9 ∨ k = 10 ∨ k = 11 ∨ k = 12 ∨ k = 13 ∨ k = 14 ∨ k = 15 ∨ k = 16 ∨ k = 17 ∨ k = 18 ∨ k = 19 ∨ k = 20 ∨ k = 21 ∨ k = 22 ∨ k = 23 ∨ k = 24 := by omega
          rcases this with rfl | rfl | rfl | rfl | rfl | rfl | rfl | rfl | rfl | rfl | rfl | rfl | rfl | rfl | rfl | rfl | rfl | rfl | rfl | rfl | rfl | rfl | rfl | rfl | rfl <;> decide
        rw [e, decide_eq_false]
        rw [show ((k : Nat) : Int).toNat = k from rfl] at h
        omega
      · rfl
    · rfl
  · rfl
theorem shl1 (k : Nat) (hk : k ≤ 24) : shl .i64 1 (k : Int) = 2 ^ k := by
  have : k = 0 ∨ k = 1 ∨ k = 2 ∨ k = 3 ∨ k = 4 ∨ k = 5 ∨ k = 6 ∨ k = 7 ∨ k = 8 ∨ k = 9 ∨ k = 10 ∨ k = 11 ∨ k = 12 ∨ k = 13 ∨ k = 14 ∨ k = 15 ∨ k = 16 ∨ k = 17 ∨ k = 18 ∨ k = 19 ∨ k = 20 ∨ k = 21 ∨ k = 22 ∨ k = 23 ∨ k = 24 := by omega
  rcases this with rfl | rfl | rfl | rfl | rfl | rfl | rfl | rfl | rfl | rfl | rfl | rfl | rfl | rfl | rfl | rfl | rfl | rfl | rfl | rfl | rfl | rfl | rfl | rfl | rfl <;> decide
theorem fits_yes (v : Int) (n m : Nat) (hn : n ≤ m) (hm : m ≤ 24) (h0 : 0 ≤ v) (h1 : v < 2 ^ n) : bits_fits.f v (n : Int) (m : Int) = some true := by
  unfold bits_fits.f
  rw [if_pos (by omega), if_pos (by omega), if_pos (by omega), if_pos (by omega), shl1 n (by omega), decide_eq_true h1]
end Go.Proofs.Ytblneonbilbaiaa.Mat
