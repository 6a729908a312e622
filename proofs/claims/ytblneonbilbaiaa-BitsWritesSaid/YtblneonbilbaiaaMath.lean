/- Bits as numbers: what a Writer of bits holds is a number and how many bits it has; rows of bytes are told by their number and length. No conditions beside sizes. -/
import Derived.Test.YtblneonbilbaiaaWrite
import Derived.Laws.BitsAllLaws
namespace Go.Proofs.Ytblneonbilbaiaa.Mat
open Go.RowKit Go.Proofs.Ytblneonbilbaiaa.PA
set_option linter.unusedVariables false
set_option linter.unusedSimpArgs false
def Byte (c : Int) : Prop := 0 ≤ c ∧ c < 256
def val : List Int → Int
  | [] => 0
  | c :: cs => c + 256 * val cs
theorem val_append (a b : List Int) : val (a ++ b) = val a + 256 ^ a.length * val b := by
  induction a with
  | nil => simp [val]
  | cons c a ih =>
    rw [List.cons_append, val, val, ih, List.length_cons, Int.pow_succ, Int.mul_add, Int.add_assoc, Int.mul_comm (256 ^ a.length) 256, Int.mul_assoc]
theorem val_inj : ∀ (a b : List Int), (∀ c ∈ a, Byte c) → (∀ c ∈ b, Byte c) → a.length = b.length → val a = val b → a = b
  | [], [], _, _, _, _ => rfl
  | [], _ :: _, _, _, h, _ => by simp at h
  | _ :: _, [], _, _, h, _ => by simp at h
  | x :: a, y :: b, ha, hb, hl, hv => by
    rw [val, val] at hv
    have hx : Byte x := ha x (by simp)
    have hy : Byte y := hb y (by simp)
    unfold Byte at hx hy
    have e : x = y := by omega
    have e2 : val a = val b := by omega
    rw [e, val_inj a b (fun c hc => ha c (by simp [hc])) (fun c hc => hb c (by simp [hc])) (by simpa using hl) e2]
theorem val_nonneg : ∀ (a : List Int), (∀ c ∈ a, Byte c) → 0 ≤ val a
  | [], _ => by simp [val]
  | x :: a, h => by
    have := val_nonneg a (fun c hc => h c (by simp [hc]))
    have hx : Byte x := h x (by simp)
    unfold Byte at hx
    rw [val]
    omega
theorem val_lt : ∀ (a : List Int), (∀ c ∈ a, Byte c) → val a < 256 ^ a.length
  | [], _ => by simp [val]
  | x :: a, h => by
    have := val_lt a (fun c hc => h c (by simp [hc]))
    have hx : Byte x := h x (by simp)
    unfold Byte at hx
    rw [val, List.length_cons, Int.pow_succ]
    omega
theorem pow256 (n : Nat) : (256 : Int) ^ n = 2 ^ (8 * n) := by
  rw [Int.pow_mul]
  rfl
theorem i64_and (a b : Nat) (ha : a < 9223372036854775808) (hb : b < 9223372036854775808) : Go.bits .and .i64 (a : Int) (b : Int) = ((a &&& b : Nat) : Int) := by
  show IntKind.i64.wrap ((BitVec.ofInt 64 (a : Int) &&& BitVec.ofInt 64 (b : Int)).toNat : Int) = _
  have e : (BitVec.ofInt 64 (a : Int) &&& BitVec.ofInt 64 (b : Int)).toNat = a &&& b := by
    rw [BitVec.toNat_and, BitVec.ofInt_natCast, BitVec.ofInt_natCast, BitVec.toNat_ofNat, BitVec.toNat_ofNat, Nat.mod_eq_of_lt (by omega), Nat.mod_eq_of_lt (by omega)]
  have h := Nat.and_le_left (n := a) (m := b)
  rw [e, IntWalk.i64_in _ (by omega)]
theorem i64_or (a b : Nat) (ha : a < 9223372036854775808) (hb : b < 9223372036854775808) : Go.bits .or .i64 (a : Int) (b : Int) = ((a ||| b : Nat) : Int) := by
  show IntKind.i64.wrap ((BitVec.ofInt 64 (a : Int) ||| BitVec.ofInt 64 (b : Int)).toNat : Int) = _
  have e : (BitVec.ofInt 64 (a : Int) ||| BitVec.ofInt 64 (b : Int)).toNat = a ||| b := by
    rw [BitVec.toNat_or, BitVec.ofInt_natCast, BitVec.ofInt_natCast, BitVec.toNat_ofNat, BitVec.toNat_ofNat, Nat.mod_eq_of_lt (by omega), Nat.mod_eq_of_lt (by omega)]
  have h : a ||| b < 2 ^ 63 := Nat.or_lt_two_pow (by omega) (by omega)
  rw [e, IntWalk.i64_in _ (by omega)]
theorem and1 (v : Int) (h0 : 0 ≤ v) (h1 : v < 9223372036854775808) : Go.bits .and .i64 v 1 = v % 2 := by
  obtain ⟨n, rfl⟩ := Int.eq_ofNat_of_zero_le h0
  rw [show (1 : Int) = ((1 : Nat) : Int) from rfl, i64_and n 1 (by omega) (by decide), nat_mask1]
  omega
theorem pow_le7 (n : Nat) (h : n ≤ 7) : (2 : Int) ^ n ≤ 128 ∧ 0 < (2 : Int) ^ n := by
  have : n = 0 ∨ n = 1 ∨ n = 2 ∨ n = 3 ∨ n = 4 ∨ n = 5 ∨ n = 6 ∨ n = 7 := by omega
  rcases this with rfl | rfl | rfl | rfl | rfl | rfl | rfl | rfl <;> decide
theorem ptF_eq (p i v : Int) (hi : 0 ≤ i) (hi8 : i < 8) (hp : 0 ≤ p) (hp2 : p < 2 ^ i.toNat) (h0 : 0 ≤ v) (h1 : v < 9223372036854775808) : ptF p i v = p + v % 2 * 2 ^ i.toNat := by
  unfold ptF
  rw [and1 v h0 h1]
  obtain ⟨k, hk⟩ : ∃ k, i.toNat = k := ⟨_, rfl⟩
  rw [hk] at hp2 ⊢
  have hk7 : k ≤ 7 := by omega
  have hpw := pow_le7 k hk7
  obtain ⟨P, rfl⟩ := Int.eq_ofNat_of_zero_le hp
  have hb : v % 2 = 0 ∨ v % 2 = 1 := by omega
  have hP : P < 2 ^ k := by
    have : ((P : Nat) : Int) < ((2 ^ k : Nat) : Int) := by rw [Int.natCast_pow]; exact hp2
    omega
  have hpk : 2 ^ k ≤ 128 := by
    have : ((2 ^ k : Nat) : Int) ≤ 128 := by rw [Int.natCast_pow]; exact hpw.1
    omega
  rcases hb with h | h
  · rw [h]
    show Go.bits .or .u8 (P : Int) (0 % 256 * 2 ^ k % 256) = _
    rw [show (0 % 256 * 2 ^ k % 256 : Int) = ((0 : Nat) : Int) by simp, u8_or_nat P 0 (by omega) (by decide)]
    simp
  · rw [h]
    have e : (1 % 256 * 2 ^ k % 256 : Int) = ((2 ^ k : Nat) : Int) := by
      rw [Int.natCast_pow]
      show 1 * 2 ^ k % 256 = (2 : Int) ^ k
      rw [Int.one_mul]
      omega
    rw [e, u8_or_nat P (2 ^ k) (by omega) (by omega), Nat.or_comm, nat_join k (2 ^ k) P (by simp) hP]
    rw [Int.natCast_add, Int.natCast_pow]
    show (2 : Int) ^ k + P = P + 1 * 2 ^ k
    omega
def BW.N (s : BW) : Int := val s.b + 256 ^ s.b.length * s.p
def BW.T (s : BW) : Nat := 8 * s.b.length + s.i.toNat
structure BW.wf (s : BW) : Prop where
  bytes : ∀ c ∈ s.b, Byte c
  i0 : 0 ≤ s.i
  i8 : s.i < 8
  p0 : 0 ≤ s.p
  p1 : s.p < 2 ^ s.i.toNat
theorem wf0 : BW.wf ⟨[], 0, 0⟩ := ⟨by simp, by decide, by decide, by decide, by decide⟩
theorem N0 : BW.N ⟨[], 0, 0⟩ = 0 := by decide
theorem T0 : BW.T ⟨[], 0, 0⟩ = 0 := by decide
theorem bitW_wf {s : BW} (h : BW.wf s) (v : Int) (h0 : 0 ≤ v) (h1 : v < 9223372036854775808) : BW.wf (bitW s v) ∧ BW.N (bitW s v) = BW.N s + v % 2 * 2 ^ BW.T s ∧ BW.T (bitW s v) = BW.T s + 1 := by
  obtain ⟨b, p, i⟩ := s
  obtain ⟨hb, hi, hi8, hp, hp2⟩ := h
  simp only at hb hi hi8 hp hp2
  have e := ptF_eq p i v hi hi8 hp hp2 h0 h1
  obtain ⟨k, rfl⟩ := Int.eq_ofNat_of_zero_le hi
  have hpw := pow_le7 k (by omega)
  rw [show ((k : Nat) : Int).toNat = k from rfl] at hp2 e
  unfold bitW BW.N BW.T bitB bitP bitI
  simp only
  rw [e, show ((k : Nat) : Int).toNat = k from rfl]
  have hv : v % 2 = 0 ∨ v % 2 = 1 := by omega
  have hlt : 0 ≤ p + v % 2 * 2 ^ k ∧ p + v % 2 * 2 ^ k < 2 ^ (k + 1) := by
    rw [Int.pow_succ]
    rcases hv with h | h <;> rw [h] <;> omega
  by_cases h8 : (k : Int) + 1 = 8
  · obtain rfl : k = 7 := by omega
    rw [if_pos h8, if_pos h8, if_pos h8]
    refine ⟨⟨?_, by simp, by simp, by simp, by simp⟩, ?_, ?_⟩
    · intro c hc
      simp only [List.mem_append, List.mem_singleton] at hc
      rcases hc with hc | rfl
      · exact hb c hc
      · exact hlt
    · rw [val_append, val, val, pow256, Int.pow_add]
      simp only [Int.mul_zero, Int.add_zero]
      rw [Int.mul_add, Int.add_assoc, ← Int.mul_assoc (v % 2), Int.mul_comm (v % 2) (2 ^ (8 * b.length)), Int.mul_assoc]
    · simp
      omega
  · rw [if_neg h8, if_neg h8, if_neg h8]
    refine ⟨⟨hb, ?_, ?_, hlt.1, ?_⟩, ?_, ?_⟩
    · show (0 : Int) ≤ (k : Int) + 1
      omega
    · show (k : Int) + 1 < 8
      omega
    · show p + v % 2 * 2 ^ k < 2 ^ (((k : Int) + 1).toNat)
      rw [show ((k : Int) + 1).toNat = k + 1 by omega]
      exact hlt.2
    · rw [pow256, Int.pow_add, Int.mul_add, Int.add_assoc, ← Int.mul_assoc (v % 2), Int.mul_comm (v % 2) (2 ^ (8 * b.length)), Int.mul_assoc]
    · omega
theorem div_div (v : Int) (i : Nat) : v / 2 ^ i / 2 = v / 2 ^ (i + 1) := by
  rw [Int.ediv_ediv_of_nonneg (Int.le_of_lt (Int.pow_pos (by decide))), Int.pow_succ]
theorem mod_step (x : Int) (d : Nat) : x % 2 ^ (d + 1) = x % 2 + 2 * (x / 2 % 2 ^ d) := by
  have h2 : (0 : Int) < 2 ^ d := Int.pow_pos (by decide)
  have h1 := Int.emod_add_mul_ediv x 2
  have h3 := Int.emod_add_mul_ediv (x / 2) (2 ^ d)
  have h4 := Int.emod_nonneg (x / 2) (Int.ne_of_gt h2)
  have h5 := Int.emod_lt_of_pos (x / 2) h2
  have e : x = (x % 2 + 2 * (x / 2 % 2 ^ d)) + 2 ^ (d + 1) * (x / 2 / 2 ^ d) := by
    rw [Int.pow_succ, Int.mul_comm (2 ^ d) 2, Int.mul_assoc]
    omega
  have e2 : x % 2 ^ (d + 1) = (x % 2 + 2 * (x / 2 % 2 ^ d)) % 2 ^ (d + 1) := by
    conv => lhs; rw [e]
    rw [Int.add_mul_emod_self_left]
  rw [e2]
  refine Int.emod_eq_of_lt (by omega) ?_
  rw [Int.pow_succ]
  omega
theorem div_range (v : Int) (i : Nat) (h0 : 0 ≤ v) (h1 : v < 9223372036854775808) : 0 ≤ v / 2 ^ i ∧ v / 2 ^ i < 9223372036854775808 := by
  have hp : (0 : Int) < 2 ^ i := Int.pow_pos (by decide)
  refine ⟨Int.ediv_nonneg h0 (Int.le_of_lt hp), Int.lt_of_le_of_lt (Int.ediv_le_self _ h0) h1⟩
theorem step2 (a b c t : Int) : a + b * t + c * (t * 2) = a + (b + 2 * c) * t := by
  rw [Int.add_mul, Int.add_assoc, Int.mul_comm t 2, ← Int.mul_assoc, Int.mul_comm c 2]
theorem putW_wf (v : Int) (h0 : 0 ≤ v) (h1 : v < 9223372036854775808) : ∀ (d i : Nat) (s : BW), BW.wf s → BW.wf (putW d i s v) ∧ BW.N (putW d i s v) = BW.N s + v / 2 ^ i % 2 ^ d * 2 ^ BW.T s ∧ BW.T (putW d i s v) = BW.T s + d
  | 0, i, s, h => by
    rw [putW]
    refine ⟨h, ?_, rfl⟩
    rw [Int.pow_zero, Int.emod_one, Int.zero_mul, Int.add_zero]
  | d + 1, i, s, h => by
    have hr := div_range v i h0 h1
    obtain ⟨hw, hn, ht⟩ := bitW_wf h (v / 2 ^ i) hr.1 hr.2
    obtain ⟨hw2, hn2, ht2⟩ := putW_wf v h0 h1 d (i + 1) (bitW s (v / 2 ^ i)) hw
    rw [putW]
    refine ⟨hw2, ?_, by rw [ht2, ht]; omega⟩
    rw [hn2, hn, ht, mod_step, div_div, Int.pow_succ 2 (BW.T s)]
    exact step2 _ _ _ _
/-- The number whose bits are those of v below the d-th, the other way round. -/
def rev : Nat → Int → Int
  | 0, _ => 0
  | d + 1, v => v / 2 ^ d % 2 + 2 * rev d v
theorem codeW_wf (v : Int) (h0 : 0 ≤ v) (h1 : v < 9223372036854775808) : ∀ (d : Nat) (s : BW), BW.wf s → BW.wf (codeW d s v) ∧ BW.N (codeW d s v) = BW.N s + rev d v * 2 ^ BW.T s ∧ BW.T (codeW d s v) = BW.T s + d
  | 0, s, h => by
    rw [codeW]
    exact ⟨h, by rw [rev, Int.zero_mul, Int.add_zero], rfl⟩
  | d + 1, s, h => by
    have hr := div_range v d h0 h1
    obtain ⟨hw, hn, ht⟩ := bitW_wf h (v / 2 ^ d) hr.1 hr.2
    obtain ⟨hw2, hn2, ht2⟩ := codeW_wf v h0 h1 d (bitW s (v / 2 ^ d)) hw
    rw [codeW]
    refine ⟨hw2, ?_, by rw [ht2, ht]; omega⟩
    rw [hn2, hn, ht, rev, Int.pow_succ 2 (BW.T s)]
    exact step2 _ _ _ _
theorem bytesW_wf {s : BW} (h : BW.wf s) : (∀ c ∈ bytesW s, Byte c) ∧ val (bytesW s) = BW.N s ∧ (bytesW s).length = (BW.T s + 7) / 8 := by
  have hp := h.p1
  have h0 := h.p0
  have h1 := h.i0
  have h8 := h.i8
  unfold bytesW BW.N BW.T
  have hpw := pow_le7 s.i.toNat (by omega)
  split
  · refine ⟨?_, ?_, ?_⟩
    · intro c hc
      simp only [List.mem_append, List.mem_singleton] at hc
      rcases hc with hc | rfl
      · exact h.bytes c hc
      · unfold Byte; omega
    · rw [val_append, val, val, Int.mul_zero, Int.add_zero]
    · simp; omega
  · have hz : s.i.toNat = 0 := by omega
    rw [hz] at hp
    have hp0 : s.p = 0 := by have : (2 : Int) ^ 0 = 1 := rfl; omega
    refine ⟨h.bytes, ?_, by omega⟩
    rw [hp0, Int.mul_zero, Int.add_zero]
theorem bytes_eq {s t : BW} (hs : BW.wf s) (ht : BW.wf t) (hn : BW.N s = BW.N t) (hT : BW.T s = BW.T t) : bytesW s = bytesW t := by
  obtain ⟨a1, a2, a3⟩ := bytesW_wf hs
  obtain ⟨b1, b2, b3⟩ := bytesW_wf ht
  exact val_inj _ _ a1 b1 (by rw [a3, b3, hT]) (by rw [a2, b2, hn])
theorem len_le (s : BW) : s.b.length ≤ BW.T s := by unfold BW.T; omega
end Go.Proofs.Ytblneonbilbaiaa.Mat
