/- A code, bit by bit, is read as its symbol: plain law, and the step of a decoder by it. The conditions (lengths that are such, and full or fewer) stand in each theorem. -/
import Derived.Test.YtachnclfgjdglaaDecL
namespace Go.Proofs.Ytachnclfgjdglaa.PA
open Go.RowKit Go.Proofs.YtachnclfgjdglaaW.PrintWords Go.Proofs.YtachnclfgjdglaaW.PrintLast Go.Proofs.YtachnclfgjdglaaW.PrintMore Go.Proofs.YtachnclfgjdglaaAid Go.Proofs.Ytachnclfgjdglaa.Coin Go.Proofs.Ytachnclfgjdglaa.Known Go.Proofs.Ytachnclfgjdglaa.Next Go.Proofs.Ytachnclfgjdglaa.Pure
set_option linter.unusedVariables false
set_option linter.unusedSimpArgs false

/-! ### how much codes fill -/
def upTo (l : List Int) (k : Nat) : Nat → Int
  | 0 => 0
  | n + 1 => upTo l k n * 2 + cn l (n + 1) k
theorem upTo_st (l : List Int) : ∀ n, st l (n + 2) = upTo l l.length (n + 1) * 2
  | 0 => by
    rw [show st l 2 = (st l 1 + cn l 1 l.length) * 2 from by rw [st, if_neg (by omega)], show st l 1 = 0 from by rw [st, if_pos rfl], show upTo l l.length (0 + 1) = 0 * 2 + cn l 1 l.length from rfl]
    omega
  | n + 1 => by
    rw [show st l (n + 1 + 2) = (st l (n + 2) + cn l (n + 2) l.length) * 2 from by rw [st, if_neg (by omega)], upTo_st l n]
    rfl
theorem upTo_succ (l : List Int) (k : Nat) (x : Nat) (hx : l.getD k 0 = (x : Int)) (h1 : 1 ≤ x) : ∀ n, upTo l (k + 1) n = upTo l k n + if x ≤ n then 2 ^ (n - x) else 0
  | 0 => by
    rw [if_neg (by omega)]
    rfl
  | n + 1 => by
    rw [upTo, upTo, upTo_succ l k x hx h1 n, cn, hx]
    by_cases h : x ≤ n
    · rw [if_pos h, if_neg (by omega), if_pos (by omega), show n + 1 - x = (n - x) + 1 by omega, Int.pow_succ]
      omega
    · by_cases h2 : x = n + 1
      · rw [if_neg h, if_pos (by omega), if_pos (by omega), show n + 1 - x = 0 by omega]
        omega
      · rw [if_neg h, if_neg (by omega), if_neg (by omega)]
        omega
theorem upTo_skip (l : List Int) (k : Nat) (hx : l.getD k 0 ≤ 0) : ∀ n, upTo l (k + 1) n = upTo l k n
  | 0 => rfl
  | n + 1 => by
    rw [upTo, upTo, upTo_skip l k hx n, cn, if_neg (by omega)]
    omega
theorem fill_upTo (l : List Int) (hl : isL l = true) : ∀ k, k ≤ l.length → (fillP l k).1 = upTo l k 15
  | 0, _ => by
    show 0 = upTo l 0 15
    have : ∀ n, upTo l 0 n = 0 := fun n => by
      induction n with
      | zero => rfl
      | succ n ih => rw [upTo, ih]; rfl
    rw [this]
  | k + 1, hk => by
    have ha := isL_at hl k (by omega)
    have ih := fill_upTo l hl k (by omega)
    rw [fillP]
    by_cases hx : l.getD k 0 > 0
    · rw [if_pos hx]
      obtain ⟨x, hxx⟩ := Int.eq_ofNat_of_zero_le ha.1
      rw [upTo_succ l k x hxx (by omega), if_pos (by omega), ← ih, hxx, show ((15 : Int) - (x : Int)).toNat = 15 - x by omega]
    · rw [if_neg hx, upTo_skip l k (by omega)]
      exact ih
theorem code_lt (l : List Int) (hl : isL l = true) (hf : (fillP l l.length).1 ≤ 32768) (k : Nat) (hk : k < l.length) (h0 : 0 < l.getD k 0) : code l k < 2 ^ (l.getD k 0).toNat := by
  have ha := isL_at hl k hk
  obtain ⟨n, hn⟩ := Int.eq_ofNat_of_zero_le ha.1
  have hlt := cn_lt l n k l.length hk hn
  have hc := code_at l n k hn
  obtain ⟨d, hd⟩ : ∃ d, 16 = n + (d + 1) := ⟨15 - n, by omega⟩
  have hup := st_up l n (by omega) d
  rw [← hd, show (16 : Nat) = 14 + 2 from rfl, upTo_st l 14, ← fill_upTo l hl l.length (Nat.le_refl _)] at hup
  have hp : (2 : Int) ^ n * 2 ^ (d + 1) = 65536 := by
    rw [← Int.pow_add, ← hd]
    rfl
  have hpos : (0 : Int) < 2 ^ (d + 1) := Int.pow_pos (by decide)
  have h1 : (code l k + 1) * 2 ^ (d + 1) ≤ 2 ^ n * 2 ^ (d + 1) := by
    have : (code l k + 1) * 2 ^ (d + 1) ≤ (st l n + cn l n l.length) * 2 ^ (d + 1) := Int.mul_le_mul_of_nonneg_right (by omega) (Int.le_of_lt hpos)
    omega
  have := Int.le_of_mul_le_mul_right h1 hpos
  rw [hn, Int.toNat_natCast]
  omega
theorem mayD_fill {l : List Int} (hl : isL l = true) (hm : mayD l = true) : (fillP l l.length).1 ≤ 32768 := by
  obtain ⟨i1, i2⟩ := only_fill hl l.length (Nat.le_refl _)
  have hs := fillP_small hl l.length (Nat.le_refl _)
  unfold mayD at hm
  simp only [Bool.or_eq_true, Bool.and_eq_true, decide_eq_true_eq] at hm
  rcases hm with h | h | h
  · omega
  · have := i1 (by omega)
    omega
  · omega
/-! ### bit by bit -/
/-- what was read of a symbol's code, with so many bits to come -/
def stt (l : List Int) (k : Nat) (r : Nat) : Int × Nat := if r = 0 then (0, 0) else (code l k / 2 ^ r, (l.getD k 0).toNat - r)
theorem stt_full (l : List Int) (hl : isL l = true) (hf : (fillP l l.length).1 ≤ 32768) (k : Nat) (hk : k < l.length) : stt l k (l.getD k 0).toNat = (0, 0) := by
  unfold stt
  split
  · rfl
  · have h0 : 0 < l.getD k 0 := by omega
    rw [Int.ediv_eq_zero_of_lt (code_small l hl k hk).1 (code_lt l hl hf k hk h0), Nat.sub_self]
theorem half (x : Int) (m : Nat) (bit : Int) (hb : bit = x / 2 ^ m % 2) : coN (x / 2 ^ (m + 1)) bit = x / 2 ^ m := by
  have h : x / 2 ^ (m + 1) = x / 2 ^ m / 2 := by
    rw [Int.pow_succ, Int.ediv_ediv_of_nonneg (Int.le_of_lt (Int.pow_pos (by decide)))]
  unfold coN
  rw [h, hb]
  split <;> omega
theorem back_step (l : List Int) (hl : isL l = true) (k : Nat) (hk : k < l.length) (m : Nat) (hm : m + 1 ≤ (l.getD k 0).toNat) :
    nx l (stt l k (m + 1)).1 ((stt l k (m + 1)).2 : Int) (code l k / 2 ^ m % 2) = ((if m = 0 then (k : Int) else -1), (stt l k m).1, ((stt l k m).2 : Int)) := by
  have ha := isL_at hl k hk
  obtain ⟨L, hL⟩ := Int.eq_ofNat_of_zero_le ha.1
  have hLt : (l.getD k 0).toNat = L := by omega
  rw [hLt] at hm
  have e1 : stt l k (m + 1) = (code l k / 2 ^ (m + 1), L - (m + 1)) := by
    unfold stt
    rw [if_neg (by omega), hLt]
  rw [e1]
  have hc := half (code l k) m (code l k / 2 ^ m % 2) rfl
  obtain ⟨n, hn⟩ : ∃ n, n = L - (m + 1) := ⟨_, rfl⟩
  simp only
  rw [← hn]
  by_cases h0 : m = 0
  · subst h0
    rw [if_pos rfl, nx_hit l hl _ _ n (by omega) k hk ⟨by omega, by rw [hc]; simp⟩]
    rfl
  · rw [if_neg h0]
    have hno : ∀ j, j < l.length → ¬ hit l (n + 1) (coN (code l k / 2 ^ (m + 1)) (code l k / 2 ^ m % 2)) j := fun j hj hh => by
      rw [hc] at hh
      have h1 := hh.1
      have := starts_ok l hl j k hj hk (by omega) (fun e => by subst e; omega) (by omega)
      rw [h1, hL, show ((L : Int) - ((n + 1 : Nat) : Int)).toNat = m by omega] at this
      exact this hh.2.symm
    rw [(nx_no l hl _ _ n (by omega) hno).1 ⟨k, hk, by omega, by rw [hc, hL, show ((L : Int) - ((n + 1 : Nat) : Int)).toNat = m by omega]⟩, hc]
    unfold stt
    rw [if_neg h0, hLt]
    simp only [Prod.mk.injEq, true_and]
    omega
theorem backC (w : World) (base g : Nat) (l : List Int) (Y : List Yr) (hl : isL l = true) (k : Nat) (hk : k < l.length) (m : Nat) (hm : m + 1 ≤ (l.getD k 0).toNat) (h : DecL w base g l Y (stt l k (m + 1)).1 (stt l k (m + 1)).2) (bit : Int) (hb : bit = code l k / 2 ^ m % 2) :
    Calls Try.prog 25 #[.pointer (some ⟨g, 0, none⟩), .int .i64 bit] w fun e w' => e = .returned (.int .i64 (if m = 0 then (k : Int) else -1)) ∧ DecL w' base g l Y (stt l k m).1 (stt l k m).2 ∧ To base w w' g := by
  subst hb
  have hs := back_step l hl k hk m hm
  refine (nextL w base g l Y _ (code l k / 2 ^ m % 2) _ hl h).mono ?_
  rw [hs]
  rintro e w' ⟨q, he, hq, hd, ht⟩
  simp only at hq hd
  obtain rfl : q = (stt l k m).2 := by omega
  exact ⟨he, hd, ht⟩
/-! ### numbers bit by bit -/
theorem and1 (x : Int) (h0 : 0 ≤ x) (h1 : x ≤ 4611686018427387904) : Go.bits .and .i64 x 1 = x % 2 := by
  obtain ⟨n, rfl⟩ := Int.eq_ofNat_of_zero_le h0
  show IntKind.i64.wrap ((BitVec.ofInt 64 (n : Int) &&& BitVec.ofInt 64 1).toNat : Int) = _
  have e : (BitVec.ofInt 64 (n : Int) &&& BitVec.ofInt 64 1).toNat = n % 2 := by
    rw [BitVec.toNat_and]
    have e1 : (BitVec.ofInt 64 (n : Int)).toNat = n := by
      rw [BitVec.toNat_ofInt]
      omega
    have e2 : (BitVec.ofInt 64 1).toNat = 1 := by decide
    rw [e1, e2, Nat.and_one_is_mod]
  rw [e, IntWalk.i64_in _ (by omega)]
  omega
theorem and65535 (x : Int) : 0 ≤ Go.bits .and .i64 x 65535 ∧ Go.bits .and .i64 x 65535 ≤ 65535 := by
  show 0 ≤ IntKind.i64.wrap ((BitVec.ofInt 64 x &&& BitVec.ofInt 64 65535).toNat : Int) ∧ IntKind.i64.wrap ((BitVec.ofInt 64 x &&& BitVec.ofInt 64 65535).toNat : Int) ≤ 65535
  have h : (BitVec.ofInt 64 x &&& BitVec.ofInt 64 65535).toNat ≤ 65535 := by
    rw [BitVec.toNat_and]
    exact Nat.le_trans Nat.and_le_right (by decide)
  rw [IntWalk.i64_in _ (by omega)]
  omega
end Go.Proofs.Ytachnclfgjdglaa.PA
