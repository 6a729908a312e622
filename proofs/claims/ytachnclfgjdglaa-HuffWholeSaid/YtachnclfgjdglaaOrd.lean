/- Codes of unlike lengths: shorter ones lie ahead, none begins with another. Plain law; the conditions stand in each theorem. -/
import Derived.Test.YtachnclfgjdglaaTab
namespace Go.Proofs.Ytachnclfgjdglaa.Pure
open Go.RowKit Go.Proofs.Ytachnclfgjdglaa.PA Go.Proofs.YtachnclfgjdglaaW.PrintWords Go.Proofs.YtachnclfgjdglaaW.PrintLast Go.Proofs.YtachnclfgjdglaaW.PrintMore Go.Proofs.YtachnclfgjdglaaAid Go.Proofs.Ytachnclfgjdglaa.Coin Go.Proofs.Ytachnclfgjdglaa.Known Go.Proofs.Ytachnclfgjdglaa.Next
set_option linter.unusedVariables false
set_option linter.unusedSimpArgs false

theorem cn_mono (l : List Int) (n : Nat) (i : Nat) : ∀ d, cn l n i ≤ cn l n (i + d)
  | 0 => Int.le_refl _
  | d + 1 => by
    have := cn_mono l n i d
    rw [← Nat.add_assoc, cn]
    split <;> omega
theorem cn_le (l : List Int) (n : Nat) {i k : Nat} (h : i ≤ k) : cn l n i ≤ cn l n k := by
  obtain ⟨d, rfl⟩ := Nat.exists_eq_add_of_le h
  exact cn_mono l n i d
theorem st_up (l : List Int) (n : Nat) (hn : 1 ≤ n) : ∀ d, (st l n + cn l n l.length) * 2 ^ (d + 1) ≤ st l (n + (d + 1))
  | 0 => by
    rw [show st l (n + (0 + 1)) = (st l n + cn l n l.length) * 2 by rw [st, if_neg (by omega)]]
    exact Int.le_refl _
  | d + 1 => by
    have ih := st_up l n hn d
    have hc := cn_small l (n + (d + 1)) l.length
    rw [show st l (n + (d + 1 + 1)) = (st l (n + (d + 1)) + cn l (n + (d + 1)) l.length) * 2 by rw [← Nat.add_assoc, st, if_neg (by omega)]]
    rw [Int.pow_succ, ← Int.mul_assoc]
    omega
/-- the one that comes ahead ends ahead of the other -/
theorem ahead (l : List Int) (i k : Nat) (hi : i < l.length) (h0 : 0 < l.getD i 0) (h : l.getD i 0 < l.getD k 0 ∨ (l.getD i 0 = l.getD k 0 ∧ i < k)) : (code l i + 1) * 2 ^ (l.getD k 0 - l.getD i 0).toNat ≤ code l k := by
  obtain ⟨n, hn⟩ := Int.eq_ofNat_of_zero_le (by omega : 0 ≤ l.getD i 0)
  have e1 : cn l n (i + 1) = cn l n i + 1 := by rw [cn, if_pos hn]
  have ci : code l i = st l n + cn l n i := by unfold code; rw [hn, Int.toNat_natCast]
  rcases h with h | ⟨h, hik⟩
  · obtain ⟨m, hm⟩ := Int.eq_ofNat_of_zero_le (by omega : 0 ≤ l.getD k 0)
    have ck : code l k = st l m + cn l m k := by unfold code; rw [hm, Int.toNat_natCast]
    obtain ⟨d, hd⟩ : ∃ d, m = n + (d + 1) := ⟨m - n - 1, by omega⟩
    have h1 := st_up l n (by omega) d
    have h2 := cn_le l n (show i + 1 ≤ l.length by omega)
    have h3 := cn_small l m k
    rw [hn, hm, show ((m : Int) - (n : Int)).toNat = d + 1 by omega, ci, ck, hd]
    have h4 : (st l n + cn l n i + 1) * 2 ^ (d + 1) ≤ (st l n + cn l n l.length) * 2 ^ (d + 1) := Int.mul_le_mul_of_nonneg_right (by omega) (Int.le_of_lt (Int.pow_pos (by decide)))
    rw [hd] at h3
    omega
  · have ck : code l k = st l n + cn l n k := by unfold code; rw [← h, hn, Int.toNat_natCast]
    have h2 := cn_le l n (show i + 1 ≤ k by omega)
    rw [← h, show (l.getD i 0 - l.getD i 0).toNat = 0 by omega, ci, ck]
    omega
theorem code_small (l : List Int) (hl : isL l = true) (i : Nat) (hi : i < l.length) : 0 ≤ code l i ∧ code l i ≤ 60000000 := by
  have ha := isL_at hl i hi
  have hn := isL_len hl
  have hs := st_le l hn (l.getD i 0).toNat (by omega)
  have hc := cn_small l (l.getD i 0).toNat i
  unfold code
  omega
theorem out_at (l : List Int) (i : Nat) (hi : i < l.length) (h0 : 0 < l.getD i 0) : rd (outL l) (i : Int) = code l i := by
  show (outL l).getD i 0 = _
  unfold outL
  rw [List.getD_eq_getElem?_getD, map_get _ _ _ hi, if_pos h0]
  rfl
theorem outL_len (l : List Int) : (outL l).length = l.length := by unfold outL; rw [List.length_map, List.length_range]
theorem shl_val (c x : Int) (hc : 0 ≤ c) (hc2 : c ≤ 60000000) (h0 : 0 < x) (h1 : x ≤ 15) : shl .i64 c (IntKind.u64.wrap (wrap64 (15 - x))) = c * 2 ^ (15 - x).toNat := by
  rw [(shl_pow x h0 h1).1]
  unfold shl
  have hp := pow_le x h0 h1
  rw [show min (15 - x).toNat IntKind.i64.bits = (15 - x).toNat by show min (15 - x).toNat 64 = _; omega, i64_w]
  have h2 : c * 2 ^ (15 - x).toNat ≤ 60000000 * 16384 := Int.mul_le_mul hc2 hp.2 (by omega) (by omega)
  have h3 : 0 ≤ c * 2 ^ (15 - x).toNat := Int.mul_nonneg hc (by omega)
  exact w64 (by omega) (by omega)
theorem dif_val (x y : Int) (h0 : 0 < x) (h1 : x ≤ y) (h2 : y ≤ 15) : IntKind.u64.wrap (wrap64 (y - x)) = y - x := by
  obtain ⟨n, hn⟩ := Int.eq_ofNat_of_zero_le (by omega : 0 ≤ y - x)
  rw [hn]
  have key : ∀ n : Fin 16, IntKind.u64.wrap (wrap64 (n.val : Int)) = (n.val : Int) := by decide +kernel
  exact key ⟨n, by omega⟩
theorem shr_val (c y : Int) (h0 : 0 ≤ y) (h1 : y ≤ 15) : shr .i64 c y = c / 2 ^ y.toNat := by
  unfold shr
  rw [show min y.toNat IntKind.i64.bits = y.toNat by show min y.toNat 64 = _; omega]
/-- the two things that the law asks of two symbols -/
theorem below_ok (l : List Int) (hl : isL l = true) (i k : Nat) (hi : i < l.length) (hk : k < l.length) (h0 : 0 < l.getD i 0) (h : l.getD i 0 < l.getD k 0 ∨ (l.getD i 0 = l.getD k 0 ∧ i < k)) :
    code l i * 2 ^ (15 - l.getD i 0).toNat < code l k * 2 ^ (15 - l.getD k 0).toNat := by
  have ha := isL_at hl i hi
  have hb := isL_at hl k hk
  have hh := ahead l i k hi h0 h
  have hp : (2 : Int) ^ (15 - l.getD i 0).toNat = 2 ^ (l.getD k 0 - l.getD i 0).toNat * 2 ^ (15 - l.getD k 0).toNat := by
    rw [← Int.pow_add]
    congr 1
    omega
  have q0 : (0 : Int) < 2 ^ (15 - l.getD k 0).toNat := Int.pow_pos (by decide)
  have q1 : (0 : Int) < 2 ^ (15 - l.getD i 0).toNat := Int.pow_pos (by decide)
  have h1 : (code l i + 1) * 2 ^ (l.getD k 0 - l.getD i 0).toNat * 2 ^ (15 - l.getD k 0).toNat ≤ code l k * 2 ^ (15 - l.getD k 0).toNat := Int.mul_le_mul_of_nonneg_right hh (Int.le_of_lt q0)
  rw [Int.mul_assoc, ← hp, Int.add_mul, Int.one_mul] at h1
  omega
theorem starts_ok (l : List Int) (hl : isL l = true) (i k : Nat) (hi : i < l.length) (hk : k < l.length) (h0 : 0 < l.getD i 0) (hne : i ≠ k) (h : l.getD i 0 ≤ l.getD k 0) :
    code l k / 2 ^ (l.getD k 0 - l.getD i 0).toNat ≠ code l i := by
  by_cases hb : l.getD i 0 < l.getD k 0 ∨ (l.getD i 0 = l.getD k 0 ∧ i < k)
  · have hh := ahead l i k hi h0 hb
    have q : (0 : Int) < 2 ^ (l.getD k 0 - l.getD i 0).toNat := Int.pow_pos (by decide)
    have := (Int.le_ediv_iff_mul_le q).2 hh
    omega
  · have e : l.getD i 0 = l.getD k 0 := by omega
    have hh := ahead l k i hk (by omega) (.inr ⟨e.symm, by omega⟩)
    rw [e, show (l.getD k 0 - l.getD k 0).toNat = 0 by omega] at hh ⊢
    simp at hh ⊢
    omega
end Go.Proofs.Ytachnclfgjdglaa.Pure
