/- A decoder's step, and what it answers by codes: plain law. The conditions (lengths that are such; at most fourteen bits ahead) stand in each theorem. -/
import Derived.Test.YtachnclfgjdglaaOrd
import Derived.Test.YtachnclfgjdglaaStep
namespace Go.Proofs.Ytachnclfgjdglaa.Pure
open Go.RowKit Go.Proofs.Ytachnclfgjdglaa.PA Go.Proofs.YtachnclfgjdglaaW.PrintWords Go.Proofs.YtachnclfgjdglaaW.PrintLast Go.Proofs.YtachnclfgjdglaaW.PrintMore Go.Proofs.YtachnclfgjdglaaAid Go.Proofs.Ytachnclfgjdglaa.Coin Go.Proofs.Ytachnclfgjdglaa.Known Go.Proofs.Ytachnclfgjdglaa.Next
set_option linter.unusedVariables false
set_option linter.unusedSimpArgs false

/-- its code is what was read -/
def hit (l : List Int) (N : Nat) (C : Int) (j : Nat) : Prop := l.getD j 0 = (N : Int) ∧ code l j = C
/-- its code begins with what was read -/
def lng (l : List Int) (N : Nat) (C : Int) (j : Nat) : Prop := l.getD j 0 > (N : Int) ∧ code l j / 2 ^ (l.getD j 0 - (N : Int)).toNat = C
instance lngDec (l : List Int) (N : Nat) (C : Int) (j : Nat) : Decidable (lng l N C j) := inferInstanceAs (Decidable (_ ∧ _))
theorem cn_at (l : List Int) (n : Nat) : ∀ (m : Nat) (t : Int), 0 ≤ t → t < cn l n m → ∃ j, j < m ∧ l.getD j 0 = (n : Int) ∧ cn l n j = t
  | 0, t, h0, h1 => by
    have : cn l n 0 = 0 := rfl
    omega
  | m + 1, t, h0, h1 => by
    rw [cn] at h1
    by_cases h : t < cn l n m
    · obtain ⟨j, hj, e1, e2⟩ := cn_at l n m t h0 h
      exact ⟨j, by omega, e1, e2⟩
    · by_cases hm : l.getD m 0 = (n : Int)
      · rw [if_pos hm] at h1
        exact ⟨m, by omega, hm, by omega⟩
      · rw [if_neg hm] at h1
        omega
theorem sym_at (l : List Int) (n : Nat) (hn : 1 ≤ n) : ∀ m, ((symP l n m).length : Int) = cn l n m ∧ ∀ j, j < m → l.getD j 0 = (n : Int) → (symP l n m)[(cn l n j).toNat]? = some (j : Int)
  | 0 => ⟨rfl, fun j hj => absurd hj (by omega)⟩
  | m + 1 => by
    obtain ⟨i1, i2⟩ := sym_at l n hn m
    have hc := cn_small l n m
    rw [symP, cn]
    by_cases h : l.getD m 0 = (n : Int)
    · rw [if_pos ⟨by omega, h⟩, if_pos h]
      refine ⟨by rw [List.length_append, List.length_singleton]; omega, fun j hj e => ?_⟩
      by_cases hjm : j = m
      · subst hjm
        rw [List.getElem?_append_right (by omega), show (cn l n j).toNat - (symP l n j).length = 0 by omega]
        rfl
      · have := i2 j (by omega) e
        rw [List.getElem?_append_left (List.getElem?_eq_some_iff.1 this).1]
        exact this
    · rw [if_neg (fun hh => h hh.2), if_neg h]
      refine ⟨by omega, fun j hj e => ?_⟩
      by_cases hjm : j = m
      · subst hjm
        exact absurd e h
      · exact i2 j (by omega) e
theorem cn_lt (l : List Int) (n j m : Nat) (hj : j < m) (h : l.getD j 0 = (n : Int)) : cn l n j < cn l n m := by
  have h1 : cn l n (j + 1) = cn l n j + 1 := by rw [cn, if_pos h]
  have h2 := cn_le l n (show j + 1 ≤ m from hj)
  omega
theorem code_at (l : List Int) (n j : Nat) (h : l.getD j 0 = (n : Int)) : code l j = st l n + cn l n j := by
  unfold code
  rw [h, Int.toNat_natCast]
/-- the decoder's tables -/
def Fde (l : List Int) : List Int := firstP (manyP l l.length) 15
def Sde (l : List Int) (k : Nat) : List Int := symP l k l.length
theorem Fde_at (l : List Int) (hl : isL l = true) (n : Nat) (h1 : 1 ≤ n) (h2 : n ≤ 16) : (Fde l).getD n 0 = st l n := first_get l hl 15 (Nat.le_refl _) n h1 h2
theorem firstP_0 (m : List Int) : ∀ j, j ≤ 15 → (firstP m j).getD 0 0 = 0
  | 0, _ => by
    show (List.replicate 17 (0 : Int)).getD 0 0 = 0
    rfl
  | j + 1, hj => by
    rw [firstP, getD_set _ _ _ _ (by rw [firstP_len]; omega), if_neg (by omega)]
    exact firstP_0 m j (by omega)
theorem Fde_small (l : List Int) (hl : isL l = true) (k : Nat) : 0 ≤ (Fde l).getD k 0 ∧ (Fde l).getD k 0 ≤ 1099511627776 := by
  have hn := isL_len hl
  rcases Nat.eq_zero_or_pos k with rfl | h0
  · rw [Fde, firstP_0 _ _ (Nat.le_refl _)]
    omega
  · by_cases hk : k ≤ 16
    · rw [Fde_at l hl k h0 hk]
      have := st_le l hn k hk
      omega
    · rw [List.getD_eq_getElem?_getD, List.getElem?_eq_none (by rw [Fde, firstP_len]; omega)]
      exact ⟨by decide, by decide⟩
theorem Sde_len (l : List Int) (k : Nat) (hk : 1 ≤ k) : ((Sde l k).length : Int) = cn l k l.length := (sym_at l k hk l.length).1
theorem moreP_iff (F : List Int) (c : Nat → Nat) (co le : Int) : ∀ n k, moreP F c co le n k = true ↔ ∃ q, k ≤ q ∧ q < k + n ∧ moreAt F c co le q = true
  | 0, k => ⟨fun h => (by cases h), fun ⟨q, h1, h2, _⟩ => (by omega)⟩
  | n + 1, k => by
    rw [moreP, Bool.or_eq_true, moreP_iff F c co le n (k + 1)]
    constructor
    · rintro (h | ⟨q, h1, h2, h3⟩)
      · exact ⟨k, Nat.le_refl _, by omega, h⟩
      · exact ⟨q, by omega, by omega, h3⟩
    · rintro ⟨q, h1, h2, h3⟩
      by_cases hq : q = k
      · exact .inl (hq ▸ h3)
      · exact .inr ⟨q, by omega, by omega, h3⟩
theorem ediv_eq {x c p : Int} (hp : 0 < p) : x / p = c ↔ c * p ≤ x ∧ x < c * p + p := by
  constructor
  · rintro rfl
    have h1 := Int.ediv_mul_le x (Int.ne_of_gt hp)
    have h2 := Int.lt_ediv_add_one_mul_self x hp
    rw [Int.add_mul, Int.one_mul] at h2
    exact ⟨h1, h2⟩
  · rintro ⟨h1, h2⟩
    have a := (Int.le_ediv_iff_mul_le hp).2 h1
    have b : x / p < c + 1 := Int.ediv_lt_of_lt_mul hp (by rw [Int.add_mul, Int.one_mul]; exact h2)
    omega
theorem more_iff (l : List Int) (hl : isL l = true) (N : Nat) (hN : 1 ≤ N) (hN2 : N ≤ 15) (C : Int) : moreP (Fde l) (fun k => (Sde l k).length) C (N : Int) (15 - N) (N + 1) = true ↔ ∃ j, j < l.length ∧ lng l N C j := by
  rw [moreP_iff]
  constructor
  · rintro ⟨q, h1, h2, h3⟩
    have hq : q ≤ 15 := by omega
    unfold moreAt at h3
    rw [Bool.and_eq_true, Bool.and_eq_true, decide_eq_true_eq, decide_eq_true_eq, decide_eq_true_eq, Fde_at l hl q (by omega) (by omega), Sde_len l q (by omega), Int.toNat_natCast] at h3
    obtain ⟨a1, a2, a3⟩ := h3
    have hp : (0 : Int) < 2 ^ (q - N) := Int.pow_pos (by decide)
    generalize hP : (2 : Int) ^ (q - N) = P at hp a2 a3
    obtain ⟨j, hj, e1, e2⟩ := cn_at l q l.length (max 0 (C * P - st l q)) (by omega) (by omega)
    refine ⟨j, hj, by omega, ?_⟩
    rw [code_at l q j e1, e1, e2, show ((q : Int) - (N : Int)).toNat = q - N by omega, hP, ediv_eq hp]
    omega
  · rintro ⟨j, hj, h1, h2⟩
    have ha := isL_at hl j hj
    obtain ⟨q, hq⟩ := Int.eq_ofNat_of_zero_le ha.1
    refine ⟨q, by omega, by omega, ?_⟩
    rw [code_at l q j hq, hq, show ((q : Int) - (N : Int)).toNat = q - N by omega] at h2
    have hp : (0 : Int) < 2 ^ (q - N) := Int.pow_pos (by decide)
    have hc := cn_small l q j
    have hlt := cn_lt l q j l.length hj hq
    unfold moreAt
    rw [Bool.and_eq_true, Bool.and_eq_true, decide_eq_true_eq, decide_eq_true_eq, decide_eq_true_eq, Fde_at l hl q (by omega) (by omega), Sde_len l q (by omega), Int.toNat_natCast]
    generalize (2 : Int) ^ (q - N) = P at hp h2
    rw [ediv_eq hp] at h2
    omega
/-! ### what a step answers -/
def nx (l : List Int) (co le bit : Int) : Int × Int × Int := nextP (Fde l) (Sde l) co le bit
theorem nx_hit (l : List Int) (hl : isL l = true) (co bit : Int) (n : Nat) (hn : n ≤ 14) (j : Nat) (hj : j < l.length) (h : hit l (n + 1) (coN co bit) j) : nx l co (n : Int) bit = ((j : Int), 0, 0) := by
  have hc := cn_small l (n + 1) j
  have hlt := cn_lt l (n + 1) j l.length hj h.1
  have hs := Sde_len l (n + 1) (by omega)
  have h2 := h.2
  rw [code_at l (n + 1) j h.1] at h2
  have hF := Fde_at l hl (n + 1) (by omega) (by omega)
  unfold nx nextP
  rw [Int.toNat_natCast, hF, ← h2, if_pos ⟨by omega, by omega⟩, show st l (n + 1) + cn l (n + 1) j - st l (n + 1) = cn l (n + 1) j by omega]
  rw [List.getD_eq_getElem?_getD, Sde, (sym_at l (n + 1) (by omega) l.length).2 j hj h.1]
  rfl
theorem nx_no (l : List Int) (hl : isL l = true) (co bit : Int) (n : Nat) (hn : n ≤ 14) (h : ∀ j, j < l.length → ¬ hit l (n + 1) (coN co bit) j) :
    ((∃ j, j < l.length ∧ lng l (n + 1) (coN co bit) j) → nx l co (n : Int) bit = (-1, coN co bit, (n : Int) + 1)) ∧ ((¬ ∃ j, j < l.length ∧ lng l (n + 1) (coN co bit) j) → nx l co (n : Int) bit = (-2, 0, 0)) := by
  have hs := Sde_len l (n + 1) (by omega)
  have hF := Fde_at l hl (n + 1) (by omega) (by omega)
  have hno : ¬ (0 ≤ coN co bit - (Fde l).getD ((n : Int).toNat + 1) 0 ∧ coN co bit - (Fde l).getD ((n : Int).toNat + 1) 0 < ((Sde l ((n : Int).toNat + 1)).length : Int)) := by
    rw [Int.toNat_natCast, hF, hs]
    rintro ⟨h1, h2⟩
    obtain ⟨j, hj, e1, e2⟩ := cn_at l (n + 1) l.length _ h1 h2
    exact h j hj ⟨e1, by rw [code_at l (n + 1) j e1, e2]; omega⟩
  have hm := more_iff l hl (n + 1) (by omega) (by omega) (coN co bit)
  unfold nx nextP
  rw [if_neg hno, show ((n : Int) + 1).toNat = n + 1 by omega]
  rw [show (((n + 1 : Nat)) : Int) = (n : Int) + 1 by omega] at hm
  constructor
  · intro hh
    rw [if_pos (hm.2 hh)]
  · intro hh
    rw [if_neg (fun e => hh (hm.1 e))]
theorem coN_small (co bit : Int) (n : Nat) (h0 : 0 ≤ co) (h1 : co < 2 ^ n) : 0 ≤ coN co bit ∧ coN co bit < 2 ^ (n + 1) := by
  unfold coN
  rw [Int.pow_succ]
  split <;> omega
theorem nx_inv (l : List Int) (hl : isL l = true) (co bit : Int) (n : Nat) (hn : n ≤ 14) (h0 : 0 ≤ co) (h1 : co < 2 ^ n) : ∃ m : Nat, (nx l co (n : Int) bit).2.2 = (m : Int) ∧ m ≤ 14 ∧ 0 ≤ (nx l co (n : Int) bit).2.1 ∧ (nx l co (n : Int) bit).2.1 < 2 ^ m := by
  by_cases h : ∃ j, j < l.length ∧ hit l (n + 1) (coN co bit) j
  · obtain ⟨j, hj, hh⟩ := h
    rw [nx_hit l hl co bit n hn j hj hh]
    exact ⟨0, rfl, by omega, by simp, by simp⟩
  · obtain ⟨a, b⟩ := nx_no l hl co bit n hn (fun j hj hh => h ⟨j, hj, hh⟩)
    by_cases hg : ∃ j, j < l.length ∧ lng l (n + 1) (coN co bit) j
    · rw [a hg]
      obtain ⟨j, hj, hg⟩ := hg
      have := hg.1
      have ha := isL_at hl j hj
      have hc := coN_small co bit n h0 h1
      exact ⟨n + 1, by simp, by omega, hc.1, hc.2⟩
    · rw [b hg]
      exact ⟨0, rfl, by omega, by simp, by simp⟩
end Go.Proofs.Ytachnclfgjdglaa.Pure
