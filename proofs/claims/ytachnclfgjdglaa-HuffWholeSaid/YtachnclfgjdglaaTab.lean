/- Codes by lengths: the tables that the program lays. Plain law; the conditions stand in each theorem. -/
import Derived.Test.YtachnclfgjdglaaKnown
namespace Go.Proofs.Ytachnclfgjdglaa.Next
open Go.RowKit Go.Proofs.Ytachnclfgjdglaa.PA Go.Proofs.YtachnclfgjdglaaW.PrintWords Go.Proofs.YtachnclfgjdglaaW.PrintLast Go.Proofs.YtachnclfgjdglaaW.PrintMore Go.Proofs.YtachnclfgjdglaaAid Go.Proofs.Ytachnclfgjdglaa.Coin Go.Proofs.Ytachnclfgjdglaa.Known
set_option linter.unusedVariables false
set_option linter.unusedSimpArgs false

theorem w64 {x : Int} (h0 : -9000000000000000000 ≤ x) (h1 : x ≤ 9000000000000000000) : wrap64 x = x := by unfold wrap64; omega
theorem rd_at (l : List Int) (i : Nat) : rd l (i : Int) = l.getD i 0 := rfl
theorem getD_set (l : List Int) (i j : Nat) (x : Int) (hi : i < l.length) : (l.set i x).getD j 0 = if j = i then x else l.getD j 0 := by
  rw [List.getD_eq_getElem?_getD, List.getD_eq_getElem?_getD, List.getElem?_set]
  by_cases h : i = j
  · subst h
    rw [if_pos rfl, if_pos hi, if_pos rfl]
    rfl
  · rw [if_neg h, if_neg (fun e => h e.symm)]
theorem shl_pow (x : Int) (h0 : 0 < x) (h1 : x ≤ 15) : IntKind.u64.wrap (wrap64 (15 - x)) = 15 - x ∧ shl .i64 1 (15 - x) = 2 ^ (15 - x).toNat := by
  obtain ⟨n, rfl⟩ := Int.eq_ofNat_of_zero_le (by omega : 0 ≤ x)
  have key : ∀ n : Fin 16, 0 < n.val → IntKind.u64.wrap (wrap64 (15 - (n.val : Int))) = 15 - (n.val : Int) ∧ shl .i64 1 (15 - (n.val : Int)) = 2 ^ (15 - (n.val : Int)).toNat := by decide +kernel
  exact key ⟨n, by omega⟩ (by show 0 < n; omega)
/-! ### how many of a length there are ahead of a place; the first code of a length -/
def cn (l : List Int) (n : Nat) : Nat → Int
  | 0 => 0
  | k + 1 => cn l n k + if l.getD k 0 = (n : Int) then 1 else 0
def st (l : List Int) : Nat → Int
  | 0 => 0
  | n + 1 => if n = 0 then 0 else (st l n + cn l n l.length) * 2
def code (l : List Int) (i : Nat) : Int := st l (l.getD i 0).toNat + cn l (l.getD i 0).toNat i
theorem cn_small (l : List Int) (n : Nat) : ∀ k, 0 ≤ cn l n k ∧ cn l n k ≤ k
  | 0 => ⟨Int.le_refl _, Int.le_refl _⟩
  | k + 1 => by
    have := cn_small l n k
    rw [cn]
    split <;> omega
theorem st_small (l : List Int) (hl : l.length ≤ 320) : ∀ n, 0 ≤ st l n ∧ st l n ≤ 640 * (2 ^ n - 1)
  | 0 => ⟨Int.le_refl _, Int.le_refl _⟩
  | n + 1 => by
    have ih := st_small l hl n
    have hc := cn_small l n l.length
    have hp : (2 : Int) ^ (n + 1) = 2 * 2 ^ n := by rw [Int.pow_succ]; omega
    have h1 : (1 : Int) ≤ 2 ^ n := by exact_mod_cast Nat.one_le_two_pow (n := n)
    rw [st]
    split <;> omega
theorem st_le (l : List Int) (hl : l.length ≤ 320) (n : Nat) (hn : n ≤ 16) : 0 ≤ st l n ∧ st l n ≤ 50000000 := by
  have h := st_small l hl n
  have : (2 : Int) ^ n ≤ 2 ^ 16 := by
    have := Nat.pow_le_pow_right (n := 2) (by decide) hn
    exact_mod_cast this
  omega
/-! ### the program's tables -/
theorem many_get (l : List Int) (hl : isL l = true) (n : Nat) (h1 : 1 ≤ n) (h2 : n ≤ 15) : ∀ k, k ≤ l.length → (manyP l k).getD n 0 = cn l n k
  | 0, _ => by
    show (List.replicate 17 (0 : Int)).getD n 0 = 0
    rw [List.getD_eq_getElem?_getD, List.getElem?_replicate]
    split <;> rfl
  | k + 1, hk => by
    have ih := many_get l hl n h1 h2 k (by omega)
    have ha := isL_at hl k (by omega)
    have hn := isL_len hl
    rw [manyP, cn]
    by_cases hx : l.getD k 0 > 0
    · rw [if_pos hx, getD_set _ _ _ _ (by rw [manyP_len]; omega)]
      by_cases he : n = (l.getD k 0).toNat
      · have hc := cn_small l n k
        rw [if_pos he, if_pos (by omega), ← he, ih, w64 (by omega) (by omega)]
      · rw [if_neg he, if_neg (by omega), ih]
        omega
    · rw [if_neg hx, if_neg (by omega), ih]
      omega
theorem first_get (l : List Int) (hl : isL l = true) : ∀ (j : Nat), j ≤ 15 → ∀ n, 1 ≤ n → n ≤ j + 1 → (firstP (manyP l l.length) j).getD n 0 = st l n
  | 0, _, n, h1, h2 => by
    obtain rfl : n = 1 := by omega
    rfl
  | j + 1, hj, n, h1, h2 => by
    have ih := first_get l hl j (by omega)
    rw [firstP, getD_set _ _ _ _ (by rw [firstP_len]; omega)]
    by_cases he : n = j + 2
    · have hn := isL_len hl
      have hs := st_le l hn (j + 1) (by omega)
      have hc := cn_small l (j + 1) l.length
      rw [if_pos he, he, ih (j + 1) (by omega) (by omega), many_get l hl (j + 1) (by omega) (by omega) l.length (Nat.le_refl _), w64 (x := st l (j + 1) + cn l (j + 1) l.length) (by omega) (by omega), w64 (by omega) (by omega)]
      rw [show st l (j + 2) = (st l (j + 1) + cn l (j + 1) l.length) * 2 by rw [st, if_neg (by omega)]]
    · rw [if_neg he]
      exact ih n h1 (by omega)
theorem next_get (l : List Int) (hl : isL l = true) : ∀ k, k ≤ l.length → (codesP l k).1.length = 17 ∧ ∀ n, 1 ≤ n → n ≤ 15 → (codesP l k).1.getD n 0 = st l n + cn l n k
  | 0, _ => ⟨firstP_len _ _, fun n h1 h2 => by
    show (firstP (manyP l l.length) 15).getD n 0 = st l n + 0
    rw [first_get l hl 15 (Nat.le_refl _) n h1 (by omega)]
    omega⟩
  | k + 1, hk => by
    obtain ⟨ih1, ih2⟩ := next_get l hl k (by omega)
    have ha := isL_at hl k (by omega)
    have hn := isL_len hl
    rw [codesP]
    by_cases hx : l.getD k 0 > 0
    · rw [if_pos hx]
      refine ⟨by show (List.set _ _ _).length = 17; rw [List.length_set]; exact ih1, fun n h1 h2 => ?_⟩
      show ((codesP l k).1.set (l.getD k 0).toNat _).getD n 0 = _
      rw [getD_set _ _ _ _ (by rw [ih1]; omega), cn]
      by_cases he : n = (l.getD k 0).toNat
      · have hs := st_le l hn n (by omega)
        have hc := cn_small l n k
        rw [if_pos he, if_pos (by omega), ← he, ih2 n h1 h2, w64 (by omega) (by omega)]
        omega
      · rw [if_neg he, if_neg (by omega), ih2 n h1 h2]
        omega
    · rw [if_neg hx]
      refine ⟨ih1, fun n h1 h2 => ?_⟩
      rw [ih2 n h1 h2, cn, if_neg (by omega)]
      omega
/-- all codes -/
def outL (l : List Int) : List Int := (List.range l.length).map (fun i => if l.getD i 0 > 0 then code l i else 0)
/-- those that stand behind so many steps of the document -/
def outD (l : List Int) (n i : Nat) : List Int := (List.range l.length).map (fun j => if l.getD j 0 > 0 ∧ (l.getD j 0 < (n : Int) ∨ (l.getD j 0 = (n : Int) ∧ j < i)) then code l j else 0)
theorem map_get (f : Nat → Int) (m j : Nat) (hj : j < m) : ((List.range m).map f)[j]? = some (f j) := by
  rw [List.getElem?_map, List.getElem?_range hj]
  rfl
theorem set_map (f : Nat → Int) (m i : Nat) (x : Int) (g : Nat → Int) (hi : g i = x) (hg : ∀ j, j ≠ i → g j = f j) (him : i < m) : ((List.range m).map f).set i x = (List.range m).map g := by
  refine List.ext_getElem? (fun j => ?_)
  rw [List.getElem?_set, List.length_map, List.length_range]
  by_cases hj : j < m
  · rw [map_get g m j hj]
    by_cases h : i = j
    · subst h
      rw [if_pos rfl, if_pos hj, hi]
    · rw [if_neg h, map_get f m j hj, hg j (fun e => h e.symm)]
  · rw [if_neg (by omega), List.getElem?_eq_none (by simp; omega), List.getElem?_eq_none (by simp; omega)]
theorem codes_out (l : List Int) (hl : isL l = true) : ∀ k, k ≤ l.length → (codesP l k).2 = (List.range l.length).map (fun j => if l.getD j 0 > 0 ∧ j < k then code l j else 0)
  | 0, _ => by
    refine List.ext_getElem? (fun j => ?_)
    show (List.replicate l.length (0 : Int))[j]? = _
    rw [List.getElem?_replicate]
    by_cases hj : j < l.length
    · rw [map_get _ _ _ hj, if_pos hj, if_neg (by omega)]
    · rw [if_neg hj, List.getElem?_eq_none (by simp; omega)]
  | k + 1, hk => by
    have ih := codes_out l hl k (by omega)
    have ha := isL_at hl k (by omega)
    rw [codesP]
    by_cases hx : l.getD k 0 > 0
    · rw [if_pos hx]
      show (codesP l k).2.set k ((codesP l k).1.getD (l.getD k 0).toNat 0) = _
      rw [ih, (next_get l hl k (by omega)).2 (l.getD k 0).toNat (by omega) (by omega)]
      refine set_map _ _ _ _ _ ?_ (fun j hj => ?_) (by omega)
      · rw [if_pos ⟨hx, by omega⟩]
        rfl
      · by_cases h : l.getD j 0 > 0 ∧ j < k
        · rw [if_pos h, if_pos ⟨h.1, by omega⟩]
        · rw [if_neg h, if_neg (by omega)]
    · rw [if_neg hx, ih]
      refine List.map_congr_left (fun j hj => ?_)
      by_cases h : l.getD j 0 > 0 ∧ j < k
      · rw [if_pos h, if_pos ⟨h.1, by omega⟩]
      · rw [if_neg h, if_neg]
        rintro ⟨h1, h2⟩
        by_cases he : j = k
        · rw [he] at h1
          exact hx h1
        · exact h ⟨h1, by omega⟩
theorem codes_all (l : List Int) (hl : isL l = true) : (codesP l l.length).2 = outL l := by
  rw [codes_out l hl l.length (Nat.le_refl _)]
  refine List.map_congr_left (fun j hj => ?_)
  have := List.mem_range.1 hj
  by_cases h : l.getD j 0 > 0
  · rw [if_pos ⟨h, this⟩, if_pos h]
  · rw [if_neg (fun e => h e.1), if_neg h]
/-! ### the document's loop -/
theorem outD_len (l : List Int) (n i : Nat) : (outD l n i).length = l.length := by unfold outD; rw [List.length_map, List.length_range]
end Go.Proofs.Ytachnclfgjdglaa.Next
