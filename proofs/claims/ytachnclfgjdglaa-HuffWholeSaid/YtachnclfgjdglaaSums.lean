/- Rows of coins, and what they come to: how long they are, how small their sums stay. Plain law; no conditions but those that each theorem says. -/
import Derived.Test.YtachnclfgjdglaaPairs
namespace Go.Proofs.Ytachnclfgjdglaa.Coin
open Go.Proofs.YtachnclfgjdglaaSrt
set_option linter.unusedVariables false
set_option linter.unusedSimpArgs false

/-- those that come at all, one by one; nothing where a count is none -/
def sgl (often : List Int) : Nat → Option (List (Int × List Int))
  | 0 => some []
  | k + 1 => match sgl often k with
    | none => none
    | some S => if often.getD k 0 < 0 ∨ often.getD k 0 > 1048576 then none else if often.getD k 0 > 0 then some (S ++ [(often.getD k 0, [(k : Int)])]) else some S
def ltP (x y : Int × List Int) : Bool := decide (x.1 < y.1)
def rows (S : List (Int × List Int)) : Nat → List (Int × List Int)
  | 0 => S
  | k + 1 => srt ltP (S ++ pairsL (rows S k))
def bump (L s : List Int) : List Int := s.foldl (fun L i => L.set i.toNat (RowKit.wrap64 (L.getD i.toNat 0 + 1))) L
def cnt (L : List Int) (l : List (Int × List Int)) : List Int := l.foldl (fun L x => bump L x.2) L
def lensF (often : List Int) (most : Int) : Option (List Int × Int) :=
  if (often.length : Int) > 320 ∨ most < 1 ∨ most > 15 then some ([], 1) else match sgl often often.length with
  | none => some ([], 1)
  | some S => if (S.length : Int) > 2 ^ most.toNat then some ([], 1) else if S.length < 2 then some (cnt (List.replicate often.length 0) S, 0)
    else some (cnt (List.replicate often.length 0) ((rows (srt ltP S) (most.toNat - 1)).take (2 * S.length - 2)), 0)
theorem bump_snoc (L s : List Int) (x : Int) : bump L (s ++ [x]) = (bump L s).set x.toNat (RowKit.wrap64 ((bump L s).getD x.toNat 0 + 1)) := by
  unfold bump
  rw [List.foldl_append]
  rfl
theorem cnt_snoc (L : List Int) (l : List (Int × List Int)) (x : Int × List Int) : cnt L (l ++ [x]) = bump (cnt L l) x.2 := by
  unfold cnt
  rw [List.foldl_append]
  rfl
theorem take_snoc {α : Type} (l : List α) (d : α) (k : Nat) (hk : k < l.length) : l.take (k + 1) = l.take k ++ [l.getD k d] := by
  rw [List.take_succ_eq_append_getElem hk, List.getD_eq_getElem?_getD, List.getElem?_eq_getElem hk]
  rfl
theorem sgl_none (often : List Int) : ∀ d k, sgl often k = none → sgl often (k + d) = none
  | 0, k, h => h
  | d + 1, k, h => by
    rw [← Nat.add_assoc, sgl, sgl_none often d k h]
theorem sgl_step {often : List Int} {k : Nat} {S : List (Int × List Int)} (h : sgl often k = some S) : sgl often (k + 1) = if often.getD k 0 < 0 ∨ often.getD k 0 > 1048576 then none else if often.getD k 0 > 0 then some (S ++ [(often.getD k 0, [(k : Int)])]) else some S := by
  rw [sgl, h]
theorem sgl_bad {often : List Int} {k : Nat} {S : List (Int × List Int)} {n : Int} (h : sgl often k = some S) (hn : n = often.getD k 0) (hb : n < 0 ∨ n > 1048576) (hk : k < often.length) : sgl often often.length = none := by
  have h1 : sgl often (k + 1) = none := by rw [sgl_step h, ← hn, if_pos hb]
  obtain ⟨d, hd⟩ := Nat.exists_eq_add_of_le (show k + 1 ≤ often.length from hk)
  rw [hd]
  exact sgl_none often d (k + 1) h1
theorem sgl_more {often : List Int} {k : Nat} {S : List (Int × List Int)} {n : Int} (h : sgl often k = some S) (hn : n = often.getD k 0) (h1 : ¬ n < 0) (h2 : ¬ n > 1048576) : sgl often (k + 1) = if n > 0 then some (S ++ [(n, [(k : Int)])]) else some S := by
  rw [sgl_step h, ← hn, if_neg (by omega)]
theorem sgl_one {often : List Int} : ∀ (k : Nat) (S : List (Int × List Int)), sgl often k = some S → ∀ y ∈ S, ∃ i : Nat, i < k ∧ y.2 = [(i : Int)]
  | 0, S, h, y, hy => by
    obtain rfl := Option.some.inj h
    cases hy
  | k + 1, S, h, y, hy => by
    cases hs : sgl often k with
    | none => rw [sgl, hs] at h; cases h
    | some S0 =>
      rw [sgl_step hs] at h
      split at h
      · cases h
      · split at h
        · obtain rfl := Option.some.inj h
          rcases List.mem_append.1 hy with hy | hy
          · obtain ⟨i, hi, e⟩ := sgl_one k S0 hs y hy
            exact ⟨i, by omega, e⟩
          · obtain rfl : y = _ := by simpa using hy
            exact ⟨k, by omega, rfl⟩
        · obtain rfl := Option.some.inj h
          obtain ⟨i, hi, e⟩ := sgl_one k S0 hs y hy
          exact ⟨i, by omega, e⟩
/-! ### sums that stay small, symbols that are such -/
def mo (l : List (Int × List Int)) : Int := (l.map (·.1)).sum
def ms (l : List (Int × List Int)) : Nat := (l.map (fun x => x.2.length)).sum
structure Inv (n : Nat) (l : List (Int × List Int)) (a : Int) (b : Nat) : Prop where
  pos : ∀ x ∈ l, 0 ≤ x.1
  sum : mo l ≤ a
  len : ms l ≤ b
  sym : ∀ x ∈ l, ∀ s ∈ x.2, 0 ≤ s ∧ s < (n : Int)
theorem mo_cons (x : Int × List Int) (l : List (Int × List Int)) : mo (x :: l) = x.1 + mo l := rfl
theorem ms_cons (x : Int × List Int) (l : List (Int × List Int)) : ms (x :: l) = x.2.length + ms l := rfl
theorem mo_append (l l' : List (Int × List Int)) : mo (l ++ l') = mo l + mo l' := by
  unfold mo
  rw [List.map_append, List.sum_append]
theorem ms_append (l l' : List (Int × List Int)) : ms (l ++ l') = ms l + ms l' := by
  unfold ms
  rw [List.map_append, List.sum_append]
theorem Inv.append {n : Nat} {l l' : List (Int × List Int)} {a a' : Int} {b b' : Nat} (h : Inv n l a b) (h' : Inv n l' a' b') : Inv n (l ++ l') (a + a') (b + b') where
  pos := fun x hx => (List.mem_append.1 hx).elim (h.pos x) (h'.pos x)
  sum := by rw [mo_append]; have := h.sum; have := h'.sum; omega
  len := by rw [ms_append]; have := h.len; have := h'.len; omega
  sym := fun x hx => (List.mem_append.1 hx).elim (h.sym x) (h'.sym x)
theorem mo_perm {l l' : List (Int × List Int)} (hp : l'.Perm l) : mo l' = mo l := by
  induction hp with
  | nil => rfl
  | cons x _ ih => rw [mo_cons, mo_cons, ih]
  | swap x y l => rw [mo_cons, mo_cons, mo_cons, mo_cons]; omega
  | trans _ _ h1 h2 => rw [h1, h2]
theorem ms_perm {l l' : List (Int × List Int)} (hp : l'.Perm l) : ms l' = ms l := by
  induction hp with
  | nil => rfl
  | cons x _ ih => rw [ms_cons, ms_cons, ih]
  | swap x y l => rw [ms_cons, ms_cons, ms_cons, ms_cons]; omega
  | trans _ _ h1 h2 => rw [h1, h2]
theorem Inv.perm {n : Nat} {l l' : List (Int × List Int)} {a : Int} {b : Nat} (h : Inv n l a b) (hp : l'.Perm l) : Inv n l' a b where
  pos := fun x hx => h.pos x (hp.subset hx)
  sum := by
    rw [mo_perm hp]; exact h.sum
  len := by
    rw [ms_perm hp]; exact h.len
  sym := fun x hx => h.sym x (hp.subset hx)
theorem Inv.tail {n : Nat} {x : Int × List Int} {l : List (Int × List Int)} {a : Int} {b : Nat} (h : Inv n (x :: l) a b) : Inv n l (a - x.1) (b - x.2.length) where
  pos := fun y hy => h.pos y (List.mem_cons_of_mem _ hy)
  sum := by have := h.sum; rw [mo_cons] at this; omega
  len := by have := h.len; rw [ms_cons] at this; omega
  sym := fun y hy => h.sym y (List.mem_cons_of_mem _ hy)
theorem mo_nonneg {n : Nat} {l : List (Int × List Int)} {a : Int} {b : Nat} (h : Inv n l a b) : 0 ≤ mo l := by
  have hp := h.pos
  clear h
  induction l with
  | nil => exact Int.le_refl _
  | cons x l ih =>
    rw [mo_cons]
    have := hp x (List.mem_cons_self ..)
    have := ih (fun y hy => hp y (List.mem_cons_of_mem _ hy))
    omega
theorem Inv.each {n : Nat} {l : List (Int × List Int)} {a : Int} {b : Nat} (h : Inv n l a b) : ∀ x ∈ l, 0 ≤ x.1 ∧ x.1 ≤ a ∧ x.2.length ≤ b := by
  intro x hx
  induction l generalizing a b with
  | nil => cases hx
  | cons y l ih =>
    have h0 := mo_nonneg h.tail
    have h1 := h.sum
    have h2 := h.len
    rw [mo_cons] at h1
    rw [ms_cons] at h2
    have hy := h.pos y (List.mem_cons_self ..)
    rcases List.mem_cons.1 hx with rfl | hx
    · exact ⟨hy, by omega, by omega⟩
    · have := ih h.tail hx
      omega
theorem Inv.pairs {n : Nat} : ∀ {l : List (Int × List Int)} {a : Int} {b : Nat}, Inv n l a b → Inv n (pairsL l) a b
  | [], a, b, h => h
  | [x], a, b, h => ⟨fun y hy => (by simp [pairsL] at hy), (by
      have h1 := h.sum
      rw [mo_cons] at h1
      have := h.pos x (List.mem_cons_self ..)
      show (0 : Int) ≤ a
      have h2 : mo [] = 0 := rfl
      omega), Nat.zero_le _, fun y hy => (by simp [pairsL] at hy)⟩
  | x :: y :: t, a, b, h => by
    have ih := Inv.pairs h.tail.tail
    have h1 := h.sum
    have h2 := h.len
    rw [mo_cons, mo_cons] at h1
    rw [ms_cons, ms_cons] at h2
    have hx := h.pos x (List.mem_cons_self ..)
    have hy := h.pos y (List.mem_cons_of_mem _ (List.mem_cons_self ..))
    rw [pairsL]
    refine ⟨fun z hz => ?_, ?_, ?_, fun z hz s hs => ?_⟩
    · rcases List.mem_cons.1 hz with rfl | hz
      · show 0 ≤ x.1 + y.1
        omega
      · exact ih.pos z hz
    · rw [mo_cons]
      have := ih.sum
      show x.1 + y.1 + mo (pairsL t) ≤ a
      omega
    · rw [ms_cons]
      have := ih.len
      show (x.2 ++ y.2).length + ms (pairsL t) ≤ b
      rw [List.length_append]
      omega
    · rcases List.mem_cons.1 hz with rfl | hz
      · rcases List.mem_append.1 hs with hs | hs
        · exact h.sym x (List.mem_cons_self ..) s hs
        · exact h.sym y (List.mem_cons_of_mem _ (List.mem_cons_self ..)) s hs
      · exact ih.sym z hz s hs
theorem rows_inv {n : Nat} {S : List (Int × List Int)} {a : Int} {b : Nat} (h : Inv n S a b) (ha : 0 ≤ a) : ∀ k : Nat, Inv n (rows S k) ((k + 1 : Nat) * a) ((k + 1) * b)
  | 0 => by simpa [rows] using h
  | k + 1 => by
    have h1 := (h.append (rows_inv h ha k).pairs).perm (srt_perm ltP _)
    rw [show a + ((k + 1 : Nat) : Int) * a = ((k + 1 + 1 : Nat) : Int) * a by rw [show ((k + 1 + 1 : Nat) : Int) = ((k + 1 : Nat) : Int) + 1 by omega, Int.add_mul]; omega, show b + (k + 1) * b = (k + 1 + 1) * b by rw [Nat.add_mul (k + 1) 1 b]; omega] at h1
    exact h1
theorem sgl_inv {often : List Int} : ∀ (k : Nat) (S : List (Int × List Int)), sgl often k = some S → Inv k S ((S.length : Int) * 1048576) S.length ∧ S.length ≤ k
  | 0, S, h => by
    obtain rfl := Option.some.inj h
    exact ⟨⟨fun x hx => (by cases hx), Int.le_refl _, Nat.le_refl _, fun x hx => (by cases hx)⟩, Nat.le_refl _⟩
  | k + 1, S, h => by
    cases hs : sgl often k with
    | none => rw [sgl, hs] at h; cases h
    | some S0 =>
      obtain ⟨ih, hl⟩ := sgl_inv k S0 hs
      rw [sgl_step hs] at h
      have up : Inv (k + 1) S0 ((S0.length : Int) * 1048576) S0.length := ⟨ih.pos, ih.sum, ih.len, fun x hx s hs => by have := ih.sym x hx s hs; omega⟩
      by_cases h1 : often.getD k 0 < 0 ∨ often.getD k 0 > 1048576
      · rw [if_pos h1] at h; cases h
      rw [if_neg h1] at h
      by_cases h2 : often.getD k 0 > 0
      · rw [if_pos h2] at h
        obtain rfl := Option.some.inj h
        have one : Inv (k + 1) [(often.getD k 0, [(k : Int)])] 1048576 1 := ⟨fun x hx => by
          obtain rfl : x = (often.getD k 0, [(k : Int)]) := by simpa using hx
          show 0 ≤ often.getD k 0
          omega, by show often.getD k 0 + 0 ≤ 1048576; omega, Nat.le_refl _, fun x hx s hs => by
          obtain rfl : x = (often.getD k 0, [(k : Int)]) := by simpa using hx
          obtain rfl : s = (k : Int) := by simpa using hs
          omega⟩
        have h3 := up.append one
        rw [show (S0.length : Int) * 1048576 + 1048576 = ((S0 ++ [(often.getD k 0, [(k : Int)])]).length : Int) * 1048576 by simp; omega, show S0.length + 1 = (S0 ++ [(often.getD k 0, [(k : Int)])]).length by simp] at h3
        exact ⟨h3, by simp; omega⟩
      · rw [if_neg h2] at h
        obtain rfl := Option.some.inj h
        exact ⟨up, by omega⟩
/-! ### how long -/
theorem pairsL_half : ∀ l : List (Int × List Int), (pairsL l).length = l.length / 2
  | [] => rfl
  | [x] => by simp [pairsL]
  | x :: y :: t => by
    rw [pairsL, List.length_cons, pairsL_half t, List.length_cons, List.length_cons]
    omega
theorem rows_len (S : List (Int × List Int)) : ∀ k, (rows S k).length ≤ 2 * S.length
  | 0 => by show S.length ≤ _; omega
  | k + 1 => by
    rw [rows, srt_length, List.length_append, pairsL_half]
    have := rows_len S k
    omega
theorem rows_most (S : List (Int × List Int)) (m : Nat) (h : S.length ≤ 2 ^ m) : ∀ k, k ≤ m → 2 * S.length ≤ (rows S k).length + 2 ^ (m - k)
  | 0, _ => by show _ ≤ S.length + 2 ^ m; omega
  | k + 1, hk => by
    rw [rows, srt_length, List.length_append, pairsL_half]
    have ih := rows_most S m h k (by omega)
    have : 2 ^ (m - k) = 2 * 2 ^ (m - (k + 1)) := by rw [show m - k = (m - (k + 1)) + 1 by omega, Nat.pow_succ]; omega
    omega
theorem rows_enough (S : List (Int × List Int)) (m : Nat) (hm : 1 ≤ m) (h : S.length ≤ 2 ^ m) : 2 * S.length - 2 ≤ (rows S (m - 1)).length := by
  have := rows_most S m h (m - 1) (by omega)
  rw [show m - (m - 1) = 1 by omega] at this
  omega
end Go.Proofs.Ytachnclfgjdglaa.Coin
