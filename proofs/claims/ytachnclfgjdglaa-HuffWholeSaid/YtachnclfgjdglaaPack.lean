/- Packages: what the first ones of a row of coins and of pairs of coins hold. Plain law (how often each coin is among them, how much they fill and weigh); the conditions stand in each theorem. -/
import Derived.Test.YtachnclfgjdglaaSums
namespace Go.Proofs.Ytachnclfgjdglaa.Pack
open Go.Proofs.YtachnclfgjdglaaSrt Go.Proofs.Ytachnclfgjdglaa.Coin
set_option linter.unusedVariables false
set_option linter.unusedSimpArgs false

abbrev It := Int × List Int
def ky (x : It) : Int := x.1
theorem kl_ky : kl ky = ltP := rfl
/-! ### sums -/
def sm (g : Nat → Int) : Nat → Int
  | 0 => 0
  | n + 1 => sm g n + g n
theorem sm_congr {g h : Nat → Int} : ∀ n, (∀ i, i < n → g i = h i) → sm g n = sm h n
  | 0, _ => rfl
  | n + 1, e => by rw [sm, sm, sm_congr n (fun i hi => e i (by omega)), e n (by omega)]
theorem sm_add (g h : Nat → Int) : ∀ n, sm (fun i => g i + h i) n = sm g n + sm h n
  | 0 => rfl
  | n + 1 => by rw [sm, sm, sm, sm_add g h n]; omega
theorem sm_zero (g : Nat → Int) : ∀ n, (∀ i, i < n → g i = 0) → sm g n = 0
  | 0, _ => rfl
  | n + 1, e => by rw [sm, sm_zero g n (fun i hi => e i (by omega)), e n (by omega)]; rfl
theorem sm_more (g : Nat → Int) : ∀ (d n : Nat), (∀ i, n ≤ i → g i = 0) → sm g (n + d) = sm g n
  | 0, n, _ => rfl
  | d + 1, n, e => by rw [← Nat.add_assoc, sm, sm_more g d n e, e _ (by omega)]; omega
/-- what is said of each, of all -/
def mus (μ : It → Int) (l : List It) : Int := (l.map μ).sum
theorem mus_nil (μ : It → Int) : mus μ [] = 0 := rfl
theorem mus_cons (μ : It → Int) (x : It) (l : List It) : mus μ (x :: l) = μ x + mus μ l := rfl
theorem mus_append (μ : It → Int) (l m : List It) : mus μ (l ++ m) = mus μ l + mus μ m := by
  unfold mus
  rw [List.map_append, List.sum_append]
theorem mus_perm (μ : It → Int) {l m : List It} (h : l.Perm m) : mus μ l = mus μ m := by
  induction h with
  | nil => rfl
  | cons x _ ih => rw [mus_cons, mus_cons, ih]
  | swap x y l => rw [mus_cons, mus_cons, mus_cons, mus_cons]; omega
  | trans _ _ h1 h2 => rw [h1, h2]
theorem mus_take (μ : It → Int) (S : List It) : ∀ c, c ≤ S.length → mus μ (S.take c) = sm (fun i => μ S[i]!) c
  | 0, _ => rfl
  | c + 1, h => by
    rw [List.take_succ_eq_append_getElem h, mus_append, mus_take μ S c (by omega), sm, getElem!_pos S c h]
    show _ + (μ _ + 0) = _
    omega
/-! ### pairs -/
theorem pairs_take : ∀ (p : Nat) (l : List It), 2 * p ≤ l.length → (pairsL l).take p = pairsL (l.take (2 * p))
  | 0, l, _ => by simp [pairsL]
  | p + 1, [], h => by simp at h
  | p + 1, [x], h => by simp at h; omega
  | p + 1, x :: y :: t, h => by
    rw [pairsL, List.take_succ_cons, pairs_take p t (by simp at h; omega), show 2 * (p + 1) = (2 * p + 1) + 1 by omega, List.take_succ_cons, List.take_succ_cons, pairsL]
theorem pairs_mus (μ : It → Int) (hμ : ∀ x y : It, μ (x.1 + y.1, x.2 ++ y.2) = μ x + μ y) : ∀ (p : Nat) (l : List It), l.length = 2 * p → mus μ (pairsL l) = mus μ l
  | 0, l, h => by
    rw [List.length_eq_zero_iff.1 (by omega : l.length = 0)]
    rfl
  | p + 1, [], h => by simp at h
  | p + 1, [x], h => by simp at h; omega
  | p + 1, x :: y :: t, h => by
    rw [pairsL, mus_cons, pairs_mus μ hμ p t (by simp at h; omega), hμ, mus_cons, mus_cons]
    omega
theorem pairs_mem : ∀ (l : List It) (z : It), z ∈ pairsL l → ∃ u, u ∈ l ∧ ∃ v, v ∈ l ∧ z.1 = u.1 + v.1
  | [], z, h => by simp [pairsL] at h
  | [x], z, h => by simp [pairsL] at h
  | x :: y :: t, z, h => by
    rw [pairsL] at h
    rcases List.mem_cons.1 h with rfl | h
    · exact ⟨x, by simp, y, by simp, rfl⟩
    · obtain ⟨u, hu, v, hv, e⟩ := pairs_mem t z h
      exact ⟨u, by simp [hu], v, by simp [hv], e⟩
theorem pairs_st : ∀ l : List It, St ky l → St ky (pairsL l)
  | [], h => h
  | [x], h => .nil
  | x :: y :: t, h => by
    rw [pairsL]
    rw [st_cons, st_cons] at h
    rw [st_cons]
    refine ⟨fun z hz => ?_, pairs_st t h.2.2⟩
    obtain ⟨u, hu, v, hv, e⟩ := pairs_mem t z hz
    have h1 := h.1 u (by simp [hu])
    have h2 := h.2.1 v hv
    show x.1 + y.1 ≤ z.1
    have h1' : x.1 ≤ u.1 := h1
    have h2' : y.1 ≤ v.1 := h2
    omega
/-- each weighs something -/
def Pos (l : List It) : Prop := ∀ x ∈ l, 0 < x.1
theorem pairs_pos {l : List It} (h : Pos l) : Pos (pairsL l) := fun z hz => by
  obtain ⟨u, hu, v, hv, e⟩ := pairs_mem l z hz
  have := h u hu
  have := h v hv
  omega
/-- each is in a pair that weighs more -/
theorem pairs_above : ∀ (p : Nat) (l : List It), l.length = 2 * p → Pos l → ∀ x ∈ l, ∃ z ∈ pairsL l, x.1 < z.1
  | 0, l, h, _, x, hx => by
    rw [List.length_eq_zero_iff.1 (by omega : l.length = 0)] at hx
    cases hx
  | p + 1, [], h, _, x, hx => by cases hx
  | p + 1, [y], h, _, x, hx => by simp at h; omega
  | p + 1, a :: b :: t, h, hp, x, hx => by
    have ha := hp a (by simp)
    have hb := hp b (by simp)
    rw [pairsL]
    rcases List.mem_cons.1 hx with rfl | hx
    · exact ⟨_, List.mem_cons_self .., by show x.1 < x.1 + b.1; omega⟩
    rcases List.mem_cons.1 hx with rfl | hx
    · exact ⟨_, List.mem_cons_self .., by show x.1 < a.1 + x.1; omega⟩
    · obtain ⟨z, hz, e⟩ := pairs_above p t (by simp at h; omega) (fun y hy => hp y (by simp [hy])) x hx
      exact ⟨z, List.mem_cons_of_mem _ hz, e⟩
/-! ### rows -/
theorem rows_st (S : List It) (hS : St ky S) : ∀ k, St ky (rows S k)
  | 0 => hS
  | k + 1 => by
    rw [rows, ← kl_ky]
    exact srt_st ky _
theorem rows_mrg (S : List It) (hS : St ky S) (k : Nat) : rows S (k + 1) = mrg ky S (pairsL (rows S k)) := by
  rw [rows, ← kl_ky, srt_append, srt_of_st ky S hS, srt_of_st ky _ (pairs_st _ (rows_st S hS k))]
theorem rows_pos (S : List It) (hS : St ky S) (hp : Pos S) : ∀ k, Pos (rows S k)
  | 0 => hp
  | k + 1 => fun x hx => by
    rw [rows_mrg S hS k] at hx
    rcases (mem_mrg ky).1 hx with hx | hx
    · exact hp x hx
    · exact pairs_pos (rows_pos S hS hp k) x hx
/-- where two rows are cut, so that so many stand ahead in the row of both -/
theorem split_at (A B : List It) (hA : St ky A) (hB : St ky B) : ∀ t, t ≤ A.length + B.length → ∃ i j, i + j = t ∧ i ≤ A.length ∧ j ≤ B.length ∧ (i = 0 ∨ j = B.length ∨ ky A[i - 1]! ≤ ky B[j]!) ∧ (j = 0 ∨ i = A.length ∨ ky B[j - 1]! < ky A[i]!)
  | 0, _ => ⟨0, 0, rfl, by omega, by omega, .inl rfl, .inl rfl⟩
  | t + 1, h => by
    obtain ⟨i, j, e, hi, hj, c1, c2⟩ := split_at A B hA hB t (by omega)
    by_cases hc : i < A.length ∧ (j = B.length ∨ ky A[i]! ≤ ky B[j]!)
    · refine ⟨i + 1, j, by omega, by omega, hj, ?_, ?_⟩
      · rcases hc.2 with h2 | h2
        · exact .inr (.inl h2)
        · exact .inr (.inr (by rw [Nat.add_sub_cancel]; exact h2))
      · by_cases hi1 : i + 1 = A.length
        · exact .inr (.inl hi1)
        · rcases c2 with h2 | h2 | h2
          · exact .inl h2
          · omega
          · have := st_at ky hA (show i ≤ i + 1 by omega) (by omega)
            exact .inr (.inr (by omega))
    · have hjl : j < B.length := by
        by_cases hi1 : i < A.length
        · rcases Nat.lt_or_ge j B.length with h2 | h2
          · exact h2
          · exact absurd ⟨hi1, .inl (by omega)⟩ hc
        · omega
      refine ⟨i, j + 1, by omega, hi, by omega, ?_, ?_⟩
      · by_cases hj1 : j + 1 = B.length
        · exact .inr (.inl hj1)
        · rcases c1 with h2 | h2 | h2
          · exact .inl h2
          · omega
          · have := st_at ky hB (show j ≤ j + 1 by omega) (by omega)
            exact .inr (.inr (by omega))
      · by_cases hi1 : i < A.length
        · right; right
          rw [Nat.add_sub_cancel]
          exact Int.not_le.1 (fun h2 => hc ⟨hi1, .inr h2⟩)
        · exact .inr (.inl (by omega))
/-- the first t of a row: of each coin how many -/
structure Desc (S : List It) (k t : Nat) (c : Nat) (f : Nat → Nat) : Prop where
  cl : c ≤ S.length
  pos : ∀ i, 0 < f i ↔ i < c
  anti : ∀ i j, i ≤ j → f j ≤ f i
  most : ∀ i, f i ≤ k + 1
  mem : ∀ i, i < c → S[i]! ∈ (rows S k).take t
  mu : ∀ μ : It → Int, (∀ x y : It, μ (x.1 + y.1, x.2 ++ y.2) = μ x + μ y) → mus μ ((rows S k).take t) = sm (fun i => (f i : Int) * μ S[i]!) S.length
  fill : sm (fun i => 32768 - 2 ^ (15 - f i)) S.length = (t : Int) * 16384
theorem half_pow (a : Nat) (h : a ≤ 14) : (32768 : Int) - 2 ^ (15 - (1 + a)) = 16384 + (16384 - 2 ^ (15 - a) / 2) := by
  have key : ∀ n : Fin 15, (32768 : Int) - 2 ^ (15 - (1 + n.val)) = 16384 + (16384 - 2 ^ (15 - n.val) / 2) := by decide +kernel
  exact key ⟨a, by omega⟩
theorem desc (S : List It) (hS : St ky S) (hp : Pos S) : ∀ k t, k ≤ 14 → t ≤ (rows S k).length → ∃ c f, Desc S k t c f
  | 0, t, _, ht => by
    have ht' : t ≤ S.length := ht
    refine ⟨t, fun i => if i < t then 1 else 0, ⟨ht', fun i => ?_, fun i j h => ?_, fun i => ?_, fun i hi => ?_, fun μ hμ => ?_, ?_⟩⟩
    · try simp only
      split
      · omega
      · omega
    · try simp only
      split
      · rw [if_pos (by omega)]; omega
      · omega
    · try simp only
      split <;> omega
    · show S[i]! ∈ S.take t
      rw [getElem!_pos S i (by omega)]
      exact List.mem_take_iff_getElem.2 ⟨i, by omega, rfl⟩
    · show mus μ (S.take t) = _
      rw [mus_take μ S t ht']
      obtain ⟨d, hd⟩ := Nat.exists_eq_add_of_le ht'
      rw [hd, sm_more _ d t (fun i hi => by rw [if_neg (by omega)]; simp)]
      refine sm_congr t (fun i hi => ?_)
      rw [if_pos hi]
      simp
    · obtain ⟨d, hd⟩ := Nat.exists_eq_add_of_le ht'
      rw [hd, sm_more _ d t (fun i hi => by rw [if_neg (by omega)]; decide)]
      have : ∀ n, n ≤ t → sm (fun i => (32768 : Int) - 2 ^ (15 - if i < t then 1 else 0)) n = (n : Int) * 16384 := fun n => by
        induction n with
        | zero => intro _; rfl
        | succ n ih =>
          intro hn
          rw [sm, ih (by omega), if_pos (by omega)]
          show (n : Int) * 16384 + (32768 - 16384) = _
          omega
      exact this t (Nat.le_refl _)
  | k + 1, t, hk, ht => by
    have hR := rows_st S hS k
    have hP := pairs_st _ hR
    rw [rows_mrg S hS k, mrg_length] at ht
    obtain ⟨i, p, e, hi, hj, c1, c2⟩ := split_at S (pairsL (rows S k)) hS hP t ht
    have hpl : 2 * p ≤ (rows S k).length := by
      rw [pairsL_half] at hj
      omega
    obtain ⟨c, f, D⟩ := desc S hS hp k (2 * p) (by omega) hpl
    have hPt := pairs_take p (rows S k) hpl
    have hlen : ((rows S k).take (2 * p)).length = 2 * p := by rw [List.length_take, Nat.min_eq_left hpl]
    have htake : (rows S (k + 1)).take t = mrg ky (S.take i) ((pairsL (rows S k)).take p) := by
      rw [rows_mrg S hS k, cut_at ky S _ hS hP i p hi hj c1 c2, List.take_append_of_le_length (by rw [mrg_length, List.length_take, List.length_take, Nat.min_eq_left hi, Nat.min_eq_left hj]; omega), List.take_of_length_le (by rw [mrg_length, List.length_take, List.length_take, Nat.min_eq_left hi, Nat.min_eq_left hj]; omega)]
    have hci : c ≤ i := by
      rcases Nat.lt_or_ge i c with h | h
      · exfalso
        have hm := D.mem i h
        have hpp : Pos ((rows S k).take (2 * p)) := fun x hx => rows_pos S hS hp k x (List.mem_of_mem_take hx)
        obtain ⟨z, hz, hlt⟩ := pairs_above p _ hlen hpp _ hm
        rw [← hPt] at hz
        obtain ⟨s, hs1, hs2, rfl⟩ := mem_take_at hz
        have h1 := st_at ky hP (show s ≤ p - 1 by omega) (by omega)
        have h2 := (c2.resolve_left (by omega)).resolve_left (by have := D.cl; omega)
        have h3 : ky S[i]! < ky (pairsL (rows S k))[s]! := hlt
        omega
      · exact h
    have f0 : ∀ q, i ≤ q → f q = 0 := fun q hq => by
      have := D.pos q
      omega
    refine ⟨i, fun q => if q < i then 1 + f q else 0, ⟨hi, fun q => ?_, fun a b h => ?_, fun q => ?_, fun q hq => ?_, fun μ hμ => ?_, ?_⟩⟩
    · try simp only
      split
      · omega
      · omega
    · try simp only
      have := D.anti a b h
      split
      · rw [if_pos (by omega)]; omega
      · omega
    · try simp only
      have := D.most q
      split <;> omega
    · rw [htake]
      refine (mem_mrg ky).2 (.inl ?_)
      rw [getElem!_pos S q (by omega)]
      exact List.mem_take_iff_getElem.2 ⟨q, by omega, rfl⟩
    · rw [htake, mus_perm μ (mrg_perm ky _ _), mus_append, hPt, pairs_mus μ hμ p _ hlen, D.mu μ hμ, mus_take μ S i hi]
      obtain ⟨d, hd⟩ := Nat.exists_eq_add_of_le hi
      have h1 : sm (fun q => μ S[q]!) i = sm (fun q => (if q < i then 1 else 0 : Int) * μ S[q]!) S.length := by
        rw [hd, sm_more _ d i (fun q hq => by rw [if_neg (by omega)]; simp)]
        exact sm_congr i (fun q hq => by rw [if_pos hq]; simp)
      rw [h1, ← sm_add]
      refine sm_congr _ (fun q _ => ?_)
      by_cases hq : q < i
      · rw [if_pos hq, if_pos hq, ← Int.add_mul]
        rfl
      · rw [if_neg hq, if_neg hq, f0 q (by omega)]
        simp
    · have h1 : ∀ q, q < S.length → (32768 : Int) - 2 ^ (15 - if q < i then 1 + f q else 0) = (if q < i then 16384 else 0 : Int) + (16384 - 2 ^ (15 - f q) / 2) := fun q _ => by
        by_cases hq : q < i
        · rw [if_pos hq, if_pos hq]
          exact half_pow (f q) (by have := D.most q; omega)
        · rw [if_neg hq, if_neg hq, f0 q (by omega)]
          decide
      rw [sm_congr _ h1, sm_add]
      have h2 : sm (fun q => (if q < i then 16384 else 0 : Int)) S.length = (i : Int) * 16384 := by
        obtain ⟨d, hd⟩ := Nat.exists_eq_add_of_le hi
        rw [hd, sm_more _ d i (fun q hq => by rw [if_neg (by omega)])]
        have : ∀ n, n ≤ i → sm (fun q => (if q < i then 16384 else 0 : Int)) n = (n : Int) * 16384 := fun n => by
          induction n with
          | zero => intro _; rfl
          | succ n ih =>
            intro hn
            rw [sm, ih (by omega), if_pos (by omega)]
            omega
        exact this i (Nat.le_refl _)
      have h3 : ∀ n, 2 * sm (fun q => (16384 : Int) - 2 ^ (15 - f q) / 2) n = sm (fun q => 32768 - 2 ^ (15 - f q)) n := fun n => by
        induction n with
        | zero => rfl
        | succ n ih =>
          rw [sm, sm, ← ih]
          have key : ∀ a : Fin 15, (2 : Int) ^ (15 - a.val) / 2 * 2 = 2 ^ (15 - a.val) := by decide +kernel
          by_cases ha : f n ≤ 14
          · have := key ⟨f n, by omega⟩
            simp only at this
            omega
          · have := D.most n
            omega
      have h4 := h3 S.length
      rw [D.fill] at h4
      rw [h2]
      omega
end Go.Proofs.Ytachnclfgjdglaa.Pack
