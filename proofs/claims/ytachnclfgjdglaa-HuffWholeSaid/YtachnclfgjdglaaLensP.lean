/- The lengths that the program makes: none where there is nothing, none too long, just full, rarer ones no shorter; and what they cost. Plain law; the conditions stand in each theorem. -/
import Derived.Test.YtachnclfgjdglaaPack
import Derived.Test.YtachnclfgjdglaaCost
import Derived.Test.YtachnclfgjdglaaTab
namespace Go.Proofs.Ytachnclfgjdglaa.Pack
open Go.RowKit Go.Proofs.YtachnclfgjdglaaSrt Go.Proofs.Ytachnclfgjdglaa.Coin Go.Proofs.Ytachnclfgjdglaa.Next
set_option linter.unusedVariables false
set_option linter.unusedSimpArgs false

/-! ### counting symbols -/
def cntOf (x : Int) (y : It) : Int := (y.2.count x : Int)
theorem cntOf_add (x : Int) (a b : It) : cntOf x (a.1 + b.1, a.2 ++ b.2) = cntOf x a + cntOf x b := by
  unfold cntOf
  simp only [List.count_append]
  omega
theorem bump_len (s : List Int) : ∀ L : List Int, (bump L s).length = L.length := by
  induction s with
  | nil => intro L; rfl
  | cons i s ih =>
    intro L
    show (bump (L.set i.toNat (wrap64 (L.getD i.toNat 0 + 1))) s).length = _
    rw [ih, List.length_set]
theorem bump_get (s : List Int) : ∀ (L : List Int) (B : Nat), (∀ i ∈ s, 0 ≤ i ∧ i < (L.length : Int)) → (∀ q, 0 ≤ L.getD q 0 ∧ L.getD q 0 ≤ (B : Int)) → B + s.length ≤ 100000000 →
    ∀ q : Nat, (bump L s).getD q 0 = L.getD q 0 + (s.count (q : Int) : Int) ∧ 0 ≤ (bump L s).getD q 0 ∧ (bump L s).getD q 0 ≤ ((B + s.length : Nat) : Int) := by
  induction s with
  | nil => intro L B _ hB _ q; exact ⟨by show L.getD q 0 = _; simp, (hB q).1, by have := (hB q).2; show L.getD q 0 ≤ _; simp; exact this⟩
  | cons i s ih =>
    intro L B hs hB hb q
    have hi := hs i (by simp)
    simp only [List.length_cons] at hb
    have hg : ∀ q, (L.set i.toNat (wrap64 (L.getD i.toNat 0 + 1))).getD q 0 = if q = i.toNat then L.getD i.toNat 0 + 1 else L.getD q 0 := fun q => by
      have h := hB i.toNat
      rw [getD_set _ _ _ _ (by omega), w64 (by omega) (by omega)]
    have h := ih (L.set i.toNat (wrap64 (L.getD i.toNat 0 + 1))) (B + 1) (fun j hj => by rw [List.length_set]; exact hs j (by simp [hj])) (fun q => by
      rw [hg]
      have h1 := hB i.toNat
      have h2 := hB q
      split <;> omega) (by omega) q
    show (bump (L.set i.toNat (wrap64 (L.getD i.toNat 0 + 1))) s).getD q 0 = _ ∧ _
    obtain ⟨h1, h2, h3⟩ := h
    refine ⟨?_, h2, by
      show (bump (L.set i.toNat (wrap64 (L.getD i.toNat 0 + 1))) s).getD q 0 ≤ _
      simp only [List.length_cons]
      omega⟩
    rw [h1, hg, List.count_cons]
    by_cases hq : q = i.toNat
    · rw [if_pos hq, if_pos (by rw [beq_iff_eq]; omega), hq]
      omega
    · rw [if_neg hq, if_neg (by rw [beq_iff_eq]; omega)]
      omega
theorem cnt_get (l : List It) : ∀ (L : List Int) (B : Nat), (∀ y ∈ l, ∀ i ∈ y.2, 0 ≤ i ∧ i < (L.length : Int)) → (∀ q, 0 ≤ L.getD q 0 ∧ L.getD q 0 ≤ (B : Int)) → B + ms l ≤ 100000000 →
    (cnt L l).length = L.length ∧ ∀ q : Nat, (cnt L l).getD q 0 = L.getD q 0 + mus (cntOf (q : Int)) l := by
  induction l with
  | nil => intro L B _ _ _; exact ⟨rfl, fun q => by show L.getD q 0 = _; rw [mus_nil]; omega⟩
  | cons y l ih =>
    intro L B hs hB hb
    rw [ms_cons] at hb
    have h0 := bump_get y.2 L B (fun i hi => hs y (by simp) i hi) hB (by omega)
    obtain ⟨h1, h2⟩ := ih (bump L y.2) (B + y.2.length) (fun z hz i hi => by rw [bump_len]; exact hs z (by simp [hz]) i hi) (fun q => (h0 q).2) (by omega)
    refine ⟨by show (cnt (bump L y.2) l).length = _; rw [h1, bump_len], fun q => ?_⟩
    show (cnt (bump L y.2) l).getD q 0 = _
    rw [h2 q, (h0 q).1, mus_cons]
    unfold cntOf
    omega
/-! ### those that come at all -/
structure Sg (often : List Int) (k : Nat) (S : List It) : Prop where
  each : ∀ y ∈ S, ∃ x : Nat, x < k ∧ y = (often.getD x 0, [(x : Int)]) ∧ 0 < often.getD x 0
  all : ∀ x : Nat, x < k → 0 < often.getD x 0 → (often.getD x 0, [(x : Int)]) ∈ S
  nodup : S.Pairwise (fun a b => a.2 ≠ b.2)
  range : ∀ x : Nat, x < k → 0 ≤ often.getD x 0 ∧ often.getD x 0 ≤ 1048576
theorem sgl_sg {often : List Int} : ∀ (k : Nat) (S : List It), sgl often k = some S → Sg often k S
  | 0, S, h => by
    obtain rfl := Option.some.inj h
    exact ⟨fun y hy => (by cases hy), fun x hx => absurd hx (by omega), .nil, fun x hx => absurd hx (by omega)⟩
  | k + 1, S, h => by
    cases hs : sgl often k with
    | none => rw [sgl, hs] at h; cases h
    | some S0 =>
      have ih := sgl_sg k S0 hs
      rw [sgl_step hs] at h
      by_cases h1 : often.getD k 0 < 0 ∨ often.getD k 0 > 1048576
      · rw [if_pos h1] at h; cases h
      rw [if_neg h1] at h
      have hr : ∀ x : Nat, x < k + 1 → 0 ≤ often.getD x 0 ∧ often.getD x 0 ≤ 1048576 := fun x hx => by
        by_cases hk : x = k
        · subst hk; omega
        · exact ih.range x (by omega)
      by_cases h2 : often.getD k 0 > 0
      · rw [if_pos h2] at h
        obtain rfl := Option.some.inj h
        refine ⟨fun y hy => ?_, fun x hx hp => ?_, ?_, hr⟩
        · rcases List.mem_append.1 hy with hy | hy
          · obtain ⟨x, hx, e⟩ := ih.each y hy
            exact ⟨x, by omega, e⟩
          · obtain rfl : y = _ := by simpa using hy
            exact ⟨k, by omega, rfl, h2⟩
        · by_cases hk : x = k
          · subst hk; simp
          · exact List.mem_append_left _ (ih.all x (by omega) hp)
        · rw [List.pairwise_append]
          refine ⟨ih.nodup, List.pairwise_singleton .., fun a ha b hb => ?_⟩
          obtain rfl : b = _ := by simpa using hb
          obtain ⟨x, hx, e, _⟩ := ih.each a ha
          rw [e]
          simp
          omega
      · rw [if_neg h2] at h
        obtain rfl := Option.some.inj h
        refine ⟨fun y hy => ?_, fun x hx hp => ?_, ih.nodup, hr⟩
        · obtain ⟨x, hx, e⟩ := ih.each y hy
          exact ⟨x, by omega, e⟩
        · by_cases hk : x = k
          · subst hk; omega
          · exact ih.all x (by omega) hp
/-- the symbol of a single coin -/
def sy (y : It) : Nat := (y.2.getD 0 0).toNat
/-- what lengths are that the program makes -/
structure Made (often : List Int) (most : Int) (S : List It) (L : List Int) : Prop where
  len : L.length = often.length
  zero : ∀ x : Nat, x < often.length → often.getD x 0 ≤ 0 → L.getD x 0 = 0
  pos : ∀ x : Nat, x < often.length → 0 < often.getD x 0 → 1 ≤ L.getD x 0 ∧ L.getD x 0 ≤ most
  rare : ∀ x y : Nat, x < often.length → y < often.length → often.getD y 0 < often.getD x 0 → 0 < often.getD y 0 → L.getD x 0 ≤ L.getD y 0
  sum : mus (fun y => 2 ^ (15 - (L.getD (sy y) 0).toNat)) S = if S.length = 0 then 0 else if S.length = 1 then 16384 else 32768
  cost : mus (fun y => y.1 * L.getD (sy y) 0) S = if S.length < 2 then mo S else mo ((rows (srt ltP S) (most.toNat - 1)).take (2 * S.length - 2))
theorem rep_get (n q : Nat) : (List.replicate n (0 : Int)).getD q 0 = 0 := by
  rw [List.getD_eq_getElem?_getD, List.getElem?_replicate]
  split <;> rfl
theorem sm_one (g : Nat → Int) (j : Nat) : ∀ n, j < n → (∀ i, i < n → i ≠ j → g i = 0) → sm g n = g j
  | 0, h, _ => absurd h (by omega)
  | n + 1, h, e => by
    rw [sm]
    by_cases hj : j = n
    · subst hj
      rw [sm_zero g j (fun i hi => e i (by omega) (by omega))]
      omega
    · rw [sm_one g j n (by omega) (fun i hi hne => e i (by omega) hne), e n (by omega) (fun h => hj h.symm)]
      omega
theorem sm_const (c : Int) : ∀ n, sm (fun _ => c) n = (n : Int) * c
  | 0 => by rw [sm]; simp
  | n + 1 => by
    rw [sm, sm_const c n, show ((n + 1 : Nat) : Int) = (n : Int) + 1 by omega, Int.add_mul]
    omega
theorem sm_sub (g h : Nat → Int) : ∀ n, sm (fun i => g i - h i) n = sm g n - sm h n
  | 0 => rfl
  | n + 1 => by rw [sm, sm, sm, sm_sub g h n]; omega
theorem sm_nonneg (g : Nat → Int) (h : ∀ i, 0 ≤ g i) : ∀ n, 0 ≤ sm g n
  | 0 => Int.le_refl _
  | n + 1 => by rw [sm]; have := h n; have := sm_nonneg g h n; omega
theorem sm_first (g : Nat → Int) (h : ∀ i, 0 ≤ g i) : ∀ n, g 0 ≤ sm g (n + 1)
  | 0 => by rw [sm, sm]; omega
  | n + 1 => by rw [sm]; have := h (n + 1); have := sm_first g h n; omega
theorem mus_all (μ : It → Int) (S : List It) : mus μ S = sm (fun i => μ S[i]!) S.length := by
  have := mus_take μ S S.length (Nat.le_refl _)
  rwa [List.take_length] at this
theorem mo_mus (l : List It) : mo l = mus (·.1) l := rfl
/-- two or more -/
theorem made_many (often : List Int) (most : Int) (S0 : List It) (hs : sgl often often.length = some S0) (hn : often.length ≤ 320) (h1 : 1 ≤ most) (h2 : most ≤ 15) (hm : S0.length ≤ 2 ^ most.toNat) (h3 : 2 ≤ S0.length) :
    Made often most S0 (cnt (List.replicate often.length 0) ((rows (srt ltP S0) (most.toNat - 1)).take (2 * S0.length - 2))) := by
  have G := sgl_sg often.length S0 hs
  obtain ⟨hinv, hl⟩ := sgl_inv often.length S0 hs
  obtain ⟨S, hS⟩ : ∃ S, S = srt ltP S0 := ⟨_, rfl⟩
  rw [← hS]
  have hperm : S.Perm S0 := by rw [hS]; exact srt_perm _ _
  have hSl : S.length = S0.length := hperm.length_eq
  have hSt : St ky S := by rw [hS, ← kl_ky]; exact srt_st ky S0
  have hPos : Pos S := fun y hy => by
    obtain ⟨x, _, e, hp⟩ := G.each y (hperm.subset hy)
    rw [e]
    exact hp
  obtain ⟨k, hk⟩ : ∃ k, k = most.toNat - 1 := ⟨_, rfl⟩
  rw [← hk]
  have ht : 2 * S0.length - 2 ≤ (rows S k).length := by
    have := rows_enough S most.toNat (by omega) (by omega)
    rw [hk, ← hSl]
    exact this
  obtain ⟨c, f, D⟩ := desc S hSt hPos k (2 * S0.length - 2) (by omega) ht
  have hri := rows_inv (hinv.perm hperm) (by omega) k
  have htk : ∀ y ∈ (rows S k).take (2 * S0.length - 2), ∀ i ∈ y.2, 0 ≤ i ∧ i < (often.length : Int) := fun y hy i hi => hri.sym y (List.mem_of_mem_take hy) i hi
  have hms : ms ((rows S k).take (2 * S0.length - 2)) ≤ 100000 := by
    have e : ms (rows S k) = ms ((rows S k).take (2 * S0.length - 2)) + ms ((rows S k).drop (2 * S0.length - 2)) := by rw [← ms_append, List.take_append_drop]
    have hle := hri.len
    have hb : (k + 1) * S0.length ≤ 15 * 320 := Nat.mul_le_mul (by omega) (by omega)
    omega
  obtain ⟨hLl, hLg⟩ := cnt_get ((rows S k).take (2 * S0.length - 2)) (List.replicate often.length 0) 0 (fun y hy i hi => by rw [List.length_replicate]; exact htk y hy i hi) (fun q => by rw [rep_get]; exact ⟨Int.le_refl _, Int.le_refl _⟩) (by omega)
  obtain ⟨L, hL⟩ : ∃ L, L = cnt (List.replicate often.length 0) ((rows S k).take (2 * S0.length - 2)) := ⟨_, rfl⟩
  rw [← hL] at hLl hLg ⊢
  have hLq : ∀ q : Nat, L.getD q 0 = sm (fun i => (f i : Int) * cntOf (q : Int) S[i]!) S.length := fun q => by
    rw [hLg q, rep_get, D.mu _ (cntOf_add _)]
    omega
  -- each coin's symbol
  have hat : ∀ j, j < S.length → ∃ x : Nat, x < often.length ∧ S[j]! = (often.getD x 0, [(x : Int)]) ∧ 0 < often.getD x 0 := fun j hj => by
    obtain ⟨x, hx, e, hp⟩ := G.each S[j]! (hperm.subset (by rw [getElem!_pos S j hj]; exact List.getElem_mem hj))
    exact ⟨x, hx, e, hp⟩
  have hnd : S.Pairwise (fun a b => a.2 ≠ b.2) := (hperm.symm.pairwise_iff (fun h => h.symm)).1 G.nodup
  have hdis : ∀ i j, i < S.length → j < S.length → i ≠ j → S[i]!.2 ≠ S[j]!.2 := fun i j hi hj hne => by
    rw [getElem!_pos S i hi, getElem!_pos S j hj]
    rcases Nat.lt_or_ge i j with h | h
    · exact List.pairwise_iff_getElem.1 hnd i j hi hj h
    · exact (List.pairwise_iff_getElem.1 hnd j i hj hi (by omega)).symm
  have hLf : ∀ j x : Nat, j < S.length → S[j]!.2 = [(x : Int)] → L.getD x 0 = (f j : Int) := fun j x hj e => by
    rw [hLq x, sm_one _ j S.length hj (fun i hi hne => by
      obtain ⟨x', _, e', _⟩ := hat i hi
      have hd := hdis i j hi hj hne
      rw [e, e'] at hd
      unfold cntOf
      rw [e']
      have : ¬ ((x' : Int) = (x : Int)) := fun h => hd (by rw [h])
      simp [List.count_cons, this])]
    unfold cntOf
    rw [e]
    simp
  have hLz : ∀ x : Nat, (∀ j, j < S.length → S[j]!.2 ≠ [(x : Int)]) → L.getD x 0 = 0 := fun x h => by
    rw [hLq x]
    refine sm_zero _ _ (fun i hi => ?_)
    obtain ⟨x', _, e', _⟩ := hat i hi
    have hd := h i hi
    unfold cntOf
    rw [e'] at hd ⊢
    have : ¬ ((x' : Int) = (x : Int)) := fun h => hd (by rw [h])
    simp [List.count_cons, this]
  have hfind : ∀ x : Nat, x < often.length → 0 < often.getD x 0 → ∃ j, j < S.length ∧ S[j]! = (often.getD x 0, [(x : Int)]) := fun x hx hp => by
    have hm := hperm.symm.subset (G.all x hx hp)
    obtain ⟨j, hj, e⟩ := List.getElem_of_mem hm
    exact ⟨j, hj, by rw [getElem!_pos S j hj, e]⟩
  have hfill : sm (fun i => (2 : Int) ^ (15 - f i)) S.length = 32768 := by
    have h := D.fill
    rw [sm_sub (fun _ => 32768) (fun i => (2 : Int) ^ (15 - f i)), sm_const] at h
    omega
  have hf1 : ∀ j, j < S.length → 1 ≤ f j := fun j hj => by
    rcases Nat.eq_zero_or_pos (f j) with h0 | h0
    · exfalso
      have hz : f (S.length - 1) = 0 := by have := D.anti j (S.length - 1) (by omega); omega
      have e : S.length = (S.length - 2 + 1) + 1 := by omega
      rw [e, sm, show S.length - 2 + 1 = S.length - 1 by omega, hz] at hfill
      have h1 := sm_first (fun i => (2 : Int) ^ (15 - f i)) (fun i => Int.le_of_lt (Int.pow_pos (by decide))) (S.length - 2)
      rw [show S.length - 2 + 1 = S.length - 1 by omega] at h1
      have h2 : (0 : Int) < 2 ^ (15 - f 0) := Int.pow_pos (by decide)
      have h4 : (2 : Int) ^ (15 - 0) = 32768 := by decide
      rw [h4] at hfill
      have h1' : (2 : Int) ^ (15 - f 0) ≤ sm (fun i => (2 : Int) ^ (15 - f i)) (S.length - 1) := h1
      omega
    · exact h0
  have hsy : ∀ j, j < S.length → L.getD (sy S[j]!) 0 = (f j : Int) := fun j hj => by
    obtain ⟨x, hx, e, hp⟩ := hat j hj
    have e2 : sy S[j]! = x := by
      rw [e]
      show ((([(x : Int)] : List Int)).getD 0 0).toNat = x
      simp
    rw [e2]
    exact hLf j x hj (by rw [e])
  refine ⟨by rw [hLl, List.length_replicate], fun x hx hz => hLz x (fun j hj e => ?_), fun x hx hp => ?_, fun x y hx hy hlt hp => ?_, ?_, ?_⟩
  · obtain ⟨x', hx', e', hp'⟩ := hat j hj
    rw [e'] at e
    have : (x' : Int) = (x : Int) := by simpa using e
    obtain rfl : x' = x := by omega
    omega
  · obtain ⟨j, hj, e⟩ := hfind x hx hp
    rw [hLf j x hj (by rw [e])]
    have := hf1 j hj
    have := D.most j
    omega
  · obtain ⟨j, hj, e⟩ := hfind x hx (by omega)
    obtain ⟨i, hi, e'⟩ := hfind y hy hp
    rw [hLf j x hj (by rw [e]), hLf i y hi (by rw [e'])]
    have hij : i ≤ j := by
      rcases Nat.lt_or_ge j i with h | h
      · exfalso
        have := st_at ky hSt (show j ≤ i by omega) hi
        rw [e, e'] at this
        have h5 : often.getD x 0 ≤ often.getD y 0 := this
        omega
      · exact h
    have := D.anti i j hij
    omega
  · rw [← mus_perm _ hperm, mus_all, if_neg (by omega), if_neg (by omega), ← hfill]
    refine sm_congr _ (fun j hj => ?_)
    rw [hsy j hj]
    simp
  · rw [← mus_perm _ hperm, mus_all, if_neg (by omega), mo_mus, ← hS, ← hk, D.mu (·.1) (fun _ _ => rfl)]
    refine sm_congr _ (fun j hj => ?_)
    rw [hsy j hj, Int.mul_comm]
/-- none or one -/
theorem made_few (often : List Int) (most : Int) (S0 : List It) (hs : sgl often often.length = some S0) (hn : often.length ≤ 320) (h1 : 1 ≤ most) (h3 : S0.length < 2) :
    Made often most S0 (cnt (List.replicate often.length 0) S0) := by
  have G := sgl_sg often.length S0 hs
  match S0, h3 with
  | [], _ =>
    refine ⟨List.length_replicate, fun x hx hz => rep_get _ _, fun x hx hp => ?_, fun x y hx hy hlt hp => ?_, rfl, rfl⟩
    · have := G.all x hx hp; cases this
    · have := G.all y hy hp; cases this
  | [y], _ =>
    obtain ⟨x0, hx0, e, hp0⟩ := G.each y (by simp)
    subst e
    have hL : cnt (List.replicate often.length 0) [(often.getD x0 0, [(x0 : Int)])] = (List.replicate often.length 0).set x0 1 := by
      show (List.replicate often.length (0 : Int)).set (x0 : Int).toNat (wrap64 ((List.replicate often.length (0 : Int)).getD (x0 : Int).toNat 0 + 1)) = _
      rw [Int.toNat_natCast, rep_get]
      congr 1
      unfold wrap64
      decide
    rw [hL]
    have hg : ∀ q, ((List.replicate often.length (0 : Int)).set x0 1).getD q 0 = if q = x0 then 1 else 0 := fun q => by
      rw [getD_set _ _ _ _ (by rw [List.length_replicate]; exact hx0), rep_get]
    have hone : ∀ x : Nat, x < often.length → 0 < often.getD x 0 → x = x0 := fun x hx hp => by
      have := G.all x hx hp
      have h2 : (often.getD x 0, [(x : Int)]) = (often.getD x0 0, [(x0 : Int)]) := by simpa using this
      injection h2 with _ h2
      have : (x : Int) = (x0 : Int) := by simpa using h2
      omega
    have hs0 : sy (often.getD x0 0, [(x0 : Int)]) = x0 := by
      show ((([(x0 : Int)] : List Int)).getD 0 0).toNat = x0
      simp
    refine ⟨by rw [List.length_set, List.length_replicate], fun x hx hz => ?_, fun x hx hp => ?_, fun x y hx hy hlt hp => ?_, ?_, ?_⟩
    · rw [hg, if_neg (fun h => by subst h; omega)]
    · rw [hg, if_pos (hone x hx hp)]
      omega
    · have h4 := hone x hx (by omega)
      have h5 := hone y hy hp
      rw [h4, h5] at hlt
      omega
    · show (2 : Int) ^ _ + 0 = _
      rw [hs0, hg, if_pos rfl, if_neg (by simp), if_pos (by simp)]
      decide
    · show often.getD x0 0 * _ + 0 = often.getD x0 0 + 0
      rw [hs0, hg, if_pos rfl]
      omega
/-- may lengths be asked for? -/
def May (often : List Int) (most : Int) : Prop := often.length ≤ 320 ∧ 1 ≤ most ∧ most ≤ 15 ∧ ∃ S, sgl often often.length = some S ∧ S.length ≤ 2 ^ most.toNat
theorem lensF_may (often : List Int) (most : Int) (h : May often most) : ∃ S L, sgl often often.length = some S ∧ S.length ≤ 2 ^ most.toNat ∧ lensF often most = some (L, 0) ∧ Made often most S L := by
  obtain ⟨h0, h1, h2, S, hs, hm⟩ := h
  have hp : ((2 : Int) ^ most.toNat) = ((2 ^ most.toNat : Nat) : Int) := by norm_cast
  unfold lensF
  rw [if_neg (by omega), hs]
  simp only
  rw [if_neg (by rw [hp]; omega)]
  by_cases h3 : S.length < 2
  · rw [if_pos h3]
    exact ⟨S, _, rfl, hm, rfl, made_few often most S hs h0 h1 h3⟩
  · rw [if_neg h3]
    exact ⟨S, _, rfl, hm, rfl, made_many often most S hs h0 h1 h2 hm (by omega)⟩
theorem lensF_not (often : List Int) (most : Int) (h : ¬ May often most) : lensF often most = some ([], 1) := by
  unfold lensF
  by_cases hb : (often.length : Int) > 320 ∨ most < 1 ∨ most > 15
  · rw [if_pos hb]
  rw [if_neg hb]
  cases hs : sgl often often.length with
  | none => rfl
  | some S =>
    have hp : ((2 : Int) ^ most.toNat) = ((2 ^ most.toNat : Nat) : Int) := by norm_cast
    simp only
    by_cases hm : (S.length : Int) > 2 ^ most.toNat
    · rw [if_pos hm]
    · exact absurd ⟨by omega, by omega, by omega, S, hs, by rw [hp] at hm; omega⟩ h
/-! ### sums over all -/
theorem made_fill {often : List Int} {most : Int} {S : List It} {L : List Int} (M : Made often most S L) : ∀ (k : Nat) (T : List It), k ≤ often.length → sgl often k = some T → (fillP L k).1 = mus (fun y => 2 ^ (15 - (L.getD (sy y) 0).toNat)) T ∧ (fillP L k).2 = T.length
  | 0, T, _, h => by
    obtain rfl := Option.some.inj h
    exact ⟨rfl, rfl⟩
  | k + 1, T, hk, h => by
    cases hs : sgl often k with
    | none => rw [sgl, hs] at h; cases h
    | some T0 =>
      obtain ⟨i1, i2⟩ := made_fill M k T0 (by omega) hs
      rw [sgl_step hs] at h
      split at h
      · cases h
      rename_i hr
      rw [fillP]
      by_cases hp : often.getD k 0 > 0
      · rw [if_pos hp] at h
        obtain rfl := Option.some.inj h
        have hl := M.pos k (by omega) hp
        rw [if_pos (by omega)]
        have e : sy (often.getD k 0, [(k : Int)]) = k := by
          show ((([(k : Int)] : List Int)).getD 0 0).toNat = k
          simp
        refine ⟨?_, ?_⟩
        · rw [mus_append, mus_cons, mus_nil, e, ← i1, show (15 - L.getD k 0).toNat = 15 - (L.getD k 0).toNat by omega]
          show _ + _ = _
          omega
        · rw [List.length_append, List.length_singleton, i2]
          show (T0.length : Int) + 1 = _
          omega
      · rw [if_neg hp] at h
        obtain rfl := Option.some.inj h
        rw [if_neg (by rw [M.zero k (by omega) (by omega)]; omega)]
        exact ⟨i1, i2⟩
theorem made_cost {often : List Int} {most : Int} {S : List It} {L : List Int} (M : Made often most S L) (hn : often.length ≤ 320) (h15 : most ≤ 15) : ∀ (k : Nat) (T : List It), k ≤ often.length → sgl often k = some T → costP often L k = mus (fun y => y.1 * L.getD (sy y) 0) T ∧ 0 ≤ costP often L k ∧ costP often L k ≤ (k : Int) * 15728640
  | 0, T, _, h => by
    obtain rfl := Option.some.inj h
    exact ⟨rfl, Int.le_refl _, by rw [costP]; omega⟩
  | k + 1, T, hk, h => by
    cases hs : sgl often k with
    | none => rw [sgl, hs] at h; cases h
    | some T0 =>
      obtain ⟨i1, i2, i3⟩ := made_cost M hn h15 k T0 (by omega) hs
      rw [sgl_step hs] at h
      split at h
      · cases h
      rename_i hr
      rw [costP]
      by_cases hp : often.getD k 0 > 0
      · rw [if_pos hp] at h
        obtain rfl := Option.some.inj h
        have hl := M.pos k (by omega) hp
        have e : sy (often.getD k 0, [(k : Int)]) = k := by
          show ((([(k : Int)] : List Int)).getD 0 0).toNat = k
          simp
        have hm1 : often.getD k 0 * L.getD k 0 ≤ 1048576 * 15 := Int.mul_le_mul (by omega) (by omega) (by omega) (by omega)
        have hm0 : 0 ≤ often.getD k 0 * L.getD k 0 := Int.mul_nonneg (by omega) (by omega)
        rw [mus_append, mus_cons, mus_nil, e, ← i1]
        show wrap64 (costP often L k + wrap64 (often.getD k 0 * L.getD k 0)) = costP often L k + (often.getD k 0 * L.getD k 0 + 0) ∧ _
        generalize often.getD k 0 * L.getD k 0 = z at hm0 hm1 ⊢
        rw [w64 (x := z) (by omega) (by omega), w64 (by omega) (by omega)]
        omega
      · rw [if_neg hp] at h
        obtain rfl := Option.some.inj h
        rw [M.zero k (by omega) (by omega), Int.mul_zero, w64 (x := 0) (by omega) (by omega), w64 (by omega) (by omega)]
        exact ⟨by rw [← i1]; omega, by omega, by omega⟩
end Go.Proofs.Ytachnclfgjdglaa.Pack
