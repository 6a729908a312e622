/- Chains: from a place to the next one, until there is none; a chain that never comes back to where it began ends within as many steps as there are places. Plain law; no conditions but those that each theorem says. -/
namespace Go.Proofs.YtahgfbficidjlaaDoorChain
set_option linter.unusedVariables false

/-- so many steps on -/
def it (nx : Nat → Option Nat) : Nat → Nat → Option Nat
  | 0, k => some k
  | t + 1, k => (nx k).bind (it nx t)
theorem it_add (nx : Nat → Option Nat) : ∀ (a b k : Nat), it nx (a + b) k = (it nx a k).bind (it nx b)
  | 0, b, k => by rw [Nat.zero_add]; rfl
  | a + 1, b, k => by
    rw [Nat.succ_add]
    show (nx k).bind (it nx (a + b)) = ((nx k).bind (it nx a)).bind (it nx b)
    cases nx k with
    | none => rfl
    | some m => exact it_add nx a b m
theorem it_one (nx : Nat → Option Nat) (k : Nat) : it nx 1 k = nx k := by
  show (nx k).bind (fun m => some m) = nx k
  cases nx k <;> rfl
theorem it_le {nx : Nat → Option Nat} {a b k y : Nat} (hab : a ≤ b) (h : it nx b k = some y) : ∃ x, it nx a k = some x := by
  obtain ⟨d, rfl⟩ := Nat.exists_eq_add_of_le hab
  rw [it_add] at h
  cases hx : it nx a k with
  | none => rw [hx] at h; cases h
  | some x => exact ⟨x, rfl⟩
theorem it_lt {nx : Nat → Option Nat} {n : Nat} (hn : ∀ k m, k < n → nx k = some m → m < n) : ∀ (t k y : Nat), k < n → it nx t k = some y → y < n
  | 0, k, y, hk, h => by cases h; exact hk
  | t + 1, k, y, hk, h => by
    replace h : (nx k).bind (it nx t) = some y := h
    cases hm : nx k with
    | none => rw [hm] at h; cases h
    | some m => rw [hm] at h; exact it_lt hn t m y (hn k m hk hm) h
/-- no more places than there are -/
theorem pigeon : ∀ (n t : Nat) (f : Nat → Nat), (∀ k, k ≤ t → f k < n) → (∀ a b, a < b → b ≤ t → f a ≠ f b) → t < n
  | 0, t, f, hf, _ => absurd (hf 0 (Nat.zero_le _)) (Nat.not_lt_zero _)
  | n + 1, t, f, hf, hi => by
    by_cases hj : ∃ j, j ≤ t ∧ f j = n
    · obtain ⟨j, hj, hv⟩ := hj
      cases t with
      | zero => exact Nat.succ_pos _
      | succ t =>
        refine Nat.succ_lt_succ (pigeon n t (fun k => if k = j then f (t + 1) else f k) ?_ ?_)
        · intro k hk
          by_cases e : k = j
          · have h1 := hf (t + 1) (Nat.le_refl _)
            have h2 := hi k (t + 1) (by omega) (Nat.le_refl _)
            rw [e, hv] at h2
            simp only [e, if_true]
            omega
          · have h1 := hf k (by omega)
            have h2 : f k ≠ n := by
              rcases Nat.lt_or_gt_of_ne e with h | h
              · have := hi k j h hj; rw [hv] at this; exact this
              · have := hi j k h (by omega); rw [hv] at this; exact fun e => this e.symm
            simp only [if_neg e]
            omega
        · intro a b hab hb
          by_cases ea : a = j
          · have eb : ¬ b = j := by omega
            simp only [if_pos ea, if_neg eb]
            exact fun e => hi b (t + 1) (by omega) (Nat.le_refl _) e.symm
          · by_cases eb : b = j
            · simp only [if_neg ea, if_pos eb]
              exact hi a (t + 1) (by omega) (Nat.le_refl _)
            · simp only [if_neg ea, if_neg eb]
              exact hi a b hab (by omega)
    · have := pigeon n t f (fun k hk => by
        have h1 := hf k hk
        have h2 : f k ≠ n := fun e => hj ⟨k, hk, e⟩
        omega) hi
      omega
/-- is there a bad step within so many? -/
def gB (bad : Nat → Nat → Bool) (nx : Nat → Option Nat) : Nat → Nat → Bool
  | 0, _ => false
  | f + 1, x => match nx x with
    | none => false
    | some m => if bad x m = true then true else gB bad nx f m
theorem gB_iff (bad : Nat → Nat → Bool) (nx : Nat → Option Nat) : ∀ (f x : Nat), gB bad nx f x = true ↔ ∃ t, t < f ∧ ∃ a m, it nx t x = some a ∧ nx a = some m ∧ bad a m = true
  | 0, x => ⟨fun h => (nomatch h), fun ⟨t, h, _⟩ => absurd h (Nat.not_lt_zero _)⟩
  | f + 1, x => by
    rw [gB]
    cases hx : nx x with
    | none =>
      refine ⟨fun h => (nomatch h), ?_⟩
      rintro ⟨t, ht, a, m, h1, h2, h3⟩
      cases t with
      | zero => cases h1; rw [hx] at h2; cases h2
      | succ t =>
        replace h1 : (nx x).bind (it nx t) = some a := h1
        rw [hx] at h1
        cases h1
    | some m =>
      show (if bad x m = true then true else gB bad nx f m) = true ↔ _
      by_cases hb : bad x m = true
      · rw [if_pos hb]
        exact ⟨fun _ => ⟨0, Nat.succ_pos _, x, m, rfl, hx, hb⟩, fun _ => rfl⟩
      · rw [if_neg hb, gB_iff bad nx f m]
        constructor
        · rintro ⟨t, ht, a, y, h1, h2, h3⟩
          exact ⟨t + 1, by omega, a, y, by show (nx x).bind (it nx t) = some a; rw [hx]; exact h1, h2, h3⟩
        · rintro ⟨t, ht, a, y, h1, h2, h3⟩
          cases t with
          | zero => cases h1; rw [hx] at h2; cases h2; exact absurd h3 hb
          | succ t =>
            replace h1 : (nx x).bind (it nx t) = some a := h1
            rw [hx] at h1
            exact ⟨t, by omega, a, y, h1, h2, h3⟩
theorem least {p : Nat → Prop} : ∀ (n : Nat), p n → ∃ m, m ≤ n ∧ p m ∧ ∀ k, k < m → ¬ p k := by
  intro n
  induction n using Nat.strongRecOn with
  | ind n ih =>
    intro h
    by_cases hk : ∃ k, k < n ∧ p k
    · obtain ⟨k, hk, hp⟩ := hk
      obtain ⟨m, h1, h2, h3⟩ := ih k hk hp
      exact ⟨m, by omega, h2, h3⟩
    · exact ⟨n, Nat.le_refl _, h, fun k hkn hp => hk ⟨k, hkn, hp⟩⟩
/-- whatever is bad is so within as many steps as there are places -/
theorem gB_more {bad : Nat → Nat → Bool} {nx : Nat → Option Nat} {n : Nat} (hn : ∀ k m, k < n → nx k = some m → m < n) {i : Nat} (hi : i < n) (d : Nat) : gB bad nx (n + d) i = gB bad nx n i := by
  rw [Bool.eq_iff_iff, gB_iff, gB_iff]
  constructor
  · rintro ⟨t, _, h⟩
    obtain ⟨t0, _, ⟨a, m, h1, h2, h3⟩, hl⟩ := least (p := fun t => ∃ a m, it nx t i = some a ∧ nx a = some m ∧ bad a m = true) t h
    refine ⟨t0, ?_, a, m, h1, h2, h3⟩
    have hs : ∀ k, k ≤ t0 → ∃ x, it nx k i = some x := fun k hk => it_le hk h1
    refine pigeon n t0 (fun k => (it nx k i).getD 0) ?_ ?_
    · intro k hk
      obtain ⟨x, hx⟩ := hs k hk
      show (it nx k i).getD 0 < n
      rw [hx]
      exact it_lt hn k i x hi hx
    · intro b c hbc hc e
      obtain ⟨x, hx⟩ := hs b (by omega)
      obtain ⟨y, hy⟩ := hs c hc
      replace e : (it nx b i).getD 0 = (it nx c i).getD 0 := e
      rw [hx, hy] at e
      obtain rfl : x = y := e
      refine hl (b + (t0 - c)) (by omega) ⟨a, m, ?_, h2, h3⟩
      rw [it_add, hx]
      have h4 := h1
      rw [← Nat.add_sub_cancel' hc, it_add, hy] at h4
      exact h4
  · rintro ⟨t, ht, h⟩
    exact ⟨t, by omega, h⟩
/-- where no chain comes back to where it began, each one ends -/
theorem ends {nx : Nat → Option Nat} {n : Nat} (hn : ∀ k m, k < n → nx k = some m → m < n) (hr : ∀ i, i < n → ∀ t, t < n → it nx (t + 1) i ≠ some i) {k : Nat} (hk : k < n) : it nx n k = none := by
  cases hy : it nx n k with
  | none => rfl
  | some y =>
    exfalso
    have hs : ∀ j, j ≤ n → ∃ x, it nx j k = some x := fun j hj => it_le hj hy
    refine absurd (pigeon n n (fun j => (it nx j k).getD 0) ?_ ?_) (Nat.lt_irrefl _)
    · intro j hj
      obtain ⟨x, hx⟩ := hs j hj
      show (it nx j k).getD 0 < n
      rw [hx]
      exact it_lt hn j k x hk hx
    · intro b c hbc hc e
      obtain ⟨x, hx⟩ := hs b (by omega)
      obtain ⟨z, hz⟩ := hs c hc
      replace e : (it nx b k).getD 0 = (it nx c k).getD 0 := e
      rw [hx, hz] at e
      obtain rfl : x = z := e
      have h4 := hz
      rw [← Nat.add_sub_cancel' (Nat.le_of_lt hbc), it_add, hx] at h4
      refine hr x (it_lt hn b k x hk hx) (c - b - 1) (by omega) ?_
      rw [show c - b - 1 + 1 = c - b by omega]
      exact h4
/-- the first thing that is said along a chain -/
def sG (what : Nat → Int) (nx : Nat → Option Nat) : Nat → Nat → Int
  | 0, _ => 0
  | f + 1, k => if what k ≠ 0 then what k else match nx k with
    | none => 0
    | some m => sG what nx f m
end Go.Proofs.YtahgfbficidjlaaDoorChain
