/- What a paragraph's style and a run's style both turn on is off; what a run says itself holds. No conditions. -/
import Derived.Test.YtahgfbficidjlaaDoorPAx7
import Derived.Test.YtahgfbficidjlaaDoorKnown
namespace Go.Proofs.YtahgfbficidjlaaDoor.Pure
open Go.RowKit Go.Proofs.YtahgfbficidjlaaDoor.PA Go.Proofs.YtahgfbficidjlaaDoorW.PrintWords Go.Proofs.YtahgfbficidjlaaDoorW.PrintLast Go.Proofs.YtahgfbficidjlaaDoorAid Go.Proofs.YtahgfbficidjlaaDoorChain Go.Proofs.YtahgfbficidjlaaDoor.Sty Go.Proofs.YtahgfbficidjlaaDoor.Say Go.Proofs.YtahgfbficidjlaaDoor.Known
set_option linter.unusedVariables false
set_option linter.unusedSimpArgs false

/-- a name of so many letters, all one -/
def P (c : UInt8) (j : Nat) : ByteArray := ba (List.replicate (j + 1) c)
theorem ba_app (a b : List UInt8) : ba a ++ ba b = ba (a ++ b) := by
  have : (ba a ++ ba b).data.toList = (ba (a ++ b)).data.toList := by
    rw [ByteArray.data_append, Array.toList_append]
    rfl
  exact dl.1 this
theorem P_next (c : UInt8) (j : Nat) : P c j ++ ba [c] = P c (j + 1) := by
  unfold P
  rw [ba_app, ← List.replicate_succ']
theorem ba_size (l : List UInt8) : (ba l).size = l.length := by
  unfold ba ByteArray.size
  simp
theorem P_size (c : UInt8) (j : Nat) : (P c j).size = j + 1 := by
  unfold P
  rw [ba_size, List.length_replicate]
theorem P_inj {c d : UInt8} {i j : Nat} (h : P c i = P d j) : i = j ∧ c = d := by
  have h1 := ba_inj h
  have h2 := congrArg List.length h1
  rw [List.length_replicate, List.length_replicate] at h2
  obtain rfl : i = j := by omega
  rw [List.replicate_succ, List.replicate_succ] at h1
  exact ⟨rfl, (List.cons.inj h1).1⟩
def E (b : Bool) (c : UInt8) (r : Bool) : Nat → S35
  | 0 => ⟨P c 0, ba [], r, if b = true then 1 else 0, 0, 0⟩
  | j + 1 => ⟨P c (j + 1), P c j, r, 0, 0, 0⟩
def T (p q : Bool) : Nat → List S35
  | 0 => [E p 112 false 0, E q 114 true 0]
  | j + 1 => T p q j ++ [E p 112 false (j + 1), E q 114 true (j + 1)]
theorem T_len (p q : Bool) : ∀ j, (T p q j).length = 2 * j + 2
  | 0 => rfl
  | j + 1 => by rw [T, List.length_append, T_len p q j]; simp; omega
theorem X_left {a b : List S35} {k : Nat} (h : k < a.length) : X (a ++ b) k = X a k := by
  unfold X
  rw [List.getD_eq_getElem?_getD, List.getD_eq_getElem?_getD, List.getElem?_append_left h]
theorem X_right {a b : List S35} {k : Nat} (h : a.length ≤ k) : X (a ++ b) k = X b (k - a.length) := by
  unfold X
  rw [List.getD_eq_getElem?_getD, List.getD_eq_getElem?_getD, List.getElem?_append_right h]
theorem X_T (p q : Bool) : ∀ j i, i ≤ j → X (T p q j) (2 * i) = E p 112 false i ∧ X (T p q j) (2 * i + 1) = E q 114 true i
  | 0, i, h => by
    obtain rfl : i = 0 := by omega
    exact ⟨rfl, rfl⟩
  | j + 1, i, h => by
    have hl := T_len p q j
    rw [T]
    by_cases hi : i = j + 1
    · subst hi
      rw [X_right (by omega), X_right (by omega), show 2 * (j + 1) - (T p q j).length = 0 by omega, show 2 * (j + 1) + 1 - (T p q j).length = 1 by omega]
      exact ⟨rfl, rfl⟩
    · rw [X_left (by omega), X_left (by omega)]
      exact X_T p q j i (by omega)
theorem half {i n : Nat} (h : i < 2 * n + 2) : ∃ a, a ≤ n ∧ (i = 2 * a ∨ i = 2 * a + 1) := ⟨i / 2, by omega, by omega⟩
theorem E_ok (b : Bool) (c : UInt8) (r : Bool) : ∀ j, okS (E b c r j) = true
  | 0 => by
    cases b <;> cases r <;> rfl
  | j + 1 => by
    cases r <;> rfl
theorem E_f0 (b : Bool) (c : UInt8) (r : Bool) : ∀ j, (E b c r j).f0 = P c j
  | 0 => rfl
  | j + 1 => rfl
theorem E_f2 (b : Bool) (c : UInt8) (r : Bool) : ∀ j, (E b c r j).f2 = r
  | 0 => rfl
  | j + 1 => rfl
theorem T_dist (p q : Bool) (n : Nat) : ∀ i j, i < (T p q n).length → j < (T p q n).length → (X (T p q n) i).f0 = (X (T p q n) j).f0 → i = j := by
  intro i j hi hj e
  rw [T_len] at hi hj
  obtain ⟨a, ha, ha2⟩ := half hi
  obtain ⟨b, hb, hb2⟩ := half hj
  have h1 := X_T p q n a ha
  have h2 := X_T p q n b hb
  rcases ha2 with rfl | rfl <;> rcases hb2 with rfl | rfl
  · rw [h1.1, h2.1, E_f0, E_f0] at e
    have := (P_inj e).1
    omega
  · rw [h1.1, h2.2, E_f0, E_f0] at e
    exact absurd (P_inj e).2 (by decide)
  · rw [h1.2, h2.1, E_f0, E_f0] at e
    exact absurd (P_inj e).2 (by decide)
  · rw [h1.2, h2.2, E_f0, E_f0] at e
    have := (P_inj e).1
    omega
theorem T_res (p q : Bool) (n : Nat) : style_Check.res (T p q n) = (-1, 0) := by
  refine nice_res (fun k => k) (fun i hi => ?_) (T_dist p q n) (fun i hi => ?_)
  · rw [T_len] at hi
    obtain ⟨a, ha, rfl | rfl⟩ := half hi
    · rw [(X_T p q n a ha).1]; exact E_ok _ _ _ _
    · rw [(X_T p q n a ha).2]; exact E_ok _ _ _ _
  · rw [T_len] at hi
    obtain ⟨a, ha, ha2⟩ := half hi
    cases a with
    | zero =>
      have h := X_T p q n 0 (by omega)
      rcases ha2 with rfl | rfl
      · rw [h.1]; exact .inl rfl
      · rw [h.2]; exact .inl rfl
    | succ a =>
      have h := X_T p q n (a + 1) ha
      have h2 := X_T p q n a (by omega)
      rcases ha2 with rfl | rfl
      · exact .inr ⟨2 * a, by rw [T_len]; omega, by rw [h.1, h2.1, E_f0]; rfl, by show 2 * a < 2 * (a + 1); omega, by rw [h.1, h2.1, E_f2, E_f2]⟩
      · exact .inr ⟨2 * a + 1, by rw [T_len]; omega, by rw [h.2, h2.2, E_f0]; rfl, by show 2 * a + 1 < 2 * (a + 1) + 1; omega, by rw [h.2, h2.2, E_f2, E_f2]⟩
theorem sV_zero (l : List S35) (what : S35 → Int) (f k : Nat) (h0 : what (X l k) = 0) (hn : nx l k = none) : sV l what (f + 1) k = 0 := by
  rw [sV, sG, if_neg (by rw [h0]; simp), hn]
theorem sV_next (l : List S35) (what : S35 → Int) (f k m : Nat) (h0 : what (X l k) = 0) (hn : nx l k = some m) : sV l what (f + 1) k = sV l what f m := by
  rw [sV, sG, if_neg (by rw [h0]; simp), hn]
  rfl
theorem sV_here (l : List S35) (what : S35 → Int) (f k : Nat) (h0 : what (X l k) ≠ 0) : sV l what (f + 1) k = what (X l k) := by
  rw [sV, sG, if_pos h0]
theorem P_ne (c : UInt8) (j : Nat) : ¬ (P c j).data.toList = [] := fun h => by
  have : (P c j).data.toList = List.replicate (j + 1) c := rfl
  rw [this, List.replicate_succ] at h
  cases h
theorem T_even (p q : Bool) (n : Nat) : ∀ a f, a ≤ n → a < f → sV (T p q n) (·.f3) f (2 * a) = if p = true then 1 else 0
  | 0, f + 1, ha, hf => by
    have h := (X_T p q n 0 ha).1
    cases p with
    | true => rw [sV_here _ _ _ _ (by rw [h]; decide), h]; rfl
    | false =>
      refine sV_zero _ _ _ _ (by rw [h]; rfl) ?_
      unfold nx
      rw [h]
      exact if_pos (tl_nil.2 rfl)
  | a + 1, f + 1, ha, hf => by
    have h := (X_T p q n (a + 1) ha).1
    have h2 := (X_T p q n a (by omega)).1
    rw [sV_next _ _ _ _ (2 * a) (by rw [h]; rfl) (nx_of (T_dist p q n) (by rw [h]; exact P_ne _ _) (by rw [T_len]; omega) (by rw [h, h2, E_f0]; rfl))]
    exact T_even p q n a f (by omega) (by omega)
theorem T_odd (p q : Bool) (n : Nat) : ∀ a f, a ≤ n → a < f → sV (T p q n) (·.f3) f (2 * a + 1) = if q = true then 1 else 0
  | 0, f + 1, ha, hf => by
    have h := (X_T p q n 0 ha).2
    cases q with
    | true => rw [sV_here _ _ _ _ (by rw [h]; decide), h]; rfl
    | false =>
      refine sV_zero _ _ _ _ (by rw [h]; rfl) ?_
      unfold nx
      rw [h]
      exact if_pos (tl_nil.2 rfl)
  | a + 1, f + 1, ha, hf => by
    have h := (X_T p q n (a + 1) ha).2
    have h2 := (X_T p q n a (by omega)).2
    rw [sV_next _ _ _ _ (2 * a + 1) (by rw [h]; rfl) (nx_of (T_dist p q n) (by rw [h]; exact P_ne _ _) (by rw [T_len]; omega) (by rw [h, h2, E_f0]; rfl))]
    exact T_odd p q n a f (by omega) (by omega)
theorem ix_dist {l : List S35} (hD : ∀ i j, i < l.length → j < l.length → (X l i).f0 = (X l j).f0 → i = j) {k : Nat} {id : ByteArray} (hk : k < l.length) (h : (X l k).f0 = id) : style_find.ix id l = some k := by
  refine ix_of hk h (fun j hj e => ?_)
  have := hD j k (by omega) hk (e.trans h.symm)
  omega
theorem say_p (p q : Bool) (n : Nat) : sayV (T p q n) (·.f3) (P 112 n) false = if p = true then 1 else 0 := by
  have h := (X_T p q n n (Nat.le_refl _)).1
  have hl := T_len p q n
  unfold sayV
  rw [if_neg (fun e => P_ne _ _ (tl_nil.1 e)), ix_dist (T_dist p q n) (k := 2 * n) (by omega) (by rw [h, E_f0])]
  show (if ((X (T p q n) (2 * n)).f2 != false) = true then 0 else sV (T p q n) (·.f3) (T p q n).length (2 * n)) = _
  rw [h, E_f2, if_neg (by decide)]
  exact T_even p q n n _ (Nat.le_refl _) (by omega)
theorem say_q (p q : Bool) (n : Nat) : sayV (T p q n) (·.f3) (P 114 n) true = if q = true then 1 else 0 := by
  have h := (X_T p q n n (Nat.le_refl _)).2
  have hl := T_len p q n
  unfold sayV
  rw [if_neg (fun e => P_ne _ _ (tl_nil.1 e)), ix_dist (T_dist p q n) (k := 2 * n + 1) (by omega) (by rw [h, E_f0])]
  show (if ((X (T p q n) (2 * n + 1)).f2 != true) = true then 0 else sV (T p q n) (·.f3) (T p q n).length (2 * n + 1)) = _
  rw [h, E_f2, if_neg (by decide)]
  exact T_odd p q n n _ (Nat.le_refl _) (by omega)
theorem say_none {l : List S35} (what : S35 → Int) (h : ∀ k, what (X l k) = 0) (id : ByteArray) (r : Bool) : sayV l what id r = 0 := by
  unfold sayV
  split
  · rfl
  · cases style_find.ix id l with
    | none => rfl
    | some k =>
      show (if ((X l k).f2 != r) = true then 0 else sV l what l.length k) = 0
      split
      · rfl
      · exact sG_zero h _ _
theorem T_f4 (p q : Bool) (n k : Nat) : (X (T p q n) k).f4 = 0 := by
  by_cases hk : k < 2 * n + 2
  · obtain ⟨a, ha, rfl | rfl⟩ := half hk
    · rw [(X_T p q n a ha).1]; cases a <;> rfl
    · rw [(X_T p q n a ha).2]; cases a <;> rfl
  · rw [X_over (by rw [T_len]; omega)]
    rfl
/-- what the law wants -/
def want (p q : Bool) (e : Int) : Bool := if e = 1 then true else if e = 0 then (p != q) else false
theorem T_run (p q : Bool) (n : Nat) (e : Int) : runV (T p q n) (P 112 n) (P 114 n) e 0 = if want p q e = true then 1 else 0 := by
  unfold runV
  rw [T_res, if_pos rfl]
  have h1 : tog (T p q n) (P 112 n) (P 114 n) e (·.f3) = want p q e := by
    unfold tog want
    rw [say_p, say_q]
    cases p <;> cases q <;> rfl
  have h2 : tog (T p q n) (P 112 n) (P 114 n) 0 (·.f4) = false := by
    unfold tog
    rw [say_none _ (T_f4 p q n), say_none _ (T_f4 p q n)]
    rfl
  rw [h1, h2]
  cases want p q e <;> rfl
theorem T_small (p q : Bool) (n : Nat) (hn : n ≤ 20) : Small (T p q n) := by
  refine ⟨by rw [T_len]; omega, ?_⟩
  have hE : ∀ b c r j, j ≤ 20 → (E b c r j).f0.size ≤ 140737488351232 ∧ (E b c r j).f1.size ≤ 140737488351232 := by
    intro b c r j hj
    cases j with
    | zero => exact ⟨by rw [E_f0, P_size]; omega, by show (ba []).size ≤ _; rw [ba_size]; simp⟩
    | succ j => exact ⟨by rw [E_f0, P_size]; omega, by show (P c j).size ≤ _; rw [P_size]; omega⟩
  induction n with
  | zero =>
    intro s hs
    rw [T, List.mem_cons, List.mem_singleton] at hs
    rcases hs with rfl | rfl
    · exact hE _ _ _ _ (by omega)
    · exact hE _ _ _ _ (by omega)
  | succ n ih =>
    intro s hs
    rw [T, List.mem_append, List.mem_cons, List.mem_singleton] at hs
    rcases hs with hs | rfl | rfl
    · exact ih (by omega) s hs
    · exact hE _ _ _ _ (by omega)
    · exact hE _ _ _ _ (by omega)
theorem tog_j4 (p q : Bool) (n : Nat) (hn : n ≤ 20) (e : Int) : Ev (fun k => rubricatorlaw14_StyleToggles.j4 k e (T p q n) (P 112 n) (P 114 n) 0 (want p q e)) true := by
  refine ev_succ ?_
  simp only [rubricatorlaw14_StyleToggles.j4]
  have h := run_f (T_small p q n hn) (P 112 n) (P 114 n) e 0
  rw [T_run] at h
  by_cases hw : want p q e = true
  · rw [if_pos hw] at h
    exact ev_if hw (Ev.bind (ev_const h) (ev_if rfl (kn _ fun _ => rfl)))
  · rw [if_neg hw] at h
    exact ev_else hw (Ev.bind (ev_const h) (ev_if rfl (kn _ fun _ => rfl)))
theorem tog_l0 (p q : Bool) (n : Nat) (hn : n ≤ 20) (e : Int) : ∀ d j, j + d = n → Ev (fun k => rubricatorlaw14_StyleToggles.l0 k p q e (n : Int) (T p q j) (P 112 j) (P 114 j) (j : Int)) true := by
  intro d
  induction d with
  | zero =>
    intro j hj
    obtain rfl : j = n := by omega
    refine ev_succ ?_
    simp only [rubricatorlaw14_StyleToggles.l0]
    refine ev_else (by omega) ?_
    have h := tog_j4 p q j hn e
    unfold want at h
    by_cases h1 : e = 1
    · rw [if_pos h1] at h
      exact ev_if h1 h
    rw [if_neg h1] at h
    refine ev_else h1 ?_
    by_cases h2 : e = 0
    · rw [if_pos h2] at h
      exact ev_if h2 h
    rw [if_neg h2] at h
    exact ev_else h2 h
  | succ d ih =>
    intro j hj
    refine ev_succ ?_
    simp only [rubricatorlaw14_StyleToggles.l0]
    refine ev_if (by omega) (ev_if (by rw [P_size]; omega) (ev_if (by rw [P_size]; omega) ?_))
    rw [show (⟨#[112]⟩ : ByteArray) = ba [112] from rfl, show (⟨#[114]⟩ : ByteArray) = ba [114] from rfl, P_next, P_next, show wrap64 ((j : Int) + 1) = ((j + 1 : Nat) : Int) by unfold wrap64; omega]
    refine Ev.bind (ev_const rfl) (ev_if ?_ (ih (j + 1) (by omega)))
    rw [T_len]
    simp
    omega
theorem StyleToggles : rubricatorlaw14_StyleToggles.Pure := by
  intro p q e n _ _
  refine Ev.rounds (?_ : Ev (fun k => rubricatorlaw14_StyleToggles.f k p q e n) true)
  unfold rubricatorlaw14_StyleToggles.f
  have h1 : Ev (fun k => rubricatorlaw14_StyleToggles.j0 k p q e n true) true := by
    refine ev_succ ?_
    simp only [rubricatorlaw14_StyleToggles.j0]
    exact ev_if (by first | rfl | trivial) (kn _ fun _ => rfl)
  by_cases h : n < 0
  · exact ev_if h h1
  refine ev_else h ?_
  obtain ⟨m, rfl⟩ := Int.eq_ofNat_of_zero_le (by omega : 0 ≤ n)
  by_cases h2 : (m : Int) > 20
  · rw [decide_eq_true h2]
    exact h1
  rw [decide_eq_false h2]
  refine ev_succ ?_
  simp only [rubricatorlaw14_StyleToggles.j0]
  refine ev_else (by simp) (Ev.bind (ev_const rfl) ?_)
  have h3 : Ev (fun k => rubricatorlaw14_StyleToggles.j2 k p q e (m : Int) (T p q 0)) true := by
    refine ev_succ ?_
    simp only [rubricatorlaw14_StyleToggles.j2]
    exact tog_l0 p q m (by omega) e m 0 (by omega)
  have h4 : Ev (fun k => rubricatorlaw14_StyleToggles.j1 k p q e (m : Int) (T p false 0)) true := by
    refine ev_succ ?_
    simp only [rubricatorlaw14_StyleToggles.j1]
    cases q with
    | true => exact ev_if rfl (ev_if (by rw [T_len]; omega) h3)
    | false => exact ev_else (by simp) h3
  cases p with
  | true => exact ev_if rfl (ev_if (by decide) h4)
  | false => exact ev_else (by simp) h4
end Go.Proofs.YtahgfbficidjlaaDoor.Pure
