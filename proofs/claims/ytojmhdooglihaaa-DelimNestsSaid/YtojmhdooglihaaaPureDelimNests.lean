/- Pairs lie within one another or apart; no mark gives more signs than it has. No conditions. -/
import Derived.Test.YtojmhdooglihaaaPAx0
import Derived.Test.YtojmhdooglihaaaPAx8
import Derived.Test.YtojmhdooglihaaaHeavy
import Derived.Test.YtojmhdooglihaaaKnown
import Derived.Test.YtojmhdooglihaaaFew
namespace Go.Proofs.Ytojmhdooglihaaa.Pure
open Go.RowKit Go.Proofs.Ytojmhdooglihaaa.PA Go.Proofs.YtojmhdooglihaaaW.PrintWords Go.Proofs.YtojmhdooglihaaaW.PrintLast
open Go.Proofs.YtojmhdooglihaaaAid Go.Proofs.Ytojmhdooglihaaa.Theory
set_option linter.unusedVariables false
theorem wOf_nn (s : Bool) : 1 ≤ wOf s ∧ wOf s ≤ 2 := by cases s <;> decide
theorem usedBy_nn (p : S33) (i : Nat) : 0 ≤ usedBy p i := by
  have := wOf_nn p.f2
  unfold usedBy
  split <;> split <;> omega
theorem used_cons (p : S33) (ps : List S33) (i : Nat) : used (p :: ps) i = usedBy p i + used ps i := by simp [used]
theorem used_nn (ps : List S33) (i : Nat) : 0 ≤ used ps i := by
  induction ps with
  | nil => simp [used]
  | cons p ps ih => rw [used_cons]; have := usedBy_nn p i; omega
theorem used_app (ps qs : List S33) (i : Nat) : used (ps ++ qs) i = used ps i + used qs i := by
  induction ps with
  | nil => simp [used]
  | cons p ps ih => rw [List.cons_append, used_cons, used_cons, ih]; omega
theorem used_take (ps : List S33) (m i : Nat) : used (ps.take m) i ≤ used ps i := by
  have h := used_app (ps.take m) (ps.drop m) i
  rw [List.take_append_drop] at h
  have := used_nn (ps.drop m) i
  omega
theorem nl2 (l : List S27) (L : List Int) (hl : l.length ≤ 300) (hL : L.length = l.length) (h : ∀ i : Nat, i < l.length → rd L (i : Int) ≤ mx 0 (rd_T27 l (i : Int)).f1) :
    ∀ d i : Nat, i + d = l.length → Ev (fun k => rubricatorlaw20_DelimNests.l2 k l L (i : Int)) true := by
  intro d
  induction d with
  | zero =>
    intro i hi
    refine ev_succ ?_
    simp only [rubricatorlaw20_DelimNests.l2]
    exact ev_else (by omega) known_end
  | succ d ih =>
    intro i hi
    have hil : i < l.length := by omega
    have := h i hil
    refine ev_succ ?_
    simp only [rubricatorlaw20_DelimNests.l2]
    refine ev_if (by omega) (ev_if (by omega) (ev_if (by rw [hL]; omega) (ev_else (by omega) ?_)))
    rw [w64i i (by omega)]
    exact ih (i + 1) (by omega)
theorem nj5 (l : List S27) (ps : List S33) (L : List Int) (m i : Int) (x y : Int) (s : Bool) (e : Ev (fun k => rubricatorlaw20_DelimNests.l1 k l ps L m (wrap64 (i + 1)) x y s) true) :
    Ev (fun k => rubricatorlaw20_DelimNests.j5 k l ps L m i false x y s) true := by
  refine ev_succ ?_
  simp only [rubricatorlaw20_DelimNests.j5]
  exact ev_else (by decide) e
theorem nj4 (l : List S27) (ps : List S33) (L : List Int) (m i : Int) (b : Bool) (x y : Int) (s : Bool) (u v : Int) (q : Bool) (h : b = true ∨ v ≤ x ∨ y ≤ u) (e : Ev (fun k => rubricatorlaw20_DelimNests.j5 k l ps L m i false x y s) true) :
    Ev (fun k => rubricatorlaw20_DelimNests.j4 k l ps L m i b x y s u v q) true := by
  refine ev_succ ?_
  simp only [rubricatorlaw20_DelimNests.j4]
  cases b with
  | true => exact ev_if rfl e
  | false =>
    refine ev_else (by decide) ?_
    by_cases c : v ≤ x
    · exact ev_if c e
    · refine ev_else c ?_
      have hd : (!(decide (y ≤ u))) = false := by
        have : y ≤ u := by
          rcases h with h | h | h
          · cases h
          · exact absurd h c
          · exact h
        rw [decide_eq_true this]; rfl
      rw [hd]
      exact e
theorem nl1 (l : List S27) (ps : List S33) (L : List Int) (m : Nat) (hm : m < ps.length) (hp : ps.length ≤ 9223372036854775000) (x y : Int) (s : Bool)
    (hn : ∀ j : Nat, j < m → Theory.Nest (rd_T33 ps (j : Int)) ⟨x, y, s⟩) (H : Ev (fun k => rubricatorlaw20_DelimNests.l0 k l ps L ((m + 1 : Nat) : Int)) true) :
    ∀ d i : Nat, i + d = m → Ev (fun k => rubricatorlaw20_DelimNests.l1 k l ps L (m : Int) (i : Int) x y s) true := by
  intro d
  induction d with
  | zero =>
    intro i hi
    refine ev_succ ?_
    simp only [rubricatorlaw20_DelimNests.l1]
    refine ev_else (by omega) ?_
    rw [w64i m (by omega)]
    exact H
  | succ d ih =>
    intro i hi
    have him : i < m := by omega
    have e5 : Ev (fun k => rubricatorlaw20_DelimNests.j5 k l ps L (m : Int) (i : Int) false x y s) true := by
      refine nj5 _ _ _ _ _ _ _ _ ?_
      rw [w64i i (by omega)]
      exact ih (i + 1) (by omega)
    have hN := hn i him
    generalize hb : rd_T33 ps (i : Int) = b at hN
    refine ev_succ ?_
    simp only [rubricatorlaw20_DelimNests.l1, hb]
    refine ev_if (by omega) (ev_if (by omega) (ev_if (by omega) ?_))
    have hN' : (b.f0 ≥ x ∧ b.f1 ≤ y) ∨ (x ≥ b.f0 ∧ y ≤ b.f1) ∨ b.f1 ≤ x ∨ y ≤ b.f0 := hN
    by_cases c1 : b.f0 ≥ x
    · refine ev_if c1 ?_
      by_cases c2 : b.f1 ≤ y
      · exact ev_if c2 (nj4 _ _ _ _ _ _ _ _ _ _ _ _ (Or.inl rfl) e5)
      · refine ev_else c2 ?_
        by_cases c3 : x ≥ b.f0
        · refine ev_if c3 (nj4 _ _ _ _ _ _ _ _ _ _ _ _ ?_ e5)
          rcases hN' with h | h | h
          · exact absurd h.2 c2
          · exact Or.inl (decide_eq_true h.2)
          · exact Or.inr h
        · refine ev_else c3 (nj4 _ _ _ _ _ _ _ _ _ _ _ _ ?_ e5)
          rcases hN' with h | h | h
          · exact absurd h.2 c2
          · exact absurd h.1 c3
          · exact Or.inr h
    · refine ev_else c1 ?_
      by_cases c3 : x ≥ b.f0
      · refine ev_if c3 (nj4 _ _ _ _ _ _ _ _ _ _ _ _ ?_ e5)
        rcases hN' with h | h | h
        · exact absurd h.1 c1
        · exact Or.inl (decide_eq_true h.2)
        · exact Or.inr h
      · exact absurd (by omega) c3
theorem nl0 (l : List S27) (ps : List S33) (hl : l.length ≤ 300) (hp : ps.length ≤ 9223372036854775000) (hg : ∀ p ∈ ps, Theory.Good l p) (hn : ps.Pairwise Theory.Nest)
    (hu : ∀ i : Nat, i < l.length → used ps i ≤ mx 0 (rd_T27 l (i : Int)).f1) (hb : ∀ i : Nat, i < l.length → used ps i ≤ 200) :
    ∀ d m : Nat, m + d = ps.length → ∀ L : List Int, L.length = l.length → (∀ i : Nat, i < l.length → rd L (i : Int) = used (ps.take m) i) → Ev (fun k => rubricatorlaw20_DelimNests.l0 k l ps L (m : Int)) true := by
  intro d
  induction d with
  | zero =>
    intro m hm L hL hI
    refine ev_succ ?_
    simp only [rubricatorlaw20_DelimNests.l0]
    refine ev_else (by omega) ?_
    refine nl2 l L hl hL (fun i hi => ?_) l.length 0 (by omega)
    rw [hI i hi, List.take_of_length_le (by omega)]
    exact hu i hi
  | succ d ih =>
    intro m hm L hL hI
    have hil : m < ps.length := by omega
    have hgp := hg ps[m] (List.getElem_mem hil)
    have hnp : ∀ j : Nat, j < m → Theory.Nest (rd_T33 ps (j : Int)) ps[m] := fun j hj => by
      rw [rd33_get ps j (by omega)]
      exact List.pairwise_iff_getElem.mp hn j m (by omega) hil hj
    have htake : ∀ i, used (ps.take (m + 1)) i = used (ps.take m) i + usedBy ps[m] i := fun i => by
      rw [List.take_succ_eq_append_getElem hil, used_snoc]
    generalize hP : ps[m] = P at hgp hnp htake
    obtain ⟨x, y, s⟩ := P
    obtain ⟨a1, a2, a3, a4, a5, a6⟩ := hgp
    simp only at a1 a2 a3 a4 a5 a6
    obtain ⟨xn, rfl⟩ := Int.eq_ofNat_of_zero_le a1
    obtain ⟨yn, rfl⟩ := Int.eq_ofNat_of_zero_le (show (0 : Int) ≤ y by omega)
    have hx : xn < l.length := by omega
    have hy : yn < l.length := by omega
    have hw := wOf_nn s
    have hbx := hb xn hx
    have hby := hb yn hy
    have tx := used_take ps m xn
    have ty := used_take ps m yn
    have nx := used_nn (ps.take m) xn
    have ny := used_nn (ps.take m) yn
    have j2ev : Ev (fun k => rubricatorlaw20_DelimNests.j2 k l ps L (m : Int) (wOf s) (xn : Int) (yn : Int) s) true := by
      refine ev_succ ?_
      simp only [rubricatorlaw20_DelimNests.j2]
      refine ev_if (by omega) (ev_if (by rw [hL]; omega) (ev_some (ev_if (by omega) (ev_if (by rw [hL]; omega) ?_))))
      refine nl1 l ps _ m hil hp _ _ s hnp ?_ m 0 (by omega)
      have w1 : wrap64 (rd L (xn : Int) + wOf s) = used (ps.take m) xn + wOf s := by
        rw [hI xn hx]
        unfold wrap64
        omega
      have hne : yn ≠ xn := by omega
      have w2 : wrap64 (rd (L.set xn (used (ps.take m) xn + wOf s)) (yn : Int) + wOf s) = used (ps.take m) yn + wOf s := by
        rw [rd_set L xn yn _ (by omega), if_neg hne, hI yn hy]
        unfold wrap64
        omega
      rw [w1, Int.toNat_natCast, Int.toNat_natCast, w2]
      refine ih (m + 1) (by omega) _ (by simp [hL]) (fun i hi => ?_)
      rw [rd_set _ yn i _ (by simp; omega), rd_set L xn i _ (by omega), htake i]
      unfold usedBy
      simp only
      by_cases e1 : i = yn
      · subst e1
        rw [if_pos rfl, if_neg (by omega), if_pos rfl]
        omega
      · rw [if_neg e1]
        by_cases e2 : i = xn
        · subst e2
          rw [if_pos rfl, if_pos rfl, if_neg (by omega)]
          omega
        · rw [if_neg e2, if_neg (by omega), if_neg (by omega), hI i hi]
          omega
    have j1ev : Ev (fun k => rubricatorlaw20_DelimNests.j1 k l ps L (m : Int) false (xn : Int) (yn : Int) s) true := by
      refine ev_succ ?_
      simp only [rubricatorlaw20_DelimNests.j1]
      refine ev_else (by decide) ?_
      cases s with
      | true => exact ev_if rfl j2ev
      | false => exact ev_else (by decide) j2ev
    refine ev_succ ?_
    simp only [rubricatorlaw20_DelimNests.l0, rd33_get ps m hil, hP]
    refine ev_if (by omega) (ev_if (by omega) (ev_else (by omega) (ev_else (by omega) (ev_else (by omega) (ev_if (by omega) (ev_if (by omega) (ev_if (by omega) (ev_if (by omega) (ev_if a4 (ev_if a5 ?_))))))))))
    rw [a6]
    exact j1ev
theorem DelimNests : rubricatorlaw20_DelimNests.Pure := by
  intro l0 hl
  refine Ev.rounds (r := true) ?_
  unfold rubricatorlaw20_DelimNests.f
  obtain ⟨b, hb, hh⟩ := heavy_ev l0 (by omega)
  refine Ev.bind hb ?_
  cases b with
  | true => exact ev_if rfl (Ev.now _)
  | false =>
    obtain ⟨hn, hN⟩ := hh rfl
    refine ev_else (by decide) ?_
    obtain ⟨ps, g1, g2, g3, g4⟩ := match_ev l0 (by omega) hN
    have hu : ∀ i : Nat, i < l0.length → used ps i ≤ 200 := fun i hi => by have := g4 i hi; have := mx_bd _ (hN i hi); omega
    have hp := len_bd g2 hu hn
    refine Ev.bind g1 (ev_if (by omega) (ev_if (by omega) ?_))
    refine nl0 l0 ps hn hp g2 g3 g4 hu ps.length 0 (by omega) _ (by simp) (fun i hi => ?_)
    rw [rd_nat]
    simp [used, List.getD_eq_getElem?_getD, hi]
end Go.Proofs.Ytojmhdooglihaaa.Pure
