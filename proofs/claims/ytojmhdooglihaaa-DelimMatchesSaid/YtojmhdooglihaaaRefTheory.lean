/- The document's matching of marks comes to the same pairs. At most 1000 marks of at most 200 signs. -/
import Derived.Test.YtojmhdooglihaaaPAx0
import Derived.Test.YtojmhdooglihaaaPAx4
import Derived.Test.YtojmhdooglihaaaPAx6
import Derived.Test.YtojmhdooglihaaaTheory
namespace Go.Proofs.Ytojmhdooglihaaa.Theory
open Go.RowKit Go.Proofs.Ytojmhdooglihaaa.PA Go.Proofs.YtojmhdooglihaaaW.PrintWords Go.Proofs.YtojmhdooglihaaaW.PrintLast Go.Proofs.YtojmhdooglihaaaW.PrintMore
open Go.Proofs.YtojmhdooglihaaaAid
set_option linter.unusedVariables false
def c26 (x : S27) : S26 := ⟨x.f0, x.f1, x.f2, x.f3⟩
def c34 (x : S33) : S34 := ⟨x.f0, x.f1, x.f2⟩
theorem rd26_map (l : List S27) (x : Int) (h0 : 0 ≤ x) (h : x < l.length) : rd_T26 (l.map c26) x = c26 (rd_T27 l x) := by
  obtain ⟨i, rfl⟩ := Int.eq_ofNat_of_zero_le h0
  have hi : i < l.length := by omega
  simp [rd_T26, rd_T27, List.getD_eq_getElem?_getD, List.getElem?_eq_getElem hi]
theorem rtail_eq (a b : S27) : rtail (c26 a) (c26 b) = fitsTail a b := by
  unfold rtail fitsTail c26
  cases a.f3 <;> cases b.f2 <;> cases b.f3 <;> simp
theorem rfits_eq (l : List S27) (L : List Int) (O : List Bool) (x y : Int) (x0 : 0 ≤ x) (x1 : x < l.length) (y0 : 0 ≤ y) (y1 : y < l.length) : rfits (l.map c26) L O x y = fitsF l L O x y := by
  unfold rfits fitsF
  rw [rd26_map l x x0 x1, rd26_map l y y0 y1, rtail_eq]
  have e : (rd L x < 1) = (rd L x ≤ 0) := by rw [eq_iff_iff]; omega
  simp only [e]
  rfl
theorem rfind_eq (l : List S27) (L : List Int) (O : List Bool) (t : Nat) (ht : t < l.length) : ∀ m : Nat, m ≤ t → rfind (l.map c26) L O t m = ((delim_Match.find l L O t m : Nat) : Int) - 1
  | 0, _ => by simp [rfind, delim_Match.find]
  | m + 1, h => by
    rw [rfind, delim_Match.find, rfits_eq l L O m t (by omega) (by omega) (by omega) (by omega), rfind_eq l L O t ht m (by omega)]
    split <;> omega
theorem rmarkF_len (L : List Int) (x y : Int) : ∀ (d : Nat) (O : List Bool) (i : Int), (rmarkF L x y d O i).length = O.length
  | 0, O, i => rfl
  | d + 1, O, i => by rw [rmarkF, rmarkF_len L x y d]; simp [rmO]
theorem rmarkF_at (L : List Int) (x y : Int) : ∀ (d i : Nat) (O : List Bool) (j : Nat), i + d ≤ O.length → rdOf false (rmarkF L x y d O (i : Int)) (j : Int) =
    if i ≤ j ∧ j < i + d then (if rdOf false O (j : Int) = true then true else if x < (j : Int) then (if (j : Int) < y then true else rd L (j : Int) == 0) else rd L (j : Int) == 0) else rdOf false O (j : Int)
  | 0, i, O, j, h => by rw [rmarkF, if_neg (by omega)]
  | d + 1, i, O, j, h => by
    have e : ((i : Int) + 1) = ((i + 1 : Nat) : Int) := by omega
    have hl : (rmO L x y O (i : Int)).length = O.length := by simp [rmO]
    rw [rmarkF, e, rmarkF_at L x y d (i + 1) _ j (by omega)]
    have hs : ∀ j : Nat, rdOf false (rmO L x y O (i : Int)) (j : Int) = if j = i then (if rdOf false O (i : Int) = true then true else if x < (i : Int) then (if (i : Int) < y then true else rd L (i : Int) == 0) else rd L (i : Int) == 0) else rdOf false O (j : Int) := by
      intro j
      unfold rmO
      rw [Int.toNat_natCast, ro_set _ _ _ _ (by omega)]
    rw [hs j]
    by_cases h1 : j = i
    · subst h1
      rw [if_neg (show ¬ (j + 1 ≤ j ∧ j < j + 1 + d) by omega), if_pos rfl, if_pos (show j ≤ j ∧ j < j + (d + 1) by omega)]
    · rw [if_neg h1]
      by_cases h2 : i + 1 ≤ j ∧ j < i + 1 + d
      · rw [if_pos h2, if_pos (show i ≤ j ∧ j < i + (d + 1) by omega)]
      · rw [if_neg h2, if_neg (show ¬ (i ≤ j ∧ j < i + (d + 1)) by omega)]
theorem list_ext_ro {A B : List Bool} (h : A.length = B.length) (hj : ∀ j : Nat, rdOf false A (j : Int) = rdOf false B (j : Int)) : A = B := by
  apply List.ext_getElem h
  intro j h1 h2
  have := hj j
  rw [ro_nat, ro_nat, List.getD_eq_getElem?_getD, List.getD_eq_getElem?_getD, List.getElem?_eq_getElem h1, List.getElem?_eq_getElem h2] at this
  simpa using this
section
variable {l : List S27} {L : List Int} {O : List Bool} {ps : List S33} {t : Nat}
theorem rpairO_eq (h : Inv l L O ps t) (ht : t < l.length) (ho : rdOf false O (t : Int) = false) {q : Nat} (hq : q < t) (hf : fitsF l L O (q : Int) (t : Int) = true) : rpairO L O (q : Int) (t : Int) = pairO L O (q : Int) (t : Int) := by
  obtain ⟨f1, f2, f3, f4⟩ := fits_tells hf
  have h2 := h.hout t ht ho
  have hQ := pairO_at h.hL h.hO hq ht h.hb f4 h2
  refine list_ext_ro (by rw [pairO_len]; unfold rpairO; rw [rmarkF_len]) (fun j => ?_)
  rw [hQ j]
  unfold rpairO
  have e : ((t : Int) + 1 - (q : Int)).toNat = t + 1 - q := by omega
  have eL : rpairL L (q : Int) (t : Int) = pairL L (q : Int) (t : Int) := rfl
  rw [e, rmarkF_at _ _ _ _ _ _ _ (by rw [h.hO]; omega), eL]
  by_cases c1 : j = q
  · subst c1
    rw [if_pos (show j ≤ j ∧ j < j + (t + 1 - j) by omega), if_pos (show j = j ∨ j = t from .inl rfl), f1, if_neg (show ¬ (false = true) by simp), if_neg (show ¬ ((j : Int) < (j : Int)) by omega)]
  · by_cases c2 : j = t
    · subst c2
      rw [if_pos (show q ≤ j ∧ j < q + (j + 1 - q) by omega), if_pos (show j = q ∨ j = j from .inr rfl), ho, if_neg (show ¬ (false = true) by simp), if_pos (show (q : Int) < (j : Int) by omega), if_neg (show ¬ ((j : Int) < (j : Int)) by omega)]
    · rw [if_neg (show ¬ (j = q ∨ j = t) from fun c => c.elim c1 c2)]
      by_cases c3 : q < j ∧ j < t
      · rw [if_pos (show q ≤ j ∧ j < q + (t + 1 - q) by omega), if_pos c3, if_pos (show (q : Int) < (j : Int) by omega), if_pos (show (j : Int) < (t : Int) by omega)]
        split <;> rfl
      · rw [if_neg (show ¬ (q ≤ j ∧ j < q + (t + 1 - q)) by omega), if_neg c3]
end
theorem rwhile_eq {l : List S27} {t : Nat} (ht : t < l.length) (hn : l.length ≤ 1000) : ∀ (k : Nat) (L : List Int) (O : List Bool) (ps : List S33) (r : List Int × List Bool × List S33), Inv l L O ps t → delim_Match.while_ k l L O ps t = some r →
    rubricatorref20_Match.while_ k (l.map c26) L O (ps.map c34) t = some (r.1, r.2.1, r.2.2.map c34) := by
  intro k
  induction k with
  | zero => intro L O ps r hI h; simp [delim_Match.while_] at h
  | succ k ih =>
    intro L O ps r hI h
    rw [delim_Match.while_] at h
    rw [rubricatorref20_Match.while_, rd26_map l t (by omega) (by omega)]
    by_cases c1 : rdOf false O (t : Int) = true
    · rw [if_pos c1] at h ⊢
      obtain rfl := Option.some.inj h
      rfl
    have c1' : rdOf false O (t : Int) = false := by simpa using c1
    rw [if_neg c1] at h ⊢
    by_cases c2 : (rd_T27 l (t : Int)).f3 = true
    · rw [if_pos c2, if_pos (hI.hout t ht c1')] at h
      rw [if_pos (show (c26 (rd_T27 l (t : Int))).f3 = true from c2), rfind_eq l L O t ht t (Nat.le_refl _)]
      by_cases c3 : delim_Match.find l L O t t = 0
      · rw [if_pos c3] at h
        rw [if_pos (by omega)]
        obtain rfl := Option.some.inj h
        rfl
      · obtain ⟨q, hq⟩ : ∃ q, delim_Match.find l L O t t = q + 1 := ⟨delim_Match.find l L O t t - 1, by omega⟩
        obtain ⟨hqt, hf⟩ := find_tells l L O t t q hq
        obtain ⟨hI2, hlt⟩ := hI.pair ht c1' c2 hqt hf
        have e : ((delim_Match.find l L O t t : Nat) : Int) - 1 = (q : Int) := by rw [hq]; omega
        rw [if_neg c3, e] at h
        rw [if_neg (by omega), e]
        by_cases c4 : ps.length < 1000000000
        · rw [if_pos c4] at h
          rw [if_pos (by rw [List.length_map]; exact c4), rpairO_eq hI ht c1' hqt hf]
          have := ih _ _ _ r hI2 h
          rw [List.map_append] at this
          exact this
        · rw [if_neg c4] at h
          cases h
    · rw [if_neg c2] at h
      rw [if_neg (show ¬ (c26 (rd_T27 l (t : Int))).f3 = true from c2)]
      obtain rfl := Option.some.inj h
      rfl
theorem rall_eq {l : List S27} (hn : l.length ≤ 1000) (k : Nat) (hk : 200 < k) : ∀ (d t : Nat) (L : List Int) (O : List Bool) (ps : List S33), t + d = l.length → Inv l L O ps t → ps.length ≤ 200 * t →
    ∃ ps', delim_Match.all k d l L O ps t = some ps' ∧ rubricatorref20_Match.all k d (l.map c26) L O (ps.map c34) t = some (ps'.map c34) := by
  intro d
  induction d with
  | zero =>
    intro t L O ps ht hI hps
    exact ⟨ps, rfl, rfl⟩
  | succ d ih =>
    intro t L O ps ht hI hps
    have htl : t < l.length := by omega
    have hb := hI.hb t htl
    obtain ⟨r, hr, hI2, hl⟩ := while_ends htl hn 200 k L O ps hI (by omega) hk (by omega)
    rw [delim_Match.all, hr, Option.bind_some, rubricatorref20_Match.all, rwhile_eq htl hn k L O ps r hI hr, Option.bind_some]
    exact ih (t + 1) _ _ _ (by omega) hI2.later hl
theorem rinit_eq (l : List S27) : ∀ (d : Nat) (L : List Int) (O : List Bool) (i : Nat), i + d ≤ l.length → rubricatorref20_Match.init d (l.map c26) L O i = delim_Match.init d l L O i
  | 0, L, O, i, _ => rfl
  | d + 1, L, O, i, h => by
    have e : decide ((c26 (rd_T27 l (i : Int))).f1 < 1) = decide ((rd_T27 l (i : Int)).f1 ≤ 0) := by
      rw [decide_eq_decide]
      show (rd_T27 l (i : Int)).f1 < 1 ↔ _
      omega
    rw [rubricatorref20_Match.init, delim_Match.init, rd26_map l i (by omega) (by omega), e, rinit_eq l d _ _ (i + 1) (by omega)]
    rfl
theorem both_ev (l : List S27) (hn : l.length ≤ 1000) (hb : ∀ i : Nat, i < l.length → (rd_T27 l (i : Int)).f1 ≤ 200) :
    ∃ ps, Ev (fun k => delim_Match.f k l) ps ∧ Ev (fun k => rubricatorref20_Match.f k (l.map c26)) (ps.map c34) := by
  obtain ⟨ps', h1, h2⟩ := rall_eq hn 201 (by omega) l.length 0 _ _ _ (by omega) (start l hb) (by simp)
  refine ⟨ps', Ev.of (delim_Match.mono l) (k := 201) (by unfold delim_Match.f; rw [if_pos (by omega)]; exact h1), Ev.of (rubricatorref20_Match.mono _) (k := 201) ?_⟩
  unfold rubricatorref20_Match.f
  rw [if_pos (by simp; omega), List.length_map, rinit_eq l l.length _ _ 0 (by omega)]
  exact h2
end Go.Proofs.Ytojmhdooglihaaa.Theory
