/- What matching marks comes to: each pair's marks, how pairs lie to each other, how many signs are used. At most 1000 marks of at most 200 signs. -/
import Derived.Test.YtojmhdooglihaaaPAx0
import Derived.Test.YtojmhdooglihaaaPAx4
import Derived.Test.YtojmhdooglihaaaAid
namespace Go.Proofs.Ytojmhdooglihaaa.Theory
open Go.RowKit Go.Proofs.Ytojmhdooglihaaa.PA Go.Proofs.YtojmhdooglihaaaW.PrintWords Go.Proofs.YtojmhdooglihaaaW.PrintLast Go.Proofs.YtojmhdooglihaaaW.PrintMore
open Go.Proofs.YtojmhdooglihaaaAid
set_option linter.unusedVariables false
set_option linter.unusedSimpArgs false

theorem rd_nat (L : List Int) (i : Nat) : rd L (i : Int) = L.getD i 0 := by simp [rd]
theorem ro_nat (O : List Bool) (i : Nat) : rdOf false O (i : Int) = O.getD i false := by simp [rdOf]
theorem getD_set {α : Type} (d : α) (L : List α) (i j : Nat) (v : α) : (L.set i v).getD j d = if i = j ∧ i < L.length then v else L.getD j d := by
  simp only [List.getD_eq_getElem?_getD, List.getElem?_set]
  by_cases h : i = j
  · subst h
    by_cases h2 : i < L.length <;> simp [h2]
  · simp [h]
theorem rd_set (L : List Int) (i j : Nat) (v : Int) (hi : i < L.length) : rd (L.set i v) (j : Int) = if j = i then v else rd L (j : Int) := by
  rw [rd_nat, rd_nat, getD_set]
  by_cases h : j = i
  · rw [if_pos ⟨h.symm, hi⟩, if_pos h]
  · rw [if_neg (fun c => h c.1.symm), if_neg h]
theorem ro_set (O : List Bool) (i j : Nat) (v : Bool) (hi : i < O.length) : rdOf false (O.set i v) (j : Int) = if j = i then v else rdOf false O (j : Int) := by
  rw [ro_nat, ro_nat, getD_set]
  by_cases h : j = i
  · rw [if_pos ⟨h.symm, hi⟩, if_pos h]
  · rw [if_neg (fun c => h c.1.symm), if_neg h]

theorem stepL_nat (L : List Int) (i : Nat) (n : Int) : stepL L (i : Int) n = L.set i (wrap64 (rd L (i : Int) - n)) := by simp [stepL]
theorem stepL_len (L : List Int) (i n : Int) : (stepL L i n).length = L.length := by simp [stepL]
theorem stepO_nat (L : List Int) (O : List Bool) (i : Nat) (n : Int) : stepO L O (i : Int) n = O.set i (rd (stepL L (i : Int) n) (i : Int) == 0) := by simp [stepO]
theorem markF_len : ∀ (d : Nat) (O : List Bool) (i : Int), (markF d O i).length = O.length
  | 0, O, i => rfl
  | d + 1, O, i => by rw [markF, markF_len d]; simp
theorem markF_at : ∀ (d i : Nat) (O : List Bool) (j : Nat), i + d ≤ O.length → rdOf false (markF d O (i : Int)) (j : Int) = if i ≤ j ∧ j < i + d then true else rdOf false O (j : Int)
  | 0, i, O, j, h => by rw [markF, if_neg (by omega)]
  | d + 1, i, O, j, h => by
    have e : ((i : Int) + 1) = ((i + 1 : Nat) : Int) := by omega
    rw [markF, e, markF_at d (i + 1) _ j (by simp; omega), Int.toNat_natCast, ro_set _ _ _ _ (by omega)]
    by_cases h1 : j = i
    · rw [if_neg (by omega), if_pos h1, if_pos (by omega)]
    · rw [if_neg h1]
      by_cases h2 : i + 1 ≤ j ∧ j < i + 1 + d
      · rw [if_pos h2, if_pos (by omega)]
      · rw [if_neg h2, if_neg (by omega)]

def wOf (s : Bool) : Int := if s = true then 2 else 1
theorem num_eq (s : Bool) : numF s = wOf s := rfl
theorem num_le (L : List Int) (x y : Int) (hx : 0 < rd L x) (hy : 0 < rd L y) : 1 ≤ numF (strongF L x y) ∧ numF (strongF L x y) ≤ rd L x ∧ numF (strongF L x y) ≤ rd L y := by
  unfold strongF
  by_cases h : rd L x ≥ 2
  · rw [if_pos h]
    by_cases h2 : rd L y ≥ 2
    · rw [decide_eq_true h2]
      unfold numF
      rw [if_pos rfl]
      omega
    · rw [decide_eq_false h2]
      unfold numF
      rw [if_neg (by simp)]
      omega
  · rw [if_neg h]
    unfold numF
    rw [if_neg (by simp)]
    omega
section
variable {L : List Int} {O : List Bool} {n q t : Nat}
theorem pairL_len (L : List Int) (x y : Int) : (pairL L x y).length = L.length := by simp [pairL, stepL_len]
theorem pairO_len (L : List Int) (O : List Bool) (x y : Int) : (pairO L O x y).length = O.length := by simp [pairO, stepO, markF_len]
theorem pairL_at (hL : L.length = n) (hq : q < t) (ht : t < n) (b : ∀ i : Nat, i < n → 0 ≤ rd L (i : Int) ∧ rd L (i : Int) ≤ 200) (h1 : 0 < rd L (q : Int)) (h2 : 0 < rd L (t : Int)) (j : Nat) :
    rd (pairL L (q : Int) (t : Int)) (j : Int) = if j = q ∨ j = t then rd L (j : Int) - numF (strongF L (q : Int) (t : Int)) else rd L (j : Int) := by
  have hn := num_le L (q : Int) (t : Int) h1 h2
  have b1 := b q (by omega)
  have b2 := b t ht
  unfold pairL
  obtain ⟨m, hm⟩ : ∃ m, m = numF (strongF L (q : Int) (t : Int)) := ⟨_, rfl⟩
  rw [← hm] at hn ⊢
  rw [stepL_nat, stepL_nat, rd_set _ _ _ _ (by simp; omega), rd_set _ _ _ _ (by omega), rd_set _ _ _ _ (by omega)]
  rw [if_neg (by omega : ¬ t = q)]
  have w1 : wrap64 (rd L (q : Int) - m) = rd L (q : Int) - m := by unfold wrap64; omega
  have w2 : wrap64 (rd L (t : Int) - m) = rd L (t : Int) - m := by unfold wrap64; omega
  rw [w1, w2]
  by_cases e1 : j = t
  · subst e1
    rw [if_pos rfl, if_pos (.inr rfl)]
  · rw [if_neg e1]
    by_cases e2 : j = q
    · subst e2
      rw [if_pos rfl, if_pos (.inl rfl)]
    · rw [if_neg e2, if_neg (fun c => c.elim e2 e1)]
theorem pairO_at (hL : L.length = n) (hO : O.length = n) (hq : q < t) (ht : t < n) (b : ∀ i : Nat, i < n → 0 ≤ rd L (i : Int) ∧ rd L (i : Int) ≤ 200) (h1 : 0 < rd L (q : Int)) (h2 : 0 < rd L (t : Int)) (j : Nat) :
    rdOf false (pairO L O (q : Int) (t : Int)) (j : Int) = if j = q ∨ j = t then (rd (pairL L (q : Int) (t : Int)) (j : Int) == 0) else if q < j ∧ j < t then true else rdOf false O (j : Int) := by
  have hP := pairL_at hL hq ht b h1 h2
  have hn := num_le L (q : Int) (t : Int) h1 h2
  have b1 := b q (by omega)
  have b2 := b t ht
  have p1 := hP q
  have p2 := hP t
  rw [if_pos (.inl rfl)] at p1
  rw [if_pos (.inr rfl)] at p2
  unfold pairO
  obtain ⟨m, hm⟩ : ∃ m, m = numF (strongF L (q : Int) (t : Int)) := ⟨_, rfl⟩
  rw [← hm] at hn p1 p2 ⊢
  have w1 : wrap64 (rd L (q : Int) - m) = rd L (q : Int) - m := by unfold wrap64; omega
  have w2 : wrap64 (rd L (t : Int) - m) = rd L (t : Int) - m := by unfold wrap64; omega
  have ed : ((t : Int) - ((q : Int) + 1)).toNat = t - (q + 1) := by omega
  have eq1 : ((q : Int) + 1) = ((q + 1 : Nat) : Int) := by omega
  rw [stepO_nat, stepO_nat, ro_set _ _ _ _ (by simp [markF_len]; omega), ro_set _ _ _ _ (by simp [markF_len]; omega), ed, eq1, markF_at _ _ _ _ (by omega)]
  have s1 : rd (stepL L (q : Int) m) (q : Int) = rd L (q : Int) - m := by rw [stepL_nat, rd_set _ _ _ _ (by omega), if_pos rfl, w1]
  have s2 : rd (stepL (stepL L (q : Int) m) (t : Int) m) (t : Int) = rd L (t : Int) - m := by
    rw [stepL_nat, rd_set _ _ _ _ (by rw [stepL_len]; omega), if_pos rfl, stepL_nat, rd_set _ _ _ _ (by omega), if_neg (by omega), w2]
  rw [s1, s2]
  by_cases e1 : j = t
  · subst e1
    rw [if_pos rfl, if_pos (.inr rfl), p2]
  · rw [if_neg e1]
    by_cases e2 : j = q
    · subst e2
      rw [if_pos rfl, if_pos (.inl rfl), p1]
    · rw [if_neg e2, if_neg (show ¬ (j = q ∨ j = t) from fun c => c.elim e2 e1)]
      by_cases h : q < j ∧ j < t
      · rw [if_pos h, if_pos (by omega)]
      · rw [if_neg h, if_neg (by omega)]
end

/-- How many signs of mark i pairs use. -/
def usedBy (p : S33) (i : Nat) : Int := (if p.f0 = (i : Int) then wOf p.f2 else 0) + (if p.f1 = (i : Int) then wOf p.f2 else 0)
def used (ps : List S33) (i : Nat) : Int := (ps.map fun p => usedBy p i).sum
theorem used_snoc (ps : List S33) (p : S33) (i : Nat) : used (ps ++ [p]) i = used ps i + usedBy p i := by
  unfold used
  rw [List.map_append, List.sum_append, List.map_singleton, List.sum_singleton]
theorem usedBy_mk (x y : Int) (s : Bool) (i : Nat) : usedBy ⟨x, y, s⟩ i = (if x = (i : Int) then numF s else 0) + (if y = (i : Int) then numF s else 0) := rfl
def Good (l : List S27) (p : S33) : Prop := 0 ≤ p.f0 ∧ p.f0 < p.f1 ∧ p.f1 < l.length ∧ (rd_T27 l p.f0).f0 = (rd_T27 l p.f1).f0 ∧ (rd_T27 l p.f0).f2 = true ∧ (rd_T27 l p.f1).f3 = true
/-- Two pairs lie within one another or apart. -/
def Nest (b a : S33) : Prop := (b.f0 ≥ a.f0 ∧ b.f1 ≤ a.f1) ∨ (a.f0 ≥ b.f0 ∧ a.f1 ≤ b.f1) ∨ b.f1 ≤ a.f0 ∨ a.f1 ≤ b.f0
structure Inv (l : List S27) (L : List Int) (O : List Bool) (ps : List S33) (t : Nat) : Prop where
  hL : L.length = l.length
  hO : O.length = l.length
  hb : ∀ i : Nat, i < l.length → 0 ≤ rd L (i : Int) ∧ rd L (i : Int) ≤ 200
  hout : ∀ i : Nat, i < l.length → rdOf false O (i : Int) = false → 0 < rd L (i : Int)
  hp : ∀ p ∈ ps, Good l p ∧ p.f1 ≤ (t : Int)
  hin : ∀ p ∈ ps, ∀ j : Nat, p.f0 < (j : Int) → (j : Int) < p.f1 → rdOf false O (j : Int) = true
  hnest : ps.Pairwise Nest
  huse : ∀ i : Nat, i < l.length → rd L (i : Int) + used ps i = mx 0 (rd_T27 l (i : Int)).f1
theorem find_tells (l : List S27) (L : List Int) (O : List Bool) (t : Nat) : ∀ m q, delim_Match.find l L O t m = q + 1 → q < m ∧ fitsF l L O (q : Int) (t : Int) = true
  | 0, q, h => by simp [delim_Match.find] at h
  | m + 1, q, h => by
    rw [delim_Match.find] at h
    by_cases c : fitsF l L O (m : Int) (t : Int) = true
    · rw [if_pos c] at h
      obtain rfl : m = q := by omega
      exact ⟨by omega, c⟩
    · rw [if_neg c] at h
      obtain ⟨h1, h2⟩ := find_tells l L O t m q h
      exact ⟨by omega, h2⟩
theorem fits_tells {l : List S27} {L : List Int} {O : List Bool} {x y : Int} (h : fitsF l L O x y = true) : rdOf false O x = false ∧ (rd_T27 l x).f2 = true ∧ (rd_T27 l x).f0 = (rd_T27 l y).f0 ∧ 0 < rd L x := by
  unfold fitsF at h
  by_cases c1 : rdOf false O x = true
  · rw [if_pos c1] at h; cases h
  rw [if_neg c1] at h
  by_cases c2 : (rd_T27 l x).f2 = true
  · rw [if_pos c2] at h
    by_cases c3 : (rd_T27 l x).f0 = (rd_T27 l y).f0
    · rw [if_pos c3] at h
      by_cases c4 : rd L x ≤ 0
      · rw [if_pos c4] at h; cases h
      · exact ⟨by simpa using c1, c2, c3, by omega⟩
    · rw [if_neg c3] at h; cases h
  · rw [if_neg c2] at h; cases h
section
variable {l : List S27} {L : List Int} {O : List Bool} {ps : List S33} {t : Nat}
theorem Inv.later (h : Inv l L O ps t) : Inv l L O ps (t + 1) := ⟨h.hL, h.hO, h.hb, h.hout, fun p hp => ⟨(h.hp p hp).1, by have := (h.hp p hp).2; omega⟩, h.hin, h.hnest, h.huse⟩
theorem Inv.close (h : Inv l L O ps t) (ht : t < l.length) (ho : rdOf false O (t : Int) = false) (v : Bool) : Inv l L (O.set t v) ps t := by
  refine ⟨h.hL, by simp [h.hO], h.hb, fun i hi hf => ?_, h.hp, fun p hp j h1 h2 => ?_, h.hnest, h.huse⟩
  · by_cases e : i = t
    · subst e
      exact h.hout i hi ho
    · rw [ro_set _ _ _ _ (by rw [h.hO]; exact ht), if_neg e] at hf
      exact h.hout i hi hf
  · have := h.hin p hp j h1 h2
    rw [ro_set _ _ _ _ (by rw [h.hO]; exact ht), if_neg (fun e => by subst e; rw [ho] at this; cases this)]
    exact this
theorem Inv.pair (h : Inv l L O ps t) (ht : t < l.length) (ho : rdOf false O (t : Int) = false) (hc : (rd_T27 l (t : Int)).f3 = true) {q : Nat} (hq : q < t) (hf : fitsF l L O (q : Int) (t : Int) = true) :
    Inv l (pairL L (q : Int) (t : Int)) (pairO L O (q : Int) (t : Int)) (ps ++ [⟨(q : Int), (t : Int), strongF L (q : Int) (t : Int)⟩]) t ∧ rd (pairL L (q : Int) (t : Int)) (t : Int) < rd L (t : Int) := by
  obtain ⟨f1, f2, f3, f4⟩ := fits_tells hf
  have h2 := h.hout t ht ho
  have hP := pairL_at h.hL hq ht h.hb f4 h2
  have hQ := pairO_at h.hL h.hO hq ht h.hb f4 h2
  have hn := num_le L (q : Int) (t : Int) f4 h2
  refine ⟨⟨by rw [pairL_len]; exact h.hL, by rw [pairO_len]; exact h.hO, fun i hi => ?_, fun i hi hf => ?_, fun p hp => ?_, fun p hp j h3 h4 => ?_, ?_, fun i hi => ?_⟩, ?_⟩
  · have hb := h.hb i hi
    rw [hP i]
    split
    · rename_i c
      rcases c with rfl | rfl <;> omega
    · exact hb
  · rw [hQ i] at hf
    rw [hP i]
    by_cases c : i = q ∨ i = t
    · rw [if_pos c] at hf ⊢
      rw [hP i, if_pos c] at hf
      have : rd L (i : Int) - numF (strongF L (q : Int) (t : Int)) ≠ 0 := by simpa using hf
      rcases c with rfl | rfl <;> omega
    · rw [if_neg c] at hf ⊢
      by_cases c2 : q < i ∧ i < t
      · rw [if_pos c2] at hf; cases hf
      · rw [if_neg c2] at hf
        exact h.hout i hi hf
  · rw [List.mem_append, List.mem_singleton] at hp
    rcases hp with hp | rfl
    · exact h.hp p hp
    · exact ⟨⟨by simp, by simp; omega, by simp; omega, f3, f2, hc⟩, by simp⟩
  · rw [List.mem_append, List.mem_singleton] at hp
    rcases hp with hp | rfl
    · have h5 := h.hin p hp j h3 h4
      rw [hQ j, if_neg (fun c => by
        rcases c with rfl | rfl
        · rw [f1] at h5; cases h5
        · rw [ho] at h5; cases h5)]
      split
      · rfl
      · exact h5
    · simp only at h3 h4
      rw [hQ j, if_neg (by omega), if_pos (by omega)]
  · rw [List.pairwise_append]
    refine ⟨h.hnest, by simp, fun p hp p' hp' => ?_⟩
    rw [List.mem_singleton] at hp'
    subst hp'
    have g := h.hp p hp
    have g1 := g.1
    unfold Good at g1
    unfold Nest
    simp only
    by_cases c : p.f0 < (q : Int) ∧ (q : Int) < p.f1
    · have := h.hin p hp q c.1 c.2
      rw [f1] at this
      cases this
    · omega
  · have hu := h.huse i hi
    rw [hP i]
    rw [used_snoc, usedBy_mk]
    by_cases c1 : i = q
    · subst c1
      rw [if_pos (.inl rfl), if_pos rfl, if_neg (by omega)]
      omega
    · by_cases c2 : i = t
      · subst c2
        rw [if_pos (.inr rfl), if_neg (by omega), if_pos rfl]
        omega
      · rw [if_neg (fun c => c.elim c1 c2), if_neg (by omega), if_neg (by omega)]
        omega
  · rw [hP t, if_pos (.inr rfl)]
    omega
end
theorem while_ends {l : List S27} {t : Nat} (ht : t < l.length) (hn : l.length ≤ 1000) : ∀ (d k : Nat) (L : List Int) (O : List Bool) (ps : List S33), Inv l L O ps t → rd L (t : Int) ≤ d → d < k → ps.length + (rd L (t : Int)) ≤ 200 * (t + 1) →
    ∃ r, delim_Match.while_ k l L O ps t = some r ∧ Inv l r.1 r.2.1 r.2.2 t ∧ r.2.2.length ≤ 200 * (t + 1) := by
  intro d
  induction d with
  | zero =>
    intro k L O ps hI hd hk hps
    obtain ⟨k, rfl⟩ : ∃ m, k = m + 1 := ⟨k - 1, by omega⟩
    have hb := hI.hb t ht
    refine ⟨(L, O, ps), ?_, hI, by simp only; omega⟩
    rw [delim_Match.while_]
    by_cases c1 : rdOf false O (t : Int) = true
    · rw [if_pos c1]
    · have := hI.hout t ht (by simpa using c1)
      omega
  | succ d ih =>
    intro k L O ps hI hd hk hps
    obtain ⟨k, rfl⟩ : ∃ m, k = m + 1 := ⟨k - 1, by omega⟩
    have hb := hI.hb t ht
    rw [delim_Match.while_]
    by_cases c1 : rdOf false O (t : Int) = true
    · exact ⟨(L, O, ps), by rw [if_pos c1], hI, by simp only; omega⟩
    have c1' : rdOf false O (t : Int) = false := by simpa using c1
    rw [if_neg c1]
    by_cases c2 : (rd_T27 l (t : Int)).f3 = true
    · rw [if_pos c2, if_pos (hI.hout t ht c1')]
      by_cases c3 : delim_Match.find l L O t t = 0
      · exact ⟨(L, O.set t (!(rd_T27 l (t : Int)).f2), ps), by rw [if_pos c3], hI.close ht c1' _, by simp only; omega⟩
      · obtain ⟨q, hq⟩ : ∃ q, delim_Match.find l L O t t = q + 1 := ⟨delim_Match.find l L O t t - 1, by omega⟩
        obtain ⟨hqt, hf⟩ := find_tells l L O t t q hq
        obtain ⟨hI2, hlt⟩ := hI.pair ht c1' c2 hqt hf
        have e : ((delim_Match.find l L O t t : Nat) : Int) - 1 = (q : Int) := by rw [hq]; omega
        rw [if_neg c3, if_pos (by omega), e]
        exact ih k _ _ _ hI2 (by omega) (by omega) (by rw [List.length_append, List.length_singleton]; omega)
    · exact ⟨(L, O, ps), by rw [if_neg c2], hI, by simp only; omega⟩
theorem all_ends {l : List S27} (hn : l.length ≤ 1000) (k : Nat) (hk : 200 < k) : ∀ (d t : Nat) (L : List Int) (O : List Bool) (ps : List S33), t + d = l.length → Inv l L O ps t → ps.length ≤ 200 * t →
    ∃ L' O' ps', delim_Match.all k d l L O ps t = some ps' ∧ Inv l L' O' ps' l.length := by
  intro d
  induction d with
  | zero =>
    intro t L O ps ht hI hps
    obtain rfl : t = l.length := by omega
    exact ⟨L, O, ps, rfl, hI⟩
  | succ d ih =>
    intro t L O ps ht hI hps
    have htl : t < l.length := by omega
    have hb := hI.hb t htl
    obtain ⟨r, hr, hI2, hl⟩ := while_ends htl hn 200 k L O ps hI (by omega) hk (by omega)
    rw [delim_Match.all, hr, Option.bind_some]
    exact ih (t + 1) _ _ _ (by omega) hI2.later hl
theorem init_len : ∀ (d : Nat) (l : List S27) (L : List Int) (O : List Bool) (i : Nat), (delim_Match.init d l L O i).1.length = L.length ∧ (delim_Match.init d l L O i).2.length = O.length
  | 0, l, L, O, i => ⟨rfl, rfl⟩
  | d + 1, l, L, O, i => by
    rw [delim_Match.init]
    have h := init_len d l (L.set i (mx 0 (rd_T27 l i).f1)) (O.set i (decide ((rd_T27 l i).f1 ≤ 0))) (i + 1)
    simpa using h
theorem init_at : ∀ (d : Nat) (l : List S27) (L : List Int) (O : List Bool) (i : Nat), i + d ≤ L.length → i + d ≤ O.length → ∀ j : Nat, (j < i + d → (i ≤ j ∨ (rd L (j : Int) = mx 0 (rd_T27 l (j : Int)).f1 ∧ rdOf false O (j : Int) = decide ((rd_T27 l (j : Int)).f1 ≤ 0))) →
    rd (delim_Match.init d l L O i).1 (j : Int) = mx 0 (rd_T27 l (j : Int)).f1 ∧ rdOf false (delim_Match.init d l L O i).2 (j : Int) = decide ((rd_T27 l (j : Int)).f1 ≤ 0))
  | 0, l, L, O, i, hL, hO, j, hj, h => by
    rcases h with h | h
    · omega
    · exact h
  | d + 1, l, L, O, i, hL, hO, j, hj, h => by
    rw [delim_Match.init]
    refine init_at d l _ _ (i + 1) (by simp; omega) (by simp; omega) j (by omega) ?_
    by_cases e : j = i
    · subst e
      right
      rw [rd_set _ _ _ _ (by omega), ro_set _ _ _ _ (by omega), if_pos rfl, if_pos rfl]
      exact ⟨rfl, rfl⟩
    · rw [rd_set _ _ _ _ (by omega), ro_set _ _ _ _ (by omega), if_neg e, if_neg e]
      rcases h with h | h
      · left; omega
      · right; exact h
theorem mx_bd (x : Int) (h : x ≤ 200) : 0 ≤ mx 0 x ∧ mx 0 x ≤ 200 ∧ (0 < x → mx 0 x = x) ∧ (x ≤ 0 → mx 0 x = 0) := by
  unfold mx
  split <;> omega
theorem start (l : List S27) (hb : ∀ i : Nat, i < l.length → (rd_T27 l (i : Int)).f1 ≤ 200) :
    Inv l (delim_Match.init l.length l (List.replicate l.length 0) (List.replicate l.length false) 0).1 (delim_Match.init l.length l (List.replicate l.length 0) (List.replicate l.length false) 0).2 [] 0 := by
  have hl := init_len l.length l (List.replicate l.length 0) (List.replicate l.length false) 0
  have ha := fun (j : Nat) (hj : j < l.length) => init_at l.length l (List.replicate l.length 0) (List.replicate l.length false) 0 (by simp) (by simp) j (by omega) (.inl (Nat.zero_le _))
  refine ⟨by simpa using hl.1, by simpa using hl.2, fun i hi => ?_, fun i hi hf => ?_, by simp, by simp, by simp, fun i hi => ?_⟩
  · have := mx_bd _ (hb i hi)
    rw [(ha i hi).1]
    omega
  · have h1 := mx_bd _ (hb i hi)
    rw [(ha i hi).2] at hf
    have : ¬ (rd_T27 l (i : Int)).f1 ≤ 0 := by simpa using hf
    rw [(ha i hi).1]
    omega
  · rw [(ha i hi).1]
    simp [used]
/-- What Match comes to. -/
theorem match_ev (l : List S27) (hn : l.length ≤ 1000) (hb : ∀ i : Nat, i < l.length → (rd_T27 l (i : Int)).f1 ≤ 200) :
    ∃ ps, Ev (fun k => delim_Match.f k l) ps ∧ (∀ p ∈ ps, Good l p) ∧ ps.Pairwise Nest ∧ ∀ i : Nat, i < l.length → used ps i ≤ mx 0 (rd_T27 l (i : Int)).f1 := by
  obtain ⟨L', O', ps', h, hI⟩ := all_ends hn 201 (by omega) l.length 0 _ _ _ (by omega) (start l hb) (by simp)
  refine ⟨ps', Ev.of (delim_Match.mono l) (k := 201) (by unfold delim_Match.f; rw [if_pos (by omega)]; exact h), fun p hp => (hI.hp p hp).1, hI.hnest, fun i hi => ?_⟩
  have h1 := hI.huse i hi
  have h2 := hI.hb i hi
  omega
end Go.Proofs.Ytojmhdooglihaaa.Theory
