/- Without one that opens ahead of one that closes, both of one sign, there is no pair. No conditions. -/
import Derived.Test.YtojmhdooglihaaaPAx0
import Derived.Test.YtojmhdooglihaaaPAx4
import Derived.Test.YtojmhdooglihaaaPAx8
import Derived.Test.YtojmhdooglihaaaHeavy
import Derived.Test.YtojmhdooglihaaaKnown
import Derived.Test.YtojmhdooglihaaaFew
namespace Go.Proofs.Ytojmhdooglihaaa.Pure
open Go.RowKit Go.Proofs.Ytojmhdooglihaaa.PA Go.Proofs.YtojmhdooglihaaaW.PrintWords Go.Proofs.YtojmhdooglihaaaW.PrintLast
open Go.Proofs.YtojmhdooglihaaaAid Go.Proofs.Ytojmhdooglihaaa.Theory
set_option linter.unusedVariables false
def shut1 (x : S27) : S27 := ⟨x.f0, x.f1, x.f2, if x.f3 = true then !x.f2 else false⟩
def shut2 (x : S27) : S27 := ⟨x.f0, x.f1, false, x.f3⟩
theorem set_map {f : S27 → S27} (l : List S27) (i : Nat) (h : i < l.length) : ((l.take i).map f ++ l.drop i).set i (f l[i]) = (l.take (i + 1)).map f ++ l.drop (i + 1) := by
  rw [List.drop_eq_getElem_cons h, List.set_append_right _ _ (by simp; omega)]
  have e : i - ((l.take i).map f).length = 0 := by simp; omega
  rw [e, List.set_cons_zero, List.take_succ_eq_append_getElem h, List.map_append]
  simp
theorem part_len {f : S27 → S27} (l : List S27) (i : Nat) : ((l.take i).map f ++ l.drop i).length = l.length := by simp; omega
theorem part_at {f : S27 → S27} (l : List S27) (i : Nat) (h : i < l.length) : rd_T27 ((l.take i).map f ++ l.drop i) (i : Int) = l[i] := by
  rw [rd27_get _ _ (by rw [part_len]; exact h), List.getElem_append_right (by simp; omega)]
  simp [Nat.min_eq_left (Nat.le_of_lt h)]
theorem l0_ev (l0 l : List S27) (hl : l.length ≤ 300) {r : Bool} (h : Ev (fun k => (delim_Match.f k (l.map shut1)).bind fun t => rubricatorlaw20_DelimNone.l1 k l0 (l.map shut1) t 0) r) :
    ∀ d i : Nat, i + d = l.length → Ev (fun k => rubricatorlaw20_DelimNone.l0 k l0 ((l.take i).map shut1 ++ l.drop i) (i : Int)) r := by
  intro d
  induction d with
  | zero =>
    intro i hi
    have e : (l.take i).map shut1 ++ l.drop i = l.map shut1 := by rw [List.take_of_length_le (by omega), List.drop_of_length_le (by omega), List.append_nil]
    refine ev_succ ?_
    simp only [rubricatorlaw20_DelimNone.l0]
    refine ev_else (by rw [part_len]; omega) ?_
    rw [e]
    exact h
  | succ d ih =>
    intro i hi
    have hil : i < l.length := by omega
    refine ev_succ ?_
    simp only [rubricatorlaw20_DelimNone.l0]
    refine ev_if (by rw [part_len]; omega) (ev_if (by omega) ?_)
    rw [part_at l i hil, w64i i (by omega), Int.toNat_natCast]
    have hs := set_map (f := shut1) l i hil
    by_cases c : l[i].f3 = true
    · refine ev_if c ?_
      have e : (⟨l[i].f0, l[i].f1, l[i].f2, !l[i].f2⟩ : S27) = shut1 l[i] := by unfold shut1; rw [if_pos c]
      rw [e, hs]
      exact ih (i + 1) (by omega)
    · refine ev_else c ?_
      have e : (⟨l[i].f0, l[i].f1, l[i].f2, false⟩ : S27) = shut1 l[i] := by unfold shut1; rw [if_neg c]
      rw [e, hs]
      exact ih (i + 1) (by omega)
theorem l1_ev (l0 l : List S27) (ps : List S33) (hl : l.length ≤ 300) {r : Bool} (h : Ev (fun k => (delim_Match.f k (l.map shut2)).bind fun t => rubricatorlaw20_DelimNone.l2 k l0 ps t 0) r) :
    ∀ d i : Nat, i + d = l.length → Ev (fun k => rubricatorlaw20_DelimNone.l1 k l0 ((l.take i).map shut2 ++ l.drop i) ps (i : Int)) r := by
  intro d
  induction d with
  | zero =>
    intro i hi
    have e : (l.take i).map shut2 ++ l.drop i = l.map shut2 := by rw [List.take_of_length_le (by omega), List.drop_of_length_le (by omega), List.append_nil]
    refine ev_succ ?_
    simp only [rubricatorlaw20_DelimNone.l1]
    refine ev_else (by rw [part_len]; omega) ?_
    rw [e]
    exact h
  | succ d ih =>
    intro i hi
    have hil : i < l.length := by omega
    refine ev_succ ?_
    simp only [rubricatorlaw20_DelimNone.l1]
    refine ev_if (by rw [part_len]; omega) (ev_if (by omega) ?_)
    rw [part_at l i hil, w64i i (by omega), Int.toNat_natCast]
    have hs := set_map (f := shut2) l i hil
    have e : (⟨l[i].f0, l[i].f1, false, l[i].f3⟩ : S27) = shut2 l[i] := rfl
    rw [e, hs]
    exact ih (i + 1) (by omega)
theorem l2_ev (l0 : List S27) (ps : List S33) (hp : ∀ p ∈ ps, 0 ≤ p.f0 ∧ p.f0 < l0.length ∧ 0 ≤ p.f1 ∧ p.f1 < l0.length ∧ (rd_T27 l0 p.f0).f0 = (rd_T27 l0 p.f1).f0) (hps : ps.length ≤ 9223372036854775000) :
    ∀ d i : Nat, i + d = ps.length → Ev (fun k => rubricatorlaw20_DelimNone.l2 k l0 ps [] (i : Int)) true := by
  intro d
  induction d with
  | zero =>
    intro i hi
    refine ev_succ ?_
    simp only [rubricatorlaw20_DelimNone.l2]
    exact ev_else (by omega) (ev_if (by simp) known_end)
  | succ d ih =>
    intro i hi
    have hil : i < ps.length := by omega
    obtain ⟨h1, h2, h3, h4, h5⟩ := hp ps[i] (List.getElem_mem hil)
    refine ev_succ ?_
    simp only [rubricatorlaw20_DelimNone.l2]
    rw [rd33_get ps i hil, w64i i (by omega)]
    exact ev_if (by omega) (ev_if (by omega) (ev_if h1 (ev_if h2 (ev_if h3 (ev_if h4 (ev_if h5 (ih (i + 1) (by omega))))))))
theorem rd27_map (f : S27 → S27) (l : List S27) (x : Int) (h0 : 0 ≤ x) (h : x < l.length) : rd_T27 (l.map f) x = f (rd_T27 l x) := by
  obtain ⟨i, rfl⟩ := Int.eq_ofNat_of_zero_le h0
  have hi : i < l.length := by omega
  rw [rd27_get _ _ (by simpa using hi), rd27_get _ _ hi]
  simp
theorem DelimNone : rubricatorlaw20_DelimNone.Pure := by
  intro l0 hl
  refine Ev.rounds (r := true) ?_
  unfold rubricatorlaw20_DelimNone.f
  obtain ⟨b, hb, hh⟩ := heavy_ev l0 (by omega)
  refine Ev.bind hb ?_
  cases b with
  | true => exact ev_if rfl (Ev.now _)
  | false =>
    obtain ⟨hn, hN⟩ := hh rfl
    refine ev_else (by decide) (ev_some (ev_if (by simp; omega) ?_))
    have e0 : ([] : List S27) ++ l0 = ((l0.take 0).map shut1 ++ l0.drop 0) := by simp
    rw [e0]
    have hN1 : ∀ i : Nat, i < (l0.map shut1).length → (rd_T27 (l0.map shut1) (i : Int)).f1 ≤ 200 := by
      intro i hi
      rw [List.length_map] at hi
      rw [rd27_map shut1 l0 i (by omega) (by omega)]
      exact hN i hi
    obtain ⟨ps, h1, h2, h3, h4⟩ := match_ev (l0.map shut1) (by simp; omega) hN1
    have hm : (l0.map shut1).length = l0.length := by simp
    have hN2 : ∀ i : Nat, i < ((l0.map shut1).map shut2).length → (rd_T27 ((l0.map shut1).map shut2) (i : Int)).f1 ≤ 200 := by
      intro i hi
      rw [List.length_map] at hi
      rw [rd27_map shut2 _ i (by omega) (by omega)]
      exact hN1 i hi
    obtain ⟨qs, g1, g2, _, _⟩ := match_ev ((l0.map shut1).map shut2) (by simp; omega) hN2
    have hq : qs = [] := by
      cases qs with
      | nil => rfl
      | cons q qs =>
        obtain ⟨a1, a2, a3, a4, a5, a6⟩ := g2 q List.mem_cons_self
        rw [rd27_map shut2 _ q.f0 a1 (by simp at a3 ⊢; omega)] at a5
        cases a5
    subst hq
    refine l0_ev l0 l0 hn (Ev.bind h1 ?_) l0.length 0 (by omega)
    have e1 : l0.map shut1 = (((l0.map shut1).take 0).map shut2 ++ (l0.map shut1).drop 0) := by simp
    rw [e1]
    refine l1_ev l0 (l0.map shut1) ps (by omega) (Ev.bind g1 ?_) (l0.map shut1).length 0 (by omega)
    refine l2_ev l0 ps (fun p hp => ?_) (len_bd h2 (fun i hi => ?_) (by omega)) ps.length 0 (by omega)
    · obtain ⟨a1, a2, a3, a4, _⟩ := h2 p hp
      rw [hm] at a3
      rw [rd27_map shut1 _ p.f0 a1 (by omega), rd27_map shut1 _ p.f1 (by omega) (by omega)] at a4
      exact ⟨a1, by omega, by omega, by omega, a4⟩
    · have := h4 i hi
      have := mx_bd _ (hN1 i hi)
      omega
end Go.Proofs.Ytojmhdooglihaaa.Pure
