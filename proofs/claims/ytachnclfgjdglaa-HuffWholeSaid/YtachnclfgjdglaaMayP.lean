/- Whether lengths may be asked for: the document's answer. Plain law; no conditions. -/
import Derived.Test.YtachnclfgjdglaaLensP
import Derived.Test.YtachnclfgjdglaaPAx1
namespace Go.Proofs.Ytachnclfgjdglaa.Pack
open Go.RowKit Go.Proofs.Ytachnclfgjdglaa.PA Go.Proofs.YtachnclfgjdglaaW.PrintWords Go.Proofs.YtachnclfgjdglaaW.PrintLast Go.Proofs.YtachnclfgjdglaaW.PrintMore Go.Proofs.YtachnclfgjdglaaAid Go.Proofs.YtachnclfgjdglaaSrt Go.Proofs.Ytachnclfgjdglaa.Coin Go.Proofs.Ytachnclfgjdglaa.Known Go.Proofs.Ytachnclfgjdglaa.Next
set_option linter.unusedVariables false
set_option linter.unusedSimpArgs false

theorem shl_most (most : Int) (h1 : 1 ≤ most) (h2 : most ≤ 15) : 0 ≤ IntKind.u64.wrap most ∧ shl .i64 1 (IntKind.u64.wrap most) = ((2 ^ most.toNat : Nat) : Int) := by
  obtain ⟨n, rfl⟩ := Int.eq_ofNat_of_zero_le (by omega : 0 ≤ most)
  have key : ∀ n : Fin 16, 0 ≤ IntKind.u64.wrap (n.val : Int) ∧ shl .i64 1 (IntKind.u64.wrap (n.val : Int)) = ((2 ^ n.val : Nat) : Int) := by decide +kernel
  have := key ⟨n, by omega⟩
  simpa using this
/-- what the document says of the counts -/
def okM (often : List Int) (most : Int) : Bool := match sgl often often.length with
  | none => false
  | some S => decide (S.length ≤ 2 ^ most.toNat)
theorem may_go (often : List Int) (most : Int) (hn : often.length ≤ 320) (h1 : 1 ≤ most) (h2 : most ≤ 15) : ∀ (e i : Nat) (T : List It), often.length = i + e → sgl often i = some T →
    Ev (fun k => rubricatorref3_May.l0 k often most (T.length : Int) (i : Int)) (okM often most) := by
  intro e
  induction e with
  | zero =>
    intro i T hi hs
    obtain rfl : i = often.length := by omega
    have hsh := shl_most most h1 h2
    refine ev_succ ?_
    simp only [rubricatorref3_May.l0]
    refine ev_else (by omega) (ev_if hsh.1 (ev_val ?_))
    rw [hsh.2]
    unfold okM
    rw [hs]
    simp only
    congr 1
    exact propext (by omega)
  | succ e ih =>
    intro i T hi hs
    have hil : i < often.length := by omega
    have hstep := sgl_step hs
    have hTl : T.length ≤ i := (sgl_inv i T hs).2
    have hbad : (rd often (i : Int) < 0 ∨ rd often (i : Int) > 1048576) → okM often most = false := fun hb => by
      have hb' : often.getD i 0 < 0 ∨ often.getD i 0 > 1048576 := hb
      unfold okM
      rw [sgl_bad hs rfl hb' hil]
    have hj : ∀ b : Bool, b = decide (rd often (i : Int) < 0 ∨ rd often (i : Int) > 1048576) → Ev (fun k => rubricatorref3_May.j2 k often most (T.length : Int) (i : Int) b) (okM often most) := fun b hb => by
      refine ev_succ ?_
      simp only [rubricatorref3_May.j2]
      by_cases hc : rd often (i : Int) < 0 ∨ rd often (i : Int) > 1048576
      · rw [decide_eq_true hc] at hb
        subst hb
        exact ev_if (by first | rfl | trivial) (ev_val (hbad hc).symm)
      · rw [decide_eq_false hc] at hb
        subst hb
        refine ev_else (by simp) (ev_if (by omega) (ev_if (by omega) ?_))
        have hc' : ¬ (often.getD i 0 < 0 ∨ often.getD i 0 > 1048576) := hc
        rw [if_neg hc'] at hstep
        rw [show wrap64 ((i : Int) + 1) = ((i + 1 : Nat) : Int) by unfold wrap64; omega]
        by_cases hp : rd often (i : Int) > 0
        · have hp' : often.getD i 0 > 0 := hp
          rw [if_pos hp'] at hstep
          have := ih (i + 1) _ (by omega) hstep
          rw [List.length_append, List.length_singleton] at this
          rw [show wrap64 ((T.length : Int) + 1) = ((T.length + 1 : Nat) : Int) by unfold wrap64; omega]
          exact ev_if hp this
        · have hp' : ¬ often.getD i 0 > 0 := hp
          rw [if_neg hp'] at hstep
          exact ev_else hp (ih (i + 1) _ (by omega) hstep)
    refine ev_succ ?_
    simp only [rubricatorref3_May.l0]
    refine ev_if (by omega) (ev_if (by omega) ?_)
    by_cases h3 : rd often (i : Int) < 0
    · exact ev_if h3 (hj true (by rw [decide_eq_true (.inl h3)]))
    · refine ev_else h3 (hj _ ?_)
      by_cases h4 : rd often (i : Int) > 1048576
      · rw [decide_eq_true h4, decide_eq_true (.inr h4)]
      · rw [decide_eq_false h4, decide_eq_false (by omega)]
theorem okM_may (often : List Int) (most : Int) (hn : often.length ≤ 320) (h1 : 1 ≤ most) (h2 : most ≤ 15) : okM often most = true ↔ May often most := by
  unfold okM May
  cases hs : sgl often often.length with
  | none => simp
  | some S => simp [hn, h1, h2]
theorem may_ev (often : List Int) (most : Int) (b : Bool) (hb : b = true ↔ May often most) : Ev (fun k => rubricatorref3_May.f k often most) b := by
  unfold rubricatorref3_May.f
  have hno : ¬ May often most → Ev (fun k => rubricatorref3_May.j0 k often most true) b := fun h => by
    refine ev_succ ?_
    simp only [rubricatorref3_May.j0]
    refine ev_if (by first | rfl | trivial) (ev_val ?_)
    cases b
    · rfl
    · exact absurd (hb.1 rfl) h
  by_cases h0 : (often.length : Int) > 320
  · exact ev_if h0 (hno (fun h => by have := h.1; omega))
  refine ev_else h0 ?_
  by_cases h1 : most < 1
  · exact ev_if h1 (hno (fun h => by have := h.2.1; omega))
  refine ev_else h1 ?_
  by_cases h2 : most > 15
  · rw [decide_eq_true h2]
    exact hno (fun h => by have := h.2.2.1; omega)
  rw [decide_eq_false h2]
  refine ev_succ ?_
  simp only [rubricatorref3_May.j0]
  refine ev_else (by simp) ?_
  have := may_go often most (by omega) (by omega) (by omega) often.length 0 [] (by omega) rfl
  have e : okM often most = b := by
    rw [Bool.eq_iff_iff, okM_may often most (by omega) (by omega) (by omega)]
    exact hb.symm
  rw [e] at this
  exact this
theorem own_ev (l : List Int) (h : l.length ≤ 400) : rubricatorlaw3_own.f l = some l := by
  unfold rubricatorlaw3_own.f
  simp
  omega
theorem made_at {o : List Int} {most : Int} {S : List It} {L : List Int} (M : Made o most S L) (h1 : 1 ≤ most) (hr : ∀ x : Nat, x < o.length → 0 ≤ o.getD x 0 ∧ o.getD x 0 ≤ 1048576) (x : Nat) (hx : x < o.length) : 0 ≤ L.getD x 0 ∧ L.getD x 0 ≤ most ∧ (L.getD x 0 = 0 ↔ o.getD x 0 = 0) := by
  have h := hr x hx
  by_cases hp : 0 < o.getD x 0
  · have := M.pos x hx hp
    omega
  · have := M.zero x hx (by omega)
    omega
theorem made_isL {o : List Int} {most : Int} {S : List It} {L : List Int} (M : Made o most S L) (hn : o.length ≤ 320) (h1 : 1 ≤ most) (h2 : most ≤ 15) (hr : ∀ x : Nat, x < o.length → 0 ≤ o.getD x 0 ∧ o.getD x 0 ≤ 1048576) : isL L = true := by
  unfold isL
  rw [Bool.and_eq_true, decide_eq_true_eq, Bool.not_eq_true', List.any_eq_false]
  refine ⟨by rw [M.len]; omega, fun y hy => ?_⟩
  obtain ⟨x, hx, e⟩ := List.getElem_of_mem hy
  have h := made_at M h1 hr x (by rw [← M.len]; exact hx)
  rw [List.getD_eq_getElem?_getD, List.getElem?_eq_getElem hx, e] at h
  have h' : 0 ≤ y ∧ y ≤ most := ⟨h.1, h.2.1⟩
  unfold badL
  rw [Bool.or_eq_true, decide_eq_true_eq, decide_eq_true_eq]
  omega
end Go.Proofs.Ytachnclfgjdglaa.Pack
