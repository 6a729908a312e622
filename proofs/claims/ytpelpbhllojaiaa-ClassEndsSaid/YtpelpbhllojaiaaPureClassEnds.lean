/- The first and the last rune of any text are as the document says. No conditions. -/
import Derived.Test.YtpelpbhllojaiaaPAx5
import Derived.Test.YtpelpbhllojaiaaMath
import Derived.Test.YtpelpbhllojaiaaRune
namespace Go.Proofs.Ytpelpbhllojaiaa.Pure
open Go.RowKit Go.Proofs.Ytpelpbhllojaiaa.PA Go.Proofs.YtpelpbhllojaiaaW.PrintWords Go.Proofs.YtpelpbhllojaiaaW.PrintLast
open Go.Proofs.Ytpelpbhllojaiaa.Mat Go.Proofs.Ytpelpbhllojaiaa.Rune Go.Proofs.YtpelpbhllojaiaaAid

def runesL : Nat → ByteArray → Nat → List Int
  | 0, _, _ => []
  | d + 1, s, i => if i < s.size then ((Utf8.decode s i).1 : Int) :: runesL d s (i + (Utf8.decode s i).2) else []
theorem from_last (s : ByteArray) : ∀ (d p : Nat) (l : Int), class_Last.from d s p l = (runesL d s p).getLastD l
  | 0, _, _ => rfl
  | d + 1, p, l => by
    rw [class_Last.from, runesL]
    split
    · rw [from_last s d, List.getLastD_cons]
    · rfl
theorem runesL_length (s : ByteArray) : ∀ (d i : Nat), (runesL d s i).length ≤ d
  | 0, _ => Nat.le_refl _
  | d + 1, i => by
    rw [runesL]
    split
    · have := runesL_length s d (i + (Utf8.decode s i).2)
      rw [List.length_cons]
      omega
    · simp
theorem width_le (s : ByteArray) (i : Nat) : (Utf8.decode s i).2 ≤ 4 := by
  unfold Utf8.decode
  simp only
  repeat' split
  all_goals simp
theorem Runes_l0 (s : ByteArray) (hs : s.size ≤ 3000) : ∀ (d i : Nat) (acc : List Int), s.size ≤ i + d → i ≤ s.size + 4 → acc.length ≤ i → Ev (fun k => rubricatorref7_Runes.l0 k s acc (i : Int)) (acc ++ runesL d s i) := by
  intro d
  induction d with
  | zero =>
    intro i acc hi _ _
    refine ev_succ ?_
    simp only [rubricatorref7_Runes.l0]
    refine ev_else (by omega) (ev_val ?_)
    rw [runesL, List.append_nil]
  | succ d ih =>
    intro i acc hi hi4 ha
    refine ev_succ ?_
    simp only [rubricatorref7_Runes.l0]
    rw [runesL]
    by_cases h : i < s.size
    · rw [if_pos h]
      have hw := class_Last.width s i h
      have hw4 := width_le s i
      refine ev_if (by omega) (ev_if (by omega) (ev_if (by omega) ?_))
      rw [Int.toNat_natCast]
      refine Ev.bind (rune_at s i h) (ev_if (by omega) ?_)
      have ew : wrap64 ((i : Int) + (rune s i).2.1) = ((i + (Utf8.decode s i).2 : Nat) : Int) := by
        unfold rune wrap64
        simp only
        omega
      rw [ew]
      have h2 := ih (i + (Utf8.decode s i).2) (acc ++ [(rune s i).1]) (by omega) (by omega) (by rw [List.length_append, List.length_singleton]; omega)
      rw [List.append_assoc, List.singleton_append] at h2
      exact h2
    · rw [if_neg h, List.append_nil]
      exact ev_else (by omega) (Ev.now _)
theorem ClassEnds : rubricatorlaw8_ClassEnds.Pure := by
  intro s hs
  refine Ev.rounds (r := true) ?_
  unfold rubricatorlaw8_ClassEnds.f class_First.f class_Last.f
  by_cases h : (s.size : Int) > 3000
  · exact ev_if h (Ev.now _)
  refine ev_else h (ev_some ?_)
  have hl : s.toList = [] ↔ s.size = 0 := by
    rw [ByteArray.toList_eq, ← List.length_eq_zero_iff, data_length]
  have first : Ev (fun k => rubricatorref8_First.f k s) (if 0 < s.size then ((Utf8.decode s 0).1 : Int) else 10) := by
    unfold rubricatorref8_First.f
    by_cases h0 : s.size = 0
    · rw [if_neg (by omega)]
      exact ev_if (hl.2 h0) (Ev.now _)
    · rw [if_pos (by omega)]
      refine ev_else (fun e => h0 (hl.1 e)) (Ev.bind (rune_ev s (by omega)) ?_)
      exact Ev.now _
  have last : Ev (fun k => rubricatorref8_Last.f k s) (class_Last.from s.size s 0 10) := by
    unfold rubricatorref8_Last.f
    refine Ev.bind (Runes_l0 s (by omega) s.size 0 [] (by omega) (by omega) (by simp)) ?_
    rw [List.nil_append, from_last]
    have hlen := runesL_length s s.size 0
    obtain ⟨t, ht⟩ : ∃ t, t = runesL s.size s 0 := ⟨_, rfl⟩
    rw [← ht] at hlen ⊢
    by_cases h0 : t.length = 0
    · have e : t = [] := List.eq_nil_of_length_eq_zero h0
      subst e
      exact ev_if rfl (Ev.now _)
    · have ew : wrap64 ((t.length : Int) - 1) = ((t.length - 1 : Nat) : Int) := by unfold wrap64; omega
      rw [ew]
      refine ev_else (by omega) (ev_if (by omega) (ev_if (by omega) (ev_val ?_)))
      rw [rd_get t (t.length - 1) (by omega)]
      have hne : t ≠ [] := fun e => h0 (by rw [e]; rfl)
      rw [List.getLastD_eq_getLast?, List.getLast?_eq_getElem?, List.getElem?_eq_getElem (by omega)]
      rfl
  refine Ev.bind first (ev_if rfl (ev_some (Ev.bind last (ev_if rfl (ev_some (ev_if (by decide +kernel) (ev_some (ev_if (by decide +kernel) ?_))))))))
  exact Ev.bind known_ev (Ev.now _)
end Go.Proofs.Ytpelpbhllojaiaa.Pure
