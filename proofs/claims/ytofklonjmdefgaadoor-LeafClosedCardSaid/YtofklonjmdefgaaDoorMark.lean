/- Marker, the program's and the document's: both come to the same. Texts below 2^40 bytes. -/
import Derived.Test.YtofklonjmdefgaaDoorPAx3
import Derived.Test.YtofklonjmdefgaaDoorSpec
namespace Go.Proofs.YtofklonjmdefgaaDoor.Spec
open Go.RowKit Go.Proofs.YtofklonjmdefgaaDoor.PA Go.Proofs.YtofklonjmdefgaaDoorW.PrintWords Go.Proofs.YtofklonjmdefgaaDoorW.PrintLast
open Go.Proofs.YtofklonjmdefgaaDoorAid
set_option linter.unusedVariables false
/-- What stands behind digits: a sign, and nothing or a blank. -/
def markV (s : ByteArray) (i : Nat) (v : Int) : Int × Int × Int :=
  if i < s.size then
    (if (if 0 < i then decide (bt s (i : Int) = 46 ∨ bt s (i : Int) = 41) else decide (bt s (i : Int) = 45 ∨ bt s (i : Int) = 43 ∨ bt s (i : Int) = 42)) = true then
      (if (if i + 1 < s.size then decide (bt s ((i + 1 : Nat) : Int) = 32 ∨ bt s ((i + 1 : Nat) : Int) = 9) else true) = true then (((i + 1 : Nat) : Int), bt s (i : Int), v) else (0, 0, 0))
     else (0, 0, 0))
  else (0, 0, 0)
theorem w1 (i : Nat) (h : i < 1099511627776) : wrap64 ((i : Int) + 1) = ((i + 1 : Nat) : Int) := by unfold wrap64; omega
theorem j2_ev (s : ByteArray) (hs : s.size ≤ 1099511627776) (i : Nat) (hi : i ≤ s.size) (v : Int) (l : ByteArray) (P : Prop) [Decidable P] (hP : i < s.size → ((Lib.indexByte l.data.toList (bt s (i : Int)).toNat.toUInt8 ≥ 0) ↔ P))
    (he : (if i < s.size then (if P then (if (if i + 1 < s.size then decide (bt s ((i + 1 : Nat) : Int) = 32 ∨ bt s ((i + 1 : Nat) : Int) = 9) else true) = true then (((i + 1 : Nat) : Int), bt s (i : Int), v) else (0, 0, 0)) else (0, 0, 0)) else (0, 0, 0)) = markV s i v) :
    Ev (fun k => leaf_Marker.j2 k s (i : Int) v l) (markV s i v) := by
  rw [← he]
  refine ev_succ ?_
  simp only [leaf_Marker.j2]
  by_cases c : i < s.size
  · rw [if_pos c]
    refine ev_else (by omega) (ev_if (by omega) (ev_if (by omega) ?_))
    unfold strings_IndexByte.f
    refine ev_some ?_
    by_cases p : P
    · rw [if_pos p]
      have := (hP c).2 p
      refine ev_else (by omega) ?_
      rw [w1 i (by omega)]
      refine ev_if (by omega) (ev_if (by omega) ?_)
      rw [Int.toNat_natCast, ends_eq s (i + 1) (by omega)]
      refine ev_some ?_
      by_cases q : (if i + 1 < s.size then decide (bt s ((i + 1 : Nat) : Int) = 32 ∨ bt s ((i + 1 : Nat) : Int) = 9) else true) = true
      · exact ev_if q (ev_val (by rw [if_pos q]))
      · exact ev_else q (ev_val (by rw [if_neg q]))
    · rw [if_neg p]
      have : ¬ Lib.indexByte l.data.toList (bt s (i : Int)).toNat.toUInt8 ≥ 0 := fun h => p ((hP c).1 h)
      exact ev_if (by omega) (Ev.now _)
  · rw [if_neg c]
    exact ev_if (by omega) (Ev.now _)
theorem stop_ev (s : ByteArray) (hs : s.size ≤ 1099511627776) (i : Nat) (hi : i ≤ s.size) (v : Int) : Ev (fun k => leaf_Marker.j1 k s (i : Int) v false) (markV s i v) := by
  refine ev_succ ?_
  simp only [leaf_Marker.j1]
  refine ev_else (by decide) ?_
  by_cases c : 0 < i
  · refine ev_if (by omega) (j2_ev s hs i hi v _ (bt s (i : Int) = 46 ∨ bt s (i : Int) = 41) (fun _ => points _ (bt_bd s _)) ?_)
    unfold markV
    simp only [if_pos c, decide_eq_true_eq]
  · refine ev_else (by omega) (j2_ev s hs i hi v _ (bt s (i : Int) = 45 ∨ bt s (i : Int) = 43 ∨ bt s (i : Int) = 42) (fun _ => bullets _ (bt_bd s _)) ?_)
    unfold markV
    simp only [if_neg c, decide_eq_true_eq]
theorem rblank_eq (c : Int) : rubricatorref18_blank.f c = some (decide (c = 32 ∨ c = 9)) := by
  unfold rubricatorref18_blank.f
  by_cases h : c = 32
  · rw [if_pos h, decide_eq_true (.inl h)]
  · rw [if_neg h]
    congr 1
    rw [Bool.eq_iff_iff, beq_iff_eq, decide_eq_true_eq]
    omega
theorem rj3_ev (s : ByteArray) (hs : s.size ≤ 1099511627776) (i : Nat) (hi : i < s.size) (v : Int) (b : Bool)
    (hb : b = !(if 0 < i then decide (bt s (i : Int) = 46 ∨ bt s (i : Int) = 41) else decide (bt s (i : Int) = 45 ∨ bt s (i : Int) = 43 ∨ bt s (i : Int) = 42))) :
    Ev (fun k => rubricatorref18_Marker.j3 k s (i : Int) v (bt s (i : Int)) b) (markV s i v) := by
  refine ev_succ ?_
  simp only [rubricatorref18_Marker.j3]
  unfold markV
  rw [if_pos hi]
  by_cases c : (if 0 < i then decide (bt s (i : Int) = 46 ∨ bt s (i : Int) = 41) else decide (bt s (i : Int) = 45 ∨ bt s (i : Int) = 43 ∨ bt s (i : Int) = 42)) = true
  · rw [if_pos c]
    rw [c] at hb
    subst hb
    refine ev_else (by decide) ?_
    rw [w1 i (by omega)]
    by_cases d : i + 1 < s.size
    · refine ev_if (by omega) (ev_if (by omega) (ev_if (by omega) ?_))
      rw [rblank_eq]
      refine ev_some ?_
      rw [if_pos d]
      by_cases q : decide (bt s ((i + 1 : Nat) : Int) = 32 ∨ bt s ((i + 1 : Nat) : Int) = 9) = true
      · exact ev_if q (ev_val (by rw [if_pos q]))
      · exact ev_else q (ev_val (by rw [if_neg q]))
    · refine ev_else (by omega) ?_
      rw [if_neg d, if_pos rfl]
      exact Ev.now _
  · rw [if_neg c]
    have : b = true := by rw [hb, Bool.eq_false_iff.2 c]; rfl
    exact ev_if this (Ev.now _)
theorem rstop_ev (s : ByteArray) (hs : s.size ≤ 1099511627776) (i : Nat) (hi : i ≤ s.size) (h9 : i ≤ 9) (v : Int) : Ev (fun k => rubricatorref18_Marker.j1 k s (i : Int) v) (markV s i v) := by
  refine ev_succ ?_
  simp only [rubricatorref18_Marker.j1]
  by_cases c : i < s.size
  · refine ev_else (by omega) ?_
    rw [decide_eq_false (show ¬ (i : Int) > 9 by omega)]
    refine ev_succ ?_
    simp only [rubricatorref18_Marker.j2]
    refine ev_else (by decide) (ev_if (by omega) (ev_if (by omega) ?_))
    by_cases z : 0 < i
    · refine ev_else (by omega) (ev_if (by omega) ?_)
      by_cases p : bt s (i : Int) = 46
      · exact ev_if p (rj3_ev s hs i c v _ (by rw [if_pos z, decide_eq_true (.inl p)]; rfl))
      · refine ev_else p (rj3_ev s hs i c v _ ?_)
        rw [if_pos z, Bool.eq_iff_iff]
        simp [p]
    · refine ev_if (by omega) ?_
      have zz : ¬ (i : Int) > 0 := by omega
      by_cases p1 : bt s (i : Int) = 45
      · exact ev_if p1 (ev_else zz (rj3_ev s hs i c v _ (by rw [if_neg z, decide_eq_true (.inl p1)]; rfl)))
      refine ev_else p1 ?_
      by_cases p2 : bt s (i : Int) = 43
      · exact ev_if p2 (ev_else zz (rj3_ev s hs i c v _ (by rw [if_neg z, decide_eq_true (.inr (.inl p2))]; rfl)))
      refine ev_else p2 ?_
      by_cases p3 : bt s (i : Int) = 42
      · exact ev_if p3 (ev_else zz (rj3_ev s hs i c v _ (by rw [if_neg z, decide_eq_true (.inr (.inr p3))]; rfl)))
      · refine ev_else p3 (rj3_ev s hs i c v _ ?_)
        rw [if_neg z, decide_eq_false (fun h => h.elim p1 (fun h => h.elim p2 p3))]
        rfl
  · refine ev_if (by omega) (ev_succ ?_)
    simp only [rubricatorref18_Marker.j2]
    unfold markV
    rw [if_neg c]
    exact ev_if trivial (Ev.now _)
def dig (s : ByteArray) (i : Nat) : Prop := i < s.size ∧ 48 ≤ bt s (i : Int) ∧ bt s (i : Int) ≤ 57
theorem l_digit (s : ByteArray) (hs : s.size ≤ 1099511627776) (i : Nat) (v : Int) (hd : dig s i) (h9 : i ≤ 9) (hv : 0 ≤ v ∧ v ≤ 100000000000) {r : Int × Int × Int}
    (h : if i = 9 then r = (0, 0, 0) else Ev (fun k => leaf_Marker.l0 k s ((i + 1 : Nat) : Int) (10 * v + (bt s (i : Int) - 48))) r) : Ev (fun k => leaf_Marker.l0 k s (i : Int) v) r := by
  obtain ⟨h1, h2, h3⟩ := hd
  refine ev_succ ?_
  simp only [leaf_Marker.l0]
  refine ev_if (by omega) (ev_if (by omega) (ev_if h2 ?_))
  rw [decide_eq_true h3]
  refine ev_succ ?_
  simp only [leaf_Marker.j1]
  refine ev_if trivial ?_
  by_cases c : i = 9
  · rw [if_pos c] at h
    subst h
    exact ev_if (by omega) (Ev.now _)
  · rw [if_neg c] at h
    refine ev_else (by omega) (ev_if (by omega) (ev_if (by omega) ?_))
    rw [w1 i (by omega)]
    have e : wrap64 (wrap64 (10 * v) + (bt s (i : Int) - 48) % 256) = 10 * v + (bt s (i : Int) - 48) := by unfold wrap64; omega
    rw [e]
    exact h
theorem l_stop (s : ByteArray) (hs : s.size ≤ 1099511627776) (i : Nat) (hi : i ≤ s.size) (v : Int) (hd : ¬ dig s i) : Ev (fun k => leaf_Marker.l0 k s (i : Int) v) (markV s i v) := by
  refine ev_succ ?_
  simp only [leaf_Marker.l0]
  by_cases c : i < s.size
  · refine ev_if (by omega) (ev_if (by omega) ?_)
    by_cases c2 : bt s (i : Int) ≥ 48
    · refine ev_if c2 ?_
      rw [decide_eq_false (show ¬ bt s (i : Int) ≤ 57 from fun h => hd ⟨c, c2, h⟩)]
      exact stop_ev s hs i hi v
    · exact ev_else c2 (stop_ev s hs i hi v)
  · exact ev_else (by omega) (stop_ev s hs i hi v)
theorem r_digit (s : ByteArray) (hs : s.size ≤ 1099511627776) (i : Nat) (v : Int) (hd : dig s i) (h9 : i ≤ 9) (hv : 0 ≤ v ∧ v ≤ 100000000000) {r : Int × Int × Int}
    (h : Ev (fun k => rubricatorref18_Marker.l0 k s ((i + 1 : Nat) : Int) (10 * v + (bt s (i : Int) - 48))) r) : Ev (fun k => rubricatorref18_Marker.l0 k s (i : Int) v) r := by
  obtain ⟨h1, h2, h3⟩ := hd
  refine ev_succ ?_
  simp only [rubricatorref18_Marker.l0]
  refine ev_if (by omega) (ev_if (by omega) (ev_if (by omega) (ev_if h2 (ev_if h3 ?_))))
  rw [w1 i (by omega)]
  have e : wrap64 (wrap64 (wrap64 (v * 10) + wrap64 (bt s (i : Int))) - 48) = 10 * v + (bt s (i : Int) - 48) := by unfold wrap64; omega
  rw [e]
  exact h
theorem r_stop (s : ByteArray) (hs : s.size ≤ 1099511627776) (i : Nat) (hi : i ≤ s.size) (h9 : i ≤ 9) (v : Int) (hd : ¬ dig s i) : Ev (fun k => rubricatorref18_Marker.l0 k s (i : Int) v) (markV s i v) := by
  refine ev_succ ?_
  simp only [rubricatorref18_Marker.l0]
  by_cases c : i < s.size
  · refine ev_if (by omega) (ev_if (by omega) (ev_if (by omega) ?_))
    by_cases c2 : bt s (i : Int) ≥ 48
    · exact ev_if c2 (ev_else (fun h => hd ⟨c, c2, h⟩) (rstop_ev s hs i hi h9 v))
    · exact ev_else c2 (rstop_ev s hs i hi h9 v)
  · exact ev_else (by omega) (rstop_ev s hs i hi h9 v)
theorem r_ten (s : ByteArray) (hs : s.size ≤ 1099511627776) (hi : 10 ≤ s.size) (v : Int) : Ev (fun k => rubricatorref18_Marker.l0 k s 10 v) (0, 0, 0) := by
  have hj : Ev (fun k => rubricatorref18_Marker.j1 k s 10 v) (0, 0, 0) := by
    refine ev_succ ?_
    simp only [rubricatorref18_Marker.j1]
    have h2 : ∀ b : Bool, b = true → Ev (fun k => rubricatorref18_Marker.j2 k s 10 v b) (0, 0, 0) := by
      intro b hb
      refine ev_succ ?_
      simp only [rubricatorref18_Marker.j2]
      exact ev_if hb (Ev.now _)
    by_cases c : (10 : Int) = (s.size : Int)
    · exact ev_if c (h2 _ rfl)
    · exact ev_else c (h2 _ (by decide))
  refine ev_succ ?_
  simp only [rubricatorref18_Marker.l0]
  by_cases c : (10 : Int) < (s.size : Int)
  · exact ev_if c (ev_else (by omega) hj)
  · exact ev_else c hj
theorem both_ev (s : ByteArray) (hs : s.size ≤ 1099511627776) : ∀ (d i : Nat) (v : Int), i + d = 9 → i ≤ s.size → 0 ≤ v → v < 10 ^ i →
    ∃ r, Ev (fun k => leaf_Marker.l0 k s (i : Int) v) r ∧ Ev (fun k => rubricatorref18_Marker.l0 k s (i : Int) v) r := by
  have p9 : ∀ i : Nat, i ≤ 9 → (10 : Int) ^ i ≤ 1000000000 := by
    intro i hi
    have : ∀ j : Fin 10, (10 : Int) ^ (j : Nat) ≤ 1000000000 := by decide
    exact this ⟨i, by omega⟩
  intro d
  induction d with
  | zero =>
    intro i v hi hl h0 h1
    have hp := p9 i (by omega)
    by_cases hd : dig s i
    · refine ⟨(0, 0, 0), l_digit s hs i v hd (by omega) (by omega) (by rw [if_pos (by omega)]), r_digit s hs i v hd (by omega) (by omega) ?_⟩
      obtain rfl : i = 9 := by omega
      exact r_ten s hs (by have := hd.1; omega) _
    · exact ⟨markV s i v, l_stop s hs i hl v hd, r_stop s hs i hl (by omega) v hd⟩
  | succ d ih =>
    intro i v hi hl h0 h1
    have hp := p9 i (by omega)
    by_cases hd : dig s i
    · have hd' := hd
      obtain ⟨a1, a2, a3⟩ := hd'
      obtain ⟨r, g1, g2⟩ := ih (i + 1) (10 * v + (bt s (i : Int) - 48)) (by omega) (by omega) (by omega) (by rw [Int.pow_succ]; omega)
      exact ⟨r, l_digit s hs i v hd (by omega) (by omega) (by rw [if_neg (by omega)]; exact g1), r_digit s hs i v hd (by omega) (by omega) g2⟩
    · exact ⟨markV s i v, l_stop s hs i hl v hd, r_stop s hs i hl (by omega) v hd⟩
end Go.Proofs.YtofklonjmdefgaaDoor.Spec
