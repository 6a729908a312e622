/- The styles that are always written: the program's and the document's are one row; a heading is known. No conditions. -/
import Derived.Test.YtahgfbficidjlaaDoorSay
namespace Go.Proofs.YtahgfbficidjlaaDoor.Known
open Go.RowKit Go.Proofs.YtahgfbficidjlaaDoor.PA Go.Proofs.YtahgfbficidjlaaDoorW.PrintWords Go.Proofs.YtahgfbficidjlaaDoorW.PrintLast Go.Proofs.YtahgfbficidjlaaDoorAid Go.Proofs.YtahgfbficidjlaaDoorChain Go.Proofs.YtahgfbficidjlaaDoor.Sty Go.Proofs.YtahgfbficidjlaaDoor.Say
set_option linter.unusedVariables false
set_option linter.unusedSimpArgs false

def ba (l : List UInt8) : ByteArray := ⟨l.toArray⟩
def normal : List UInt8 := [78, 111, 114, 109, 97, 108]
def heading (b : UInt8) : List UInt8 := [72, 101, 97, 100, 105, 110, 103, b]
def stdIds : List (List UInt8) := [normal, heading 49, heading 50, heading 51, heading 52, heading 53, heading 54, [67, 111, 100, 101], [82, 117, 108, 101], [79, 112, 101, 110, 101, 114], [67, 111, 100, 101, 84, 101, 120, 116]]
def STD : List S35 := [⟨ba normal, ba [], false, 0, 0, 0⟩, ⟨ba (heading 49), ba normal, false, 0, 0, 1⟩, ⟨ba (heading 50), ba normal, false, 0, 0, 2⟩, ⟨ba (heading 51), ba normal, false, 0, 0, 3⟩, ⟨ba (heading 52), ba normal, false, 0, 0, 4⟩, ⟨ba (heading 53), ba normal, false, 0, 0, 5⟩, ⟨ba (heading 54), ba normal, false, 0, 0, 6⟩,
  ⟨ba [67, 111, 100, 101], ba normal, false, 0, 0, 0⟩, ⟨ba [82, 117, 108, 101], ba normal, false, 0, 0, 0⟩, ⟨ba [79, 112, 101, 110, 101, 114], ba normal, false, 0, 0, 0⟩, ⟨ba [67, 111, 100, 101, 84, 101, 120, 116], ba [], true, 0, 0, 0⟩]
theorem std_f : style_Standard.f 12 = some STD := by kernel_rfl
theorem ref_f : rubricatorref14_Standard.f 8 = some STD := by kernel_rfl
theorem tl_nil {a : ByteArray} : a.toList = ([] : List UInt8) ↔ a.data.toList = [] := by rw [Lib.toList_data]
theorem tl_ba (s : List UInt8) : (ba s).toList = s := by rw [Lib.toList_data]; rfl
theorem ba_inj {a b : List UInt8} (h : ba a = ba b) : a = b := by rw [← tl_ba a, h, tl_ba]
/-- a style that can be, whatever others are -/
def okS (s : S35) : Bool := !s.f0.data.toList.isEmpty && (decide (0 ≤ s.f3) && (decide (s.f3 ≤ 2) && (decide (0 ≤ s.f4) && (decide (s.f4 ≤ 2) && (decide (0 ≤ s.f5) && (decide (s.f5 ≤ 6) && (!s.f2 || decide (s.f5 ≤ 0))))))))
theorem alone_ok {s : S35} (h : okS s = true) : style_Check.alone s = false := by
  unfold okS at h
  simp only [Bool.and_eq_true, decide_eq_true_iff, Bool.or_eq_true, Bool.not_eq_true'] at h
  obtain ⟨h0, h1, h2, h3, h4, h5, h6, h7⟩ := h
  unfold style_Check.alone style_alone.f
  have e0 : ¬ s.f0.toList = ([] : List UInt8) := fun e => by
    rw [tl_nil] at e
    rw [e] at h0
    cases h0
  rw [if_neg e0, if_neg (by omega), if_neg (by omega), if_neg (by omega), if_neg (by omega), if_neg (by omega), if_neg (by omega)]
  by_cases h8 : s.f2 = true
  · rw [if_pos h8]
    rcases h7 with h7 | h7
    · rw [h7] at h8; cases h8
    · show decide (s.f5 > 0) = false
      exact decide_eq_false (by omega)
  · rw [if_neg h8]
theorem X_over {l : List S35} {k : Nat} (h : l.length ≤ k) : X l k = z35 := by
  unfold X
  rw [List.getD_eq_getElem?_getD, List.getElem?_eq_none h]
  rfl
theorem nx_over {l : List S35} {k : Nat} (h : l.length ≤ k) : nx l k = none := by
  unfold nx
  rw [X_over h]
  exact if_pos (tl_nil.2 rfl)
theorem nx_of {l : List S35} (hD : ∀ i j, i < l.length → j < l.length → (X l i).f0 = (X l j).f0 → i = j) {k m : Nat} (he : ¬ (X l k).f1.data.toList = []) (hm : m < l.length) (h : (X l m).f0 = (X l k).f1) : nx l k = some m := by
  unfold nx
  rw [if_neg (fun e => he (tl_nil.1 e))]
  refine ix_of hm h (fun j hj e => ?_)
  have := hD j m (by omega) hm (e.trans h.symm)
  omega
/-- styles that are based on lower ones are no fault -/
theorem nice_res {l : List S35} (r : Nat → Nat) (hA : ∀ i, i < l.length → okS (X l i) = true) (hD : ∀ i j, i < l.length → j < l.length → (X l i).f0 = (X l j).f0 → i = j)
    (hB : ∀ i, i < l.length → (X l i).f1.data.toList = [] ∨ ∃ m, m < l.length ∧ (X l m).f0 = (X l i).f1 ∧ r m < r i ∧ (X l m).f2 = (X l i).f2) : style_Check.res l = (-1, 0) := by
  have hn : ∀ k m, nx l k = some m → r m < r k ∧ (X l m).f2 = (X l k).f2 := by
    intro k m h
    by_cases hk : k < l.length
    · rcases hB k hk with e | ⟨m2, h1, h2, h3, h4⟩
      · unfold nx at h
        rw [if_pos (tl_nil.2 e)] at h
        cases h
      · by_cases e : (X l k).f1.data.toList = []
        · unfold nx at h
          rw [if_pos (tl_nil.2 e)] at h
          cases h
        · rw [nx_of hD e h1 h2] at h
          obtain rfl := Option.some.inj h
          exact ⟨h3, h4⟩
    · rw [nx_over (by omega)] at h
      cases h
  refine ok_res (fun i hi => alone_ok (hA i hi)) (fun i hi => ix_of hi rfl (fun j hj e => ?_)) (fun k hk hne => ?_) (fun i hi => gB_rank r (fun k m h => (hn k m h).1) (fun k m h => (hn k m h).2) i _)
  · have := hD j i (by omega) hi e
    omega
  · rcases hB k hk with e | ⟨m, h1, h2, _, _⟩
    · exact absurd (tl_nil.2 e) hne
    · refine ⟨m, ix_of h1 h2 (fun j hj e => ?_)⟩
      have := hD j m (by omega) h1 (e.trans h2.symm)
      omega
theorem std_ids : ∀ i : Fin 11, ∀ j : Fin 11, (X STD i.val).f0.data.toList = (X STD j.val).f0.data.toList → i.val = j.val := by decide +kernel
theorem std_ok : ∀ i : Fin 11, okS (X STD i.val) = true := by decide +kernel
theorem std_based : ∀ i : Fin 11, (X STD i.val).f1.data.toList = [] ∨ ((X STD 0).f0.data.toList = (X STD i.val).f1.data.toList ∧ 0 < i.val ∧ (X STD 0).f2 = (X STD i.val).f2) := by decide +kernel
theorem std_dist : ∀ i j, i < STD.length → j < STD.length → (X STD i).f0 = (X STD j).f0 → i = j := fun i j hi hj e => std_ids ⟨i, hi⟩ ⟨j, hj⟩ (by rw [e])
theorem std_res : style_Check.res STD = (-1, 0) := by
  refine nice_res (fun k => k) (fun i hi => std_ok ⟨i, hi⟩) std_dist (fun i hi => ?_)
  rcases std_based ⟨i, hi⟩ with h | ⟨h1, h2, h3⟩
  · exact .inl h
  · exact .inr ⟨0, by decide, dl.1 h1, h2, h3⟩
theorem std_small : Small STD := ⟨by decide, by decide +kernel⟩
theorem std_level : lvl STD (ba (heading 51)) = 3 := by
  unfold lvl sayV
  rw [std_res, if_pos rfl, if_neg (by rw [tl_ba]; decide)]
  have h : style_find.ix (ba (heading 51)) STD = some 3 := by
    refine ix_of (by decide) rfl (fun j hj e => ?_)
    have := std_dist j 3 (by show j < 11; omega) (by decide) e
    omega
  rw [h]
  rfl
theorem known_ev : Ev (fun k => rubricatorlaw14_known.f k) true := by
  unfold rubricatorlaw14_known.f
  have hs : Ev (fun k => style_Standard.f k) STD := Ev.of style_Standard.mono std_f
  refine Ev.bind hs (Ev.bind (ev_const (level_f std_small (ba (heading 51)))) (ev_val ?_))
  rw [std_level]
  rfl
theorem kn (g : Nat → Option Bool) (h : ∀ k, g k = (rubricatorlaw14_known.f k).bind fun t => some t) : Ev g true := Ev.congr h (Ev.bind known_ev (ev_val rfl))
theorem own_f {l : List S35} (hl : l.length ≤ 1000000) : rubricatorlaw14_own.f l = some l := by
  unfold rubricatorlaw14_own.f
  show (if ([] : List S35).length + l.length < 2199023255552 then some ([] ++ l) else none) = some l
  rw [if_pos (by simp; omega)]
  rfl
end Go.Proofs.YtahgfbficidjlaaDoor.Known
