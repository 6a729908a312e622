/- What a Cursor's methods come to: columns of blanks, and going over them. Texts below a million bytes. -/
import Derived.Test.YtbhopjcicdjjpaaDoorPAx2
import Derived.Test.YtbhopjcicdjjpaaDoorAid
namespace Go.Proofs.YtbhopjcicdjjpaaDoor.The
open Go.RowKit Go.Proofs.YtbhopjcicdjjpaaDoor.PA Go.Proofs.YtbhopjcicdjjpaaDoorW.PrintWords Go.Proofs.YtbhopjcicdjjpaaDoorW.PrintLast Go.Proofs.YtbhopjcicdjjpaaDoorW.PrintMore Go.Proofs.YtbhopjcicdjjpaaDoorAid
set_option linter.unusedVariables false
set_option linter.unusedSimpArgs false
def isB (s : ByteArray) (i : Nat) : Bool := decide (i < s.size) && (bt s (i : Int) == 32 || bt s (i : Int) == 9)
def wid (s : ByteArray) (i c l : Nat) : Nat := if 0 < l then l else if bt s (i : Int) = 9 then 4 - c % 4 else 1
theorem isB_lt {s : ByteArray} {i : Nat} (h : isB s i = true) : i < s.size := by
  unfold isB at h
  simp at h
  exact h.1
theorem wid_pos (s : ByteArray) (i c l : Nat) : 0 < wid s i c l := by
  unfold wid
  split
  · assumption
  · split <;> omega
theorem wid_left {s : ByteArray} {i c l : Nat} (h : 0 < l) : wid s i c l = l := by
  unfold wid
  rw [if_pos h]
theorem wid_le (s : ByteArray) (i c l : Nat) (h : l ≤ 4) : wid s i c l ≤ 4 := by
  unfold wid
  split
  · exact h
  · split <;> omega
def endCf (s : ByteArray) : Nat → Nat → Nat → Nat → Nat
  | 0, _, c, _ => c
  | d + 1, i, c, l => if isB s i then endCf s d (i + 1) (c + wid s i c l) 0 else c
def endC (s : ByteArray) (i c l : Nat) : Nat := endCf s (s.size - i) i c l
theorem endC_step {s : ByteArray} {i c l : Nat} (h : isB s i = true) : endC s i c l = endC s (i + 1) (c + wid s i c l) 0 := by
  have := isB_lt h
  unfold endC
  rw [show s.size - i = (s.size - (i + 1)) + 1 by omega, endCf, if_pos h]
theorem endC_stop {s : ByteArray} {i c l : Nat} (h : isB s i = false) : endC s i c l = c := by
  unfold endC
  cases s.size - i with
  | zero => rfl
  | succ d => rw [endCf, if_neg (by rw [h]; decide)]
/-- One after the other, up to the end. -/
theorem by_end {s : ByteArray} {P : Nat → Prop} (h : ∀ i, (i < s.size → P (i + 1)) → P i) : ∀ i, P i := by
  have : ∀ d i, s.size - i = d → P i := by
    intro d
    induction d with
    | zero => exact fun i hi => h i (fun hl => by omega)
    | succ d ih => exact fun i hi => h i (fun hl => ih (i + 1) (by omega))
  exact fun i => this _ i rfl
theorem endC_ge (s : ByteArray) : ∀ i c l, c ≤ endC s i c l := by
  refine by_end (s := s) (P := fun i => ∀ c l, c ≤ endC s i c l) (fun i ih c l => ?_)
  cases hb : isB s i with
  | false => rw [endC_stop hb]; exact Nat.le_refl _
  | true => rw [endC_step hb]; exact Nat.le_trans (Nat.le_add_right _ _) (ih (isB_lt hb) _ _)
theorem endC_le (s : ByteArray) : ∀ i c l, l ≤ 4 → endC s i c l ≤ c + 4 * (s.size - i) := by
  refine by_end (s := s) (P := fun i => ∀ c l, l ≤ 4 → endC s i c l ≤ c + 4 * (s.size - i)) (fun i ih c l hl => ?_)
  cases hb : isB s i with
  | false => rw [endC_stop hb]; omega
  | true =>
    have := isB_lt hb
    rw [endC_step hb]
    have h1 := ih this (c + wid s i c l) 0 (by omega)
    have h2 := wid_le s i c l hl
    omega
def skpf (s : ByteArray) : Nat → Nat → Nat → Nat → Nat → Nat × Nat × Nat × Nat
  | 0, _, i, c, l => (0, i, c, l)
  | d + 1, n, i, c, l => if 0 < n ∧ isB s i = true then (if n < wid s i c l then (n, i, c + n, wid s i c l - n) else (wid s i c l + (skpf s d (n - wid s i c l) (i + 1) (c + wid s i c l) 0).1, (skpf s d (n - wid s i c l) (i + 1) (c + wid s i c l) 0).2)) else (0, i, c, l)
def skp (s : ByteArray) (n i c l : Nat) : Nat × Nat × Nat × Nat := skpf s (s.size - i) n i c l
theorem skp_stop {s : ByteArray} {n i c l : Nat} (h : ¬ (0 < n ∧ isB s i = true)) : skp s n i c l = (0, i, c, l) := by
  unfold skp
  cases s.size - i with
  | zero => rfl
  | succ d => rw [skpf, if_neg h]
theorem skp_in {s : ByteArray} {n i c l : Nat} (h : 0 < n) (hb : isB s i = true) (hw : n < wid s i c l) : skp s n i c l = (n, i, c + n, wid s i c l - n) := by
  have := isB_lt hb
  unfold skp
  rw [show s.size - i = (s.size - (i + 1)) + 1 by omega, skpf, if_pos ⟨h, hb⟩, if_pos hw]
theorem skp_on {s : ByteArray} {n i c l : Nat} (h : 0 < n) (hb : isB s i = true) (hw : ¬ n < wid s i c l) : skp s n i c l = (wid s i c l + (skp s (n - wid s i c l) (i + 1) (c + wid s i c l) 0).1, (skp s (n - wid s i c l) (i + 1) (c + wid s i c l) 0).2) := by
  have := isB_lt hb
  unfold skp
  rw [show s.size - i = (s.size - (i + 1)) + 1 by omega, skpf, if_pos ⟨h, hb⟩, if_neg hw]
/-- A state that can be: within a tab, or within none. -/
def Fine (s : ByteArray) (i c l : Nat) : Prop := i ≤ s.size ∧ l ≤ 4 ∧ (0 < l → i < s.size ∧ bt s (i : Int) = 9 ∧ l = 4 - c % 4)
theorem Fine.isB {s : ByteArray} {i c l : Nat} (h : Fine s i c l) (hl : 0 < l) : isB s i = true := by
  obtain ⟨h1, h2, h3⟩ := h
  obtain ⟨h4, h5, _⟩ := h3 hl
  unfold The.isB
  simp [h4, h5]
/-- Going over n columns: as many as there are, and as if at once. -/
theorem skp_spec (s : ByteArray) : ∀ i n c l, Fine s i c l → (skp s n i c l).1 = min n (endC s i c l - c) ∧ (skp s n i c l).2.2.1 = c + (skp s n i c l).1 ∧ Fine s (skp s n i c l).2.1 (skp s n i c l).2.2.1 (skp s n i c l).2.2.2 ∧
    endC s (skp s n i c l).2.1 (skp s n i c l).2.2.1 (skp s n i c l).2.2.2 = endC s i c l := by
  refine by_end (s := s) (P := fun i => ∀ n c l, Fine s i c l → _) (fun i ih n c l hf => ?_)
  by_cases h : 0 < n ∧ isB s i = true
  · obtain ⟨hn, hb⟩ := h
    have hi := isB_lt hb
    have hge := endC_ge s (i + 1) (c + wid s i c l) 0
    have hst := endC_step (c := c) (l := l) hb
    by_cases hw : n < wid s i c l
    · rw [skp_in hn hb hw]
      have h9 : bt s (i : Int) = 9 ∧ wid s i c l = 4 - c % 4 := by
        unfold wid at hw ⊢
        by_cases hl : 0 < l
        · rw [if_pos hl]
          exact ⟨(hf.2.2 hl).2.1, (hf.2.2 hl).2.2⟩
        · rw [if_neg hl] at hw ⊢
          by_cases h9 : bt s (i : Int) = 9
          · rw [if_pos h9]; exact ⟨h9, rfl⟩
          · rw [if_neg h9] at hw; omega
      have hf2 : Fine s i (c + n) (wid s i c l - n) := ⟨by omega, by have := wid_le s i c l hf.2.1; omega, fun _ => ⟨hi, h9.1, by omega⟩⟩
      refine ⟨by simp only; omega, rfl, hf2, ?_⟩
      simp only
      rw [endC_step hb, endC_step (c := c) (l := l) hb]
      have e : wid s i (c + n) (wid s i c l - n) = wid s i c l - n := wid_left (by omega)
      rw [e]
      congr 1
      omega
    · rw [skp_on hn hb hw]
      have hf2 : Fine s (i + 1) (c + wid s i c l) 0 := ⟨by omega, by omega, fun h => by omega⟩
      obtain ⟨a1, a2, a3, a4⟩ := ih hi (n - wid s i c l) (c + wid s i c l) 0 hf2
      refine ⟨?_, ?_, a3, ?_⟩
      · simp only
        rw [a1, hst]
        omega
      · simp only
        rw [a2]
        omega
      · simp only
        rw [a4, hst]
  · rw [skp_stop h]
    refine ⟨?_, rfl, hf, rfl⟩
    simp only
    by_cases hn : 0 < n
    · have hb : isB s i = false := by
        cases hb : isB s i with
        | false => rfl
        | true => exact absurd ⟨hn, hb⟩ h
      rw [endC_stop hb]
      omega
    · omega
theorem skp_add (s : ByteArray) : ∀ i m n c l, Fine s i c l → (skp s (m + n) i c l).2 = (skp s n (skp s m i c l).2.1 (skp s m i c l).2.2.1 (skp s m i c l).2.2.2).2 := by
  refine by_end (s := s) (P := fun i => ∀ m n c l, Fine s i c l → _) (fun i ih m n c l hf => ?_)
  by_cases hm : 0 < m
  case neg =>
    have : m = 0 := by omega
    subst this
    rw [skp_stop (n := 0) (by simp), Nat.zero_add]
  cases hb : isB s i with
  | false =>
    rw [skp_stop (n := m) (by simp [hb]), skp_stop (n := m + n) (by simp [hb])]
    simp only
    rw [skp_stop (by simp [hb])]
  | true =>
    have hi := isB_lt hb
    by_cases hw : m < wid s i c l
    · rw [skp_in hm hb hw]
      simp only
      have e : wid s i (c + m) (wid s i c l - m) = wid s i c l - m := wid_left (by omega)
      by_cases hn : 0 < n
      case neg =>
        have : n = 0 := by omega
        subst this
        rw [skp_stop (n := 0) (by simp), Nat.add_zero, skp_in hm hb hw]
      by_cases hw2 : m + n < wid s i c l
      · rw [skp_in (by omega) hb hw2, skp_in hn hb (by rw [e]; omega), e]
        simp only [Prod.mk.injEq, true_and]
        omega
      · rw [skp_on (by omega) hb hw2, skp_on hn hb (by rw [e]; omega), e]
        simp only
        rw [show c + m + (wid s i c l - m) = c + wid s i c l by omega, show n - (wid s i c l - m) = m + n - wid s i c l by omega]
    · rw [skp_on hm hb hw, skp_on (n := m + n) (by omega) hb (by omega)]
      simp only
      have hf2 : Fine s (i + 1) (c + wid s i c l) 0 := ⟨by omega, by omega, fun h => by omega⟩
      rw [show m + n - wid s i c l = (m - wid s i c l) + n by omega]
      exact ih hi (m - wid s i c l) n (c + wid s i c l) 0 hf2
theorem w64 {x : Int} (h0 : 0 ≤ x) (h1 : x < 9223372036854775808) : wrap64 x = x := by unfold wrap64; omega
theorem here_eq (s : ByteArray) (i : Nat) (hi : i ≤ s.size) (c l : Int) : line_Cursor_here.f s i c l = some (isB s i, s, (i : Int), c, l) := by
  unfold line_Cursor_here.f isB line_isBlank.f
  by_cases h : i < s.size
  · rw [if_pos (by omega), if_pos (by omega)]
    by_cases h2 : bt s (i : Int) = 32
    · rw [if_pos h2]
      simp [h, h2]
    · rw [if_neg h2]
      simp [h, h2]
  · rw [if_neg (by omega)]
    simp [h]
theorem tmod4 (c : Nat) : Int.tmod (c : Int) 4 = ((c % 4 : Nat) : Int) := rfl
theorem wide_eq (s : ByteArray) (i c l : Nat) (hi : i < s.size) : line_Cursor_wide.f s i c l = some ((wid s i c l : Int), s, (i : Int), (c : Int), (l : Int)) := by
  unfold line_Cursor_wide.f wid
  by_cases hl : 0 < l
  · rw [if_pos (by omega), if_pos hl]
  · rw [if_neg (by omega), if_neg hl, if_pos (by omega), if_pos (by omega)]
    by_cases h9 : bt s (i : Int) = 9
    · rw [if_pos h9, if_pos h9, tmod4, w64 (by omega) (by omega)]
      congr 2
      omega
    · rw [if_neg h9, if_neg h9]
      rfl
theorem steps_eq (s : ByteArray) (i c l : Nat) (hi : i < s.size) (hl : l ≤ 4) (hs : s.size ≤ 1000000) (hc : c ≤ 1000000000) : line_Cursor_steps.f s i c l = some (s, ((i + 1 : Nat) : Int), ((c + wid s i c l : Nat) : Int), ((0 : Nat) : Int)) := by
  have hw := wid_le s i c l hl
  unfold line_Cursor_steps.f
  rw [wide_eq s i c l hi]
  simp only [Option.bind_some]
  rw [w64 (by omega) (by omega), w64 (by omega) (by omega)]
  rfl
theorem indent_l0 (s : ByteArray) (hs : s.size ≤ 1000000) (c0 : Nat) : ∀ (i c l : Nat), i ≤ s.size → l ≤ 4 → c0 ≤ c → c + 4 * (s.size - i) ≤ 900000000 → Ev (fun k => line_Cursor_Indent.l0 k c0 s i c l) ((endC s i c l - c0 : Nat) : Int) := by
  refine by_end (s := s) (fun i ih c l hi hl h0 hc => ?_)
  refine ev_succ ?_
  simp only [line_Cursor_Indent.l0]
  rw [here_eq s i hi]
  simp only [Option.bind_some]
  cases hb : isB s i with
  | false =>
    simp only [Bool.false_eq_true, if_false]
    refine ev_val ?_
    rw [endC_stop hb, w64 (by omega) (by omega)]
    omega
  | true =>
    have hlt := isB_lt hb
    have hw := wid_le s i c l hl
    simp only [if_true]
    rw [steps_eq s i c l hlt hl hs (by omega)]
    simp only [Option.bind_some]
    rw [endC_step hb]
    exact ih hlt (c + wid s i c l) 0 (by omega) (by omega) (by omega) (by omega)
theorem indent_ev (s : ByteArray) (hs : s.size ≤ 1000000) (i c l : Nat) (hf : Fine s i c l) (hc : c ≤ 800000000) : Ev (fun k => line_Cursor_Indent.f k s i c l) (((endC s i c l - c : Nat) : Int), s, (i : Int), (c : Int), (l : Int)) := by
  unfold line_Cursor_Indent.f
  refine Ev.bind (indent_l0 s hs c i c l hf.1 hf.2.1 (Nat.le_refl _) (by have := hf.1; omega)) ?_
  exact ev_const rfl
theorem skip_l0 (s : ByteArray) (hs : s.size ≤ 1000000) (N : Int) (hN : N < 9223372036854775808) : ∀ (i c l g : Nat), i ≤ s.size → l ≤ 4 → c + 4 * (s.size - i) ≤ 900000000 → g + 4 * (s.size - i) ≤ 900000000 →
    Ev (fun k => line_Cursor_Skip.l0 k N (g : Nat) s i c l) (((g + (skp s (N - g).toNat i c l).1 : Nat) : Int), s, ((skp s (N - g).toNat i c l).2.1 : Int), ((skp s (N - g).toNat i c l).2.2.1 : Int), ((skp s (N - g).toNat i c l).2.2.2 : Int)) := by
  refine by_end (s := s) (fun i ih c l g hi hl hc hg => ?_)
  refine ev_succ ?_
  simp only [line_Cursor_Skip.l0]
  by_cases hn : (g : Int) < N
  · refine ev_if hn ?_
    rw [here_eq s i hi]
    simp only [Option.bind_some]
    refine ev_succ ?_
    simp only [line_Cursor_Skip.j1]
    cases hb : isB s i with
    | false =>
      refine ev_else (by decide) (ev_val ?_)
      rw [skp_stop (by simp [hb])]
      rfl
    | true =>
      have hlt := isB_lt hb
      have hw := wid_le s i c l hl
      have hwp := wid_pos s i c l
      refine ev_if rfl ?_
      rw [wide_eq s i c l hlt]
      simp only [Option.bind_some]
      rw [w64 (x := N - g) (by omega) (by omega)]
      by_cases hw2 : (N - g).toNat < wid s i c l
      · refine ev_if (by omega) (ev_val ?_)
        rw [skp_in (by omega) hb hw2]
        rw [w64 (by omega) (by omega), w64 (by omega) (by omega)]
        simp only [Prod.mk.injEq, true_and]
        omega
      · refine ev_else (by omega) ?_
        rw [steps_eq s i c l hlt hl hs (by omega)]
        simp only [Option.bind_some]
        rw [w64 (x := (g : Int) + (wid s i c l : Nat)) (by omega) (by omega)]
        have h := ih hlt (c + wid s i c l) 0 (g + wid s i c l) (by omega) (by omega) (by omega) (by omega)
        rw [skp_on (by omega) hb hw2]
        simp only
        rw [show (N - ((g + wid s i c l : Nat) : Int)).toNat = (N - g).toNat - wid s i c l by omega] at h
        rw [Nat.add_assoc] at h
        exact h
  · refine ev_else hn (ev_succ ?_)
    simp only [line_Cursor_Skip.j1]
    refine ev_else (by decide) (ev_val ?_)
    rw [skp_stop (fun h => by omega)]
    rfl
theorem skip_ev (s : ByteArray) (hs : s.size ≤ 1000000) (N : Int) (hN : N < 9223372036854775808) (i c l : Nat) (hf : Fine s i c l) (hc : c ≤ 800000000) :
    Ev (fun k => line_Cursor_Skip.f k s i c l N) (((skp s N.toNat i c l).1 : Int), s, ((skp s N.toNat i c l).2.1 : Int), ((skp s N.toNat i c l).2.2.1 : Int), ((skp s N.toNat i c l).2.2.2 : Int)) := by
  have h := skip_l0 s hs N hN i c l 0 hf.1 hf.2.1 (by have := hf.1; omega) (by have := hf.1; omega)
  rw [show N - ((0 : Nat) : Int) = N by omega, Nat.zero_add] at h
  exact h
/-- Where the blanks end. -/
def endI (s : ByteArray) : Nat → Nat → Nat
  | 0, i => i
  | d + 1, i => if isB s i then endI s d (i + 1) else i
theorem skp_all (s : ByteArray) : ∀ (i n c l : Nat), Fine s i c l → endC s i c l - c ≤ n → (0 < l → 0 < n) → (skp s n i c l).2.1 = endI s (s.size - i) i ∧ (skp s n i c l).2.2.2 = 0 := by
  refine by_end (s := s) (fun i ih n c l hf hn hl => ?_)
  cases hb : isB s i with
  | false =>
    have hl0 : l = 0 := by
      rcases Nat.eq_zero_or_pos l with h | h
      · exact h
      · have := hf.isB h
        rw [hb] at this
        cases this
    rw [skp_stop (by simp [hb])]
    refine ⟨?_, hl0⟩
    simp only
    cases s.size - i with
    | zero => rfl
    | succ d => rw [endI, if_neg (by rw [hb]; decide)]
  | true =>
    have hlt := isB_lt hb
    have hw := wid_pos s i c l
    have hst := endC_step (c := c) (l := l) hb
    have hge := endC_ge s (i + 1) (c + wid s i c l) 0
    rw [skp_on (by omega) hb (by omega)]
    simp only
    have hf2 : Fine s (i + 1) (c + wid s i c l) 0 := ⟨by omega, by omega, fun h => by omega⟩
    obtain ⟨a1, a2⟩ := ih hlt (n - wid s i c l) (c + wid s i c l) 0 hf2 (by omega) (fun h => by omega)
    rw [a1, a2, show s.size - i = (s.size - (i + 1)) + 1 by omega, endI, if_pos hb]
    exact ⟨rfl, rfl⟩
theorem known_ok : ∃ K, ∀ k, K ≤ k → rubricatorlaw17_known.f k = some true := by
  have h : rubricatorlaw17_known.f 12 = some true := by decide +kernel
  exact Ev.of (fun k => rubricatorlaw17_known.mono k) h
theorem known_ev : Ev (fun k => rubricatorlaw17_known.f k) true := known_ok
end Go.Proofs.YtbhopjcicdjjpaaDoor.The
