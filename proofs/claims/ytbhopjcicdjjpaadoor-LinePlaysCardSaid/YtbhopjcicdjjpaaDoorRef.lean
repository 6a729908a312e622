/- The document's Cursor answers as the Cursor does. Texts below a million bytes. -/
import Derived.Test.YtbhopjcicdjjpaaDoorPAx4
import Derived.Test.YtbhopjcicdjjpaaDoorPAx5
import Derived.Test.YtbhopjcicdjjpaaDoorPAx6
import Derived.Test.YtbhopjcicdjjpaaDoorParts
namespace Go.Proofs.YtbhopjcicdjjpaaDoor.The
open Go.RowKit Go.Proofs.YtbhopjcicdjjpaaDoor.PA Go.Proofs.YtbhopjcicdjjpaaDoorW.PrintWords Go.Proofs.YtbhopjcicdjjpaaDoorW.PrintLast Go.Proofs.YtbhopjcicdjjpaaDoorW.PrintMore Go.Proofs.YtbhopjcicdjjpaaDoorAid
set_option linter.unusedVariables false
set_option linter.unusedSimpArgs false
theorem tab_eq (c : Nat) (hc : c ≤ 900000000) : rubricatorref17_tab.f (c : Int) = some ((c - c % 4 + 4 : Nat) : Int) := by
  unfold rubricatorref17_tab.f
  rw [tmod4, w64 (x := (c : Int) - ((c % 4 : Nat) : Int)) (by omega) (by omega), w64 (by omega) (by omega)]
  congr 1
  omega
theorem rblank_eq (s : ByteArray) (i : Nat) (hi : i < s.size) : rubricatorref17_blank.f (bt s (i : Int)) = some (isB s i) := by
  unfold rubricatorref17_blank.f isB
  by_cases h2 : bt s (i : Int) = 32
  · rw [if_pos h2]
    simp [hi, h2]
  · rw [if_neg h2]
    simp [hi, h2]
theorem isB_of {s : ByteArray} {i : Nat} (h : ¬ i < s.size) : isB s i = false := by
  unfold isB
  simp [h]
/-- What the document adds at a byte is what the Cursor does. -/
theorem wid_tab {s : ByteArray} {i c l : Nat} (hf : Fine s i c l) (h9 : bt s (i : Int) = 9) : c - c % 4 + 4 = c + wid s i c l := by
  unfold wid
  by_cases hl : 0 < l
  · rw [if_pos hl, (hf.2.2 hl).2.2]
    omega
  · rw [if_neg hl, if_pos h9]
    omega
theorem wid_one {s : ByteArray} {i c l : Nat} (hf : Fine s i c l) (h9 : ¬ bt s (i : Int) = 9) : wid s i c l = 1 := by
  unfold wid
  by_cases hl : 0 < l
  · exact absurd (hf.2.2 hl).2.1 h9
  · rw [if_neg hl, if_neg h9]
theorem fine_next {s : ByteArray} {i c : Nat} (hi : i < s.size) : Fine s (i + 1) c 0 := ⟨by omega, by omega, fun h => by omega⟩
theorem rindent_l0 (s : ByteArray) (hs : s.size ≤ 1000000) (a0 c0 : Nat) (inn : Bool) (hc0 : c0 ≤ 900000000) : ∀ (i c l : Nat), Fine s i c l → c0 ≤ c → c + 4 * (s.size - i) ≤ 900000000 → Ev (fun k => rubricatorref17_Cursor_Indent.l0 k c i s a0 c0 inn) (((endC s i c l - c0 : Nat) : Int), s, (a0 : Int), (c0 : Int), inn) := by
  refine by_end (s := s) (fun i ih c l hf h0 hc => ?_)
  refine ev_succ ?_
  simp only [rubricatorref17_Cursor_Indent.l0]
  have stop : isB s i = false → Ev (fun k => rubricatorref17_Cursor_Indent.j1 k c i false s a0 c0 inn) (((endC s i c l - c0 : Nat) : Int), s, (a0 : Int), (c0 : Int), inn) := fun hb => by
    refine ev_succ ?_
    simp only [rubricatorref17_Cursor_Indent.j1]
    refine ev_else (by decide) (ev_val ?_)
    rw [endC_stop hb, w64 (by omega) (by omega), show ((c - c0 : Nat) : Int) = (c : Int) - (c0 : Int) by omega]
  by_cases h : i < s.size
  · refine ev_if (by omega) (ev_if (by omega) ?_)
    rw [rblank_eq s i h]
    simp only [Option.bind_some]
    cases hb : isB s i with
    | false => exact stop hb
    | true =>
      have hw := wid_le s i c l hf.2.1
      refine ev_succ ?_
      simp only [rubricatorref17_Cursor_Indent.j1]
      refine ev_if (by trivial) (ev_if (by omega) (ev_if (by omega) ?_))
      have hn := ih h (c + wid s i c l) 0 (fine_next h) (by omega) (by omega)
      rw [← endC_step hb] at hn
      by_cases h9 : bt s (i : Int) = 9
      · refine ev_if h9 ?_
        rw [tab_eq c (by omega)]
        simp only [Option.bind_some]
        rw [w64 (x := (i : Int) + 1) (by omega) (by omega), wid_tab hf h9]
        exact hn
      · refine ev_else h9 ?_
        rw [w64 (x := (c : Int) + 1) (by omega) (by omega), w64 (x := (i : Int) + 1) (by omega) (by omega)]
        rw [wid_one hf h9] at hn
        exact hn
  · refine ev_else (by omega) ?_
    exact stop (isB_of h)
theorem rindent_ev (s : ByteArray) (hs : s.size ≤ 1000000) (i c l : Nat) (inn : Bool) (hf : Fine s i c l) (hc : c ≤ 800000000) : Ev (fun k => rubricatorref17_Cursor_Indent.f k s i c inn) (((endC s i c l - c : Nat) : Int), s, (i : Int), (c : Int), inn) :=
  rindent_l0 s hs i c inn (by omega) i c l hf (Nat.le_refl _) (by have := hf.1; omega)
theorem endI_step {s : ByteArray} {i : Nat} (h : isB s i = true) : endI s (s.size - i) i = endI s (s.size - (i + 1)) (i + 1) := by
  have := isB_lt h
  rw [show s.size - i = (s.size - (i + 1)) + 1 by omega, endI, if_pos h]
theorem endI_stop {s : ByteArray} {i : Nat} (h : isB s i = false) : endI s (s.size - i) i = i := by
  cases s.size - i with
  | zero => rfl
  | succ d => rw [endI, if_neg (by rw [h]; decide)]
theorem endI_le (s : ByteArray) : ∀ i, i ≤ s.size → endI s (s.size - i) i ≤ s.size ∧ i ≤ endI s (s.size - i) i := by
  refine by_end (s := s) (fun i ih hi => ?_)
  cases hb : isB s i with
  | false => rw [endI_stop hb]; omega
  | true =>
    have h := isB_lt hb
    rw [endI_step hb]
    have := ih h (by omega)
    omega
theorem rblank_l0 (s : ByteArray) (hs : s.size ≤ 1000000) (a0 c0 : Int) (inn : Bool) : ∀ (i : Nat), i ≤ s.size → Ev (fun k => rubricatorref17_Cursor_Blank.l0 k i s a0 c0 inn) (decide (endI s (s.size - i) i = s.size), s, a0, c0, inn) := by
  refine by_end (s := s) (fun i ih hi => ?_)
  refine ev_succ ?_
  simp only [rubricatorref17_Cursor_Blank.l0]
  by_cases h : i < s.size
  · refine ev_if (by omega) (ev_if (by omega) ?_)
    rw [rblank_eq s i h]
    simp only [Option.bind_some]
    cases hb : isB s i with
    | false =>
      refine ev_else (by decide) (ev_val ?_)
      rw [endI_stop hb, decide_eq_false (by omega)]
    | true =>
      refine ev_if (by trivial) ?_
      rw [w64 (x := (i : Int) + 1) (by omega) (by omega), endI_step hb]
      exact ih h (by omega)
  · refine ev_else (by omega) (ev_val ?_)
    rw [endI_stop (isB_of h), decide_eq_true (by omega)]
theorem rword_l0 (s : ByteArray) (hs : s.size ≤ 1000000) (a0 c0 : Int) (inn : Bool) : ∀ (i : Nat), i ≤ s.size → Ev (fun k => rubricatorref17_Cursor_Word.l0 k i s a0 c0 inn) (s.extract (endI s (s.size - i) i) s.size, s, a0, c0, inn) := by
  refine by_end (s := s) (fun i ih hi => ?_)
  refine ev_succ ?_
  simp only [rubricatorref17_Cursor_Word.l0]
  by_cases h : i < s.size
  · refine ev_if (by omega) (ev_if (by omega) ?_)
    rw [rblank_eq s i h]
    simp only [Option.bind_some]
    cases hb : isB s i with
    | false =>
      refine ev_else (by decide) (ev_if (by omega) (ev_val ?_))
      rw [endI_stop hb]
      rfl
    | true =>
      refine ev_if (by trivial) ?_
      rw [w64 (x := (i : Int) + 1) (by omega) (by omega), endI_step hb]
      exact ih h (by omega)
  · refine ev_else (by omega) (ev_if (by omega) (ev_if (by omega) (ev_val ?_)))
    rw [endI_stop (isB_of h)]
    rfl
theorem list_inj {a b : ByteArray} (h : a.data.toList = b.data.toList) : a = b := by
  cases a; cases b
  simp only [ByteArray.mk.injEq]
  exact Array.toList_inj.mp h
theorem ext_list (s : ByteArray) (i : Nat) : (s.extract i s.size).data.toList = s.data.toList.drop i := by
  rw [ByteArray.data_extract, Array.toList_extract, List.extract_eq_take_drop, List.take_of_length_le]
  simp
theorem bt_nat (s : ByteArray) (i : Nat) (h : i < s.size) : bt s (i : Int) = ((s.data.toList[i]'(by simpa using h)).toNat : Int) := by
  unfold bt
  rw [dif_pos (by simpa using h)]
  rfl
theorem word_end (s : ByteArray) : ∀ i, i ≤ s.size → wordS s i = s.extract (endI s (s.size - i) i) s.size := by
  refine by_end (s := s) (fun i ih hi => ?_)
  by_cases h : i < s.size
  · have hl : i < s.data.toList.length := by simpa using h
    have hd : (s.extract i s.size).data.toList = s.data.toList[i] :: (s.extract (i + 1) s.size).data.toList := by
      rw [ext_list, ext_list, List.drop_eq_getElem_cons hl]
    have hbt := bt_nat s i h
    cases hb : isB s i with
    | true =>
      rw [endI_step hb, ← ih h (by omega)]
      unfold wordS
      rw [hd]
      have hc : ([32, 9] : List UInt8).contains s.data.toList[i] = true := by
        have hB := hb
        unfold isB at hB
        simp only [h, decide_true, Bool.true_and, Bool.or_eq_true, beq_iff_eq, hbt] at hB
        rcases hB with e | e
        · have e2 : s.data.toList[i] = 32 := by
            apply UInt8.toNat_inj.mp
            have : (32 : UInt8).toNat = 32 := rfl
            omega
          rw [e2]; decide
        · have e2 : s.data.toList[i] = 9 := by
            apply UInt8.toNat_inj.mp
            have : (9 : UInt8).toNat = 9 := rfl
            omega
          rw [e2]; decide
      congr 2
      show Lib.trimLeftS (s.data.toList[i] :: (s.extract (i + 1) s.size).data.toList) [32, 9] = _
      unfold Lib.trimLeftS
      rw [List.dropWhile_cons, if_pos hc]
    | false =>
      rw [endI_stop hb]
      refine list_inj ?_
      unfold wordS
      rw [hd]
      have hc : ([32, 9] : List UInt8).contains s.data.toList[i] = false := by
        have hB := hb
        unfold isB at hB
        simp only [h, decide_true, Bool.true_and, Bool.or_eq_false_iff, beq_eq_false_iff_ne, ne_eq, hbt] at hB
        cases hcc : ([32, 9] : List UInt8).contains s.data.toList[i] with
        | false => rfl
        | true =>
          simp at hcc
          rcases hcc with e | e
          · exact absurd (by simp [e]) hB.1
          · exact absurd (by simp [e]) hB.2
      show Lib.trimLeftS (s.data.toList[i] :: (s.extract (i + 1) s.size).data.toList) [32, 9] = _
      unfold Lib.trimLeftS
      rw [List.dropWhile_cons, if_neg (by rw [hc]; decide)]
  · rw [endI_stop (isB_of h)]
    refine list_inj ?_
    unfold wordS
    rw [ext_list, List.drop_of_length_le (by simp; omega)]
    rfl
theorem repeat_eq (n : Nat) : Lib.repeatL [32] n = List.replicate n 32 := by
  induction n with
  | zero => rfl
  | succ n ih => simp [Lib.repeatL, List.replicate_succ, ih]
theorem rrest_l0 (s : ByteArray) (hs : s.size ≤ 1000000) (i c : Nat) (inn : Bool) (hi : i < s.size) (hc : c ≤ 800000000) (T : Nat) (hT : c - c % 4 + 4 = T) : ∀ (d j : Nat) (x : ByteArray), j + d = T → x.size + d ≤ 100 →
    Ev (fun k => rubricatorref17_Cursor_Rest.l0 k x j s i c inn) ((⟨(x.data.toList ++ List.replicate d 32).toArray⟩ : ByteArray) ++ s.extract (i + 1) s.size, s, (i : Int), (c : Int), inn)
  | 0, j, x, hj, hx => by
    refine ev_succ ?_
    simp only [rubricatorref17_Cursor_Rest.l0]
    rw [tab_eq c (by omega), hT]
    simp only [Option.bind_some]
    rw [w64 (x := (i : Int) + 1) (by omega) (by omega)]
    have hz : (s.extract ((i : Int) + 1).toNat s.size).size ≤ 1000000 := by rw [ByteArray.size_extract]; omega
    refine ev_else (by omega) (ev_if (by omega) (ev_if (by omega) (ev_if (by omega) (ev_val ?_))))
    rw [show ((i : Int) + 1).toNat = i + 1 by omega]
    simp
  | d + 1, j, x, hj, hx => by
    refine ev_succ ?_
    simp only [rubricatorref17_Cursor_Rest.l0]
    rw [tab_eq c (by omega), hT]
    simp only [Option.bind_some]
    refine ev_if (by omega) (ev_if (by omega) ?_)
    rw [w64 (x := (j : Int) + 1) (by omega) (by omega)]
    have h := rrest_l0 s hs i c inn hi hc T hT d (j + 1) (x ++ (⟨#[32]⟩ : ByteArray)) (by omega) (by rw [ByteArray.size_append]; show x.size + 1 + d ≤ 100; omega)
    have e : (x ++ (⟨#[32]⟩ : ByteArray)).data.toList ++ List.replicate d 32 = x.data.toList ++ List.replicate (d + 1) 32 := by
      rw [List.replicate_succ]
      simp
    rw [e] at h
    exact h
theorem rrest_ev (s : ByteArray) (hs : s.size ≤ 1000000) (i c l : Nat) (hf : Fine s i c l) (hc : c ≤ 800000000) : Ev (fun k => rubricatorref17_Cursor_Rest.f k s i c (decide (0 < l))) (restS s i l, s, (i : Int), (c : Int), decide (0 < l)) := by
  have hi := hf.1
  unfold rubricatorref17_Cursor_Rest.f restS
  by_cases hl : 0 < l
  · rw [if_pos hl, decide_eq_true hl]
    obtain ⟨h1, h2, h3⟩ := hf.2.2 hl
    refine ev_if rfl ?_
    have h := rrest_l0 s hs i c true h1 hc (c - c % 4 + 4) rfl l c ⟨#[]⟩ (by omega) (by show 0 + l ≤ 100; have := hf.2.1; omega)
    rw [show (⟨#[]⟩ : ByteArray).data.toList ++ List.replicate l 32 = Lib.repeatL [32] l by rw [repeat_eq]; rfl] at h
    exact h
  · rw [if_neg hl, decide_eq_false hl]
    refine ev_else (by decide) (ev_if (by omega) (ev_if (by omega) (ev_val ?_)))
    rfl
theorem mn_eq (a b : Int) : mn a b = min a b := by
  unfold mn
  split <;> omega
theorem rskip_end (s : ByteArray) (N x5 i c : Int) (inn : Bool) : Ev (fun k => rubricatorref17_Cursor_Skip.j1 k N x5 false s i c inn) (x5, s, i, c, inn) := by
  refine ev_succ ?_
  simp only [rubricatorref17_Cursor_Skip.j1]
  exact ev_else (by decide) (Ev.now _)
theorem rskip_l0 (s : ByteArray) (hs : s.size ≤ 1000000) (N : Int) (hN : N < 9223372036854775808) : ∀ (i c l g : Nat), Fine s i c l → c + 4 * (s.size - i) ≤ 900000000 → g + 4 * (s.size - i) ≤ 900000000 →
    Ev (fun k => rubricatorref17_Cursor_Skip.l0 k N (g : Nat) s i c (decide (0 < l))) (((g + (skp s (N - g).toNat i c l).1 : Nat) : Int), s, ((skp s (N - g).toNat i c l).2.1 : Int), ((skp s (N - g).toNat i c l).2.2.1 : Int), decide (0 < (skp s (N - g).toNat i c l).2.2.2)) := by
  refine by_end (s := s) (fun i ih c l g hf hc hg => ?_)
  refine ev_succ ?_
  simp only [rubricatorref17_Cursor_Skip.l0]
  by_cases hn : (g : Int) < N
  case neg =>
    refine ev_else hn ?_
    rw [skp_stop (fun h => by omega)]
    exact rskip_end _ _ _ _ _ _
  refine ev_if hn ?_
  by_cases hi : i < s.size
  case neg =>
    refine ev_else (by omega) ?_
    rw [skp_stop (fun h => by rw [isB_of hi] at h; exact absurd h.2 (by decide))]
    exact rskip_end _ _ _ _ _ _
  refine ev_if (by omega) (ev_if (by omega) ?_)
  rw [rblank_eq s i hi]
  simp only [Option.bind_some]
  cases hb : isB s i with
  | false =>
    rw [skp_stop (fun h => by rw [hb] at h; exact absurd h.2 (by decide))]
    exact rskip_end _ _ _ _ _ _
  | true =>
    have hw := wid_le s i c l hf.2.1
    have hwp := wid_pos s i c l
    refine ev_succ ?_
    simp only [rubricatorref17_Cursor_Skip.j1]
    refine ev_if (by trivial) (ev_if (by omega) (ev_if (by omega) ?_))
    have eng : wrap64 (N - (g : Int)) = N - g := w64 (by omega) (by omega)
    have next := ih hi (c + wid s i c l) 0 (g + wid s i c l) (fine_next hi) (by omega) (by omega)
    by_cases h9 : bt s (i : Int) = 9
    · refine ev_if h9 ?_
      rw [tab_eq c (by omega), wid_tab hf h9]
      simp only [Option.bind_some]
      have ewd : wrap64 (((c + wid s i c l : Nat) : Int) - (c : Int)) = (wid s i c l : Int) := (w64 (by omega) (by omega)).trans (by omega)
      rw [eng, ewd, mn_eq]
      by_cases hw2 : (N - g).toNat < wid s i c l
      · rw [Int.min_eq_left (by omega), w64 (x := (c : Int) + (N - g)) (by omega) (by omega), w64 (x := (g : Int) + (N - g)) (by omega) (by omega), decide_eq_true (by omega)]
        refine ev_if (by omega) ?_
        rw [skp_in (by omega) hb hw2]
        simp only
        rw [decide_eq_true (show 0 < wid s i c l - (N - g).toNat by omega)]
        refine ev_succ ?_
        simp only [rubricatorref17_Cursor_Skip.l0]
        refine ev_else (by omega) ?_
        rw [show ((g + (N - g).toNat : Nat) : Int) = (g : Int) + (N - g) by omega, show ((c + (N - g).toNat : Nat) : Int) = (c : Int) + (N - g) by omega]
        exact rskip_end _ _ _ _ _ _
      · rw [Int.min_eq_right (by omega), w64 (x := (c : Int) + (wid s i c l : Nat)) (by omega) (by omega), w64 (x := (g : Int) + (wid s i c l : Nat)) (by omega) (by omega), w64 (x := (i : Int) + 1) (by omega) (by omega), decide_eq_false (by omega)]
        refine ev_else (by omega) ?_
        rw [skp_on (by omega) hb hw2]
        simp only
        rw [show (N - ((g + wid s i c l : Nat) : Int)).toNat = (N - g).toNat - wid s i c l by omega] at next
        rw [Nat.add_assoc] at next
        exact next
    · refine ev_else h9 ?_
      have e1 := wid_one hf h9
      rw [e1] at next
      have ewd : wrap64 (wrap64 ((c : Int) + 1) - (c : Int)) = 1 := by rw [w64 (x := (c : Int) + 1) (by omega) (by omega)]; exact (w64 (by omega) (by omega)).trans (by omega)
      rw [eng, ewd, mn_eq, Int.min_eq_right (by omega), w64 (x := (c : Int) + 1) (by omega) (by omega), w64 (x := (g : Int) + 1) (by omega) (by omega), w64 (x := (i : Int) + 1) (by omega) (by omega), decide_eq_false (by omega)]
      refine ev_else (by omega) ?_
      rw [skp_on (by omega) hb (by omega)]
      simp only
      rw [e1]
      rw [show (N - ((g + 1 : Nat) : Int)).toNat = (N - g).toNat - 1 by omega] at next
      rw [Nat.add_assoc] at next
      exact next
theorem rskip_ev (s : ByteArray) (hs : s.size ≤ 1000000) (N : Int) (hN : N < 9223372036854775808) (i c l : Nat) (hf : Fine s i c l) (hc : c ≤ 800000000) :
    Ev (fun k => rubricatorref17_Cursor_Skip.f k s i c (decide (0 < l)) N) (((skp s N.toNat i c l).1 : Int), s, ((skp s N.toNat i c l).2.1 : Int), ((skp s N.toNat i c l).2.2.1 : Int), decide (0 < (skp s N.toNat i c l).2.2.2)) := by
  have h := rskip_l0 s hs N hN i c l 0 hf (by have := hf.1; omega) (by have := hf.1; omega)
  rw [show N - ((0 : Nat) : Int) = N by omega, Nat.zero_add] at h
  exact h
def tkf (s : ByteArray) : Nat → Nat → Nat → Nat → Nat → Nat × Nat × Nat
  | 0, _, i, c, l => (i, c, l)
  | d + 1, n, i, c, l => if 0 < n then tkf s d (n - 1) (i + 1) (c + wid s i c l) 0 else (i, c, l)
/-- Going on over n bytes. -/
def tk (s : ByteArray) (n i c l : Nat) : Nat × Nat × Nat := tkf s (s.size - i) n i c l
theorem tk_stop {s : ByteArray} {n i c l : Nat} (h : ¬ (0 < n ∧ i < s.size)) : tk s n i c l = (i, c, l) := by
  unfold tk
  cases hd : s.size - i with
  | zero => rfl
  | succ d => rw [tkf, if_neg (by omega)]
theorem tk_on {s : ByteArray} {n i c l : Nat} (h : 0 < n) (hi : i < s.size) : tk s n i c l = tk s (n - 1) (i + 1) (c + wid s i c l) 0 := by
  unfold tk
  rw [show s.size - i = (s.size - (i + 1)) + 1 by omega, tkf, if_pos h]
theorem tk_fine (s : ByteArray) : ∀ (i n c l : Nat), Fine s i c l → Fine s (tk s n i c l).1 (tk s n i c l).2.1 (tk s n i c l).2.2 ∧ (tk s n i c l).2.1 ≤ c + 4 * (s.size - i) ∧ i ≤ (tk s n i c l).1 := by
  refine by_end (s := s) (fun i ih n c l hf => ?_)
  by_cases h : 0 < n ∧ i < s.size
  · rw [tk_on h.1 h.2]
    have hw := wid_le s i c l hf.2.1
    obtain ⟨a1, a2, a3⟩ := ih h.2 (n - 1) (c + wid s i c l) 0 (fine_next h.2)
    exact ⟨a1, by omega, by omega⟩
  · rw [tk_stop h]
    exact ⟨hf, by simp only; omega, Nat.le_refl _⟩
theorem take_l0 (s : ByteArray) (hs : s.size ≤ 1000000) (N : Int) (hN : N < 9223372036854775808) (from_ : Nat) : ∀ (i c l j : Nat), Fine s i c l → from_ ≤ i → c + 4 * (s.size - i) ≤ 900000000 → (j ≤ i) →
    Ev (fun k => line_Cursor_Take.l0 k from_ N (j : Nat) s i c l) (s.extract from_ (tk s (N - j).toNat i c l).1, s, ((tk s (N - j).toNat i c l).1 : Int), ((tk s (N - j).toNat i c l).2.1 : Int), ((tk s (N - j).toNat i c l).2.2 : Int)) := by
  refine by_end (s := s) (fun i ih c l j hf hfr hc hj => ?_)
  have hi := hf.1
  refine ev_succ ?_
  simp only [line_Cursor_Take.l0]
  by_cases hn : (j : Int) < N
  case neg =>
    refine ev_else hn (ev_if (by omega) (ev_if (by omega) (ev_if (by omega) (ev_val ?_))))
    rw [tk_stop (fun h => by omega)]
    rfl
  refine ev_if hn ?_
  by_cases he : i = s.size
  · refine ev_if (by omega) (ev_if (by omega) (ev_if (by omega) (ev_if (by omega) (ev_val ?_))))
    rw [tk_stop (fun h => by omega)]
    rfl
  · have hlt : i < s.size := by omega
    have hw := wid_le s i c l hf.2.1
    refine ev_else (by omega) ?_
    rw [steps_eq s i c l hlt hf.2.1 hs (by omega)]
    simp only [Option.bind_some]
    rw [w64 (x := (j : Int) + 1) (by omega) (by omega), tk_on (by omega) hlt]
    have h := ih hlt (c + wid s i c l) 0 (j + 1) (fine_next hlt) (by omega) (by omega) (by omega)
    rw [show (N - ((j + 1 : Nat) : Int)).toNat = (N - j).toNat - 1 by omega] at h
    exact h
theorem take_ev (s : ByteArray) (hs : s.size ≤ 1000000) (N : Int) (hN : N < 9223372036854775808) (i c l : Nat) (hf : Fine s i c l) (hc : c ≤ 800000000) :
    Ev (fun k => line_Cursor_Take.f k s i c l N) (s.extract i (tk s N.toNat i c l).1, s, ((tk s N.toNat i c l).1 : Int), ((tk s N.toNat i c l).2.1 : Int), ((tk s N.toNat i c l).2.2 : Int)) := by
  have h := take_l0 s hs N hN i i c l 0 hf (Nat.le_refl _) (by have := hf.1; omega) (Nat.zero_le _)
  rw [show N - ((0 : Nat) : Int) = N by omega] at h
  exact h
theorem rtake_end (s : ByteArray) (N x6 : Int) (from_ i : Nat) (c : Int) (inn : Bool) (hfr : from_ ≤ i) (hi : i ≤ s.size) : Ev (fun k => rubricatorref17_Cursor_Take.j1 k N from_ x6 false s i c inn) (s.extract from_ i, s, (i : Int), c, inn) := by
  refine ev_succ ?_
  simp only [rubricatorref17_Cursor_Take.j1]
  refine ev_else (by decide) (ev_if (by omega) (ev_if (by omega) (ev_if (by omega) (ev_val ?_))))
  rfl
theorem rtake_l0 (s : ByteArray) (hs : s.size ≤ 1000000) (N : Int) (hN : N < 9223372036854775808) (from_ : Nat) : ∀ (i c l j : Nat), Fine s i c l → from_ ≤ i → c + 4 * (s.size - i) ≤ 900000000 → (j ≤ i) →
    Ev (fun k => rubricatorref17_Cursor_Take.l0 k N from_ (j : Nat) s i c (decide (0 < l))) (s.extract from_ (tk s (N - j).toNat i c l).1, s, ((tk s (N - j).toNat i c l).1 : Int), ((tk s (N - j).toNat i c l).2.1 : Int), decide (0 < (tk s (N - j).toNat i c l).2.2)) := by
  refine by_end (s := s) (fun i ih c l j hf hfr hc hj => ?_)
  have hi := hf.1
  refine ev_succ ?_
  simp only [rubricatorref17_Cursor_Take.l0]
  by_cases hn : (j : Int) < N
  case neg =>
    refine ev_else hn ?_
    rw [tk_stop (fun h => by omega)]
    exact rtake_end s N _ from_ i c _ hfr hi
  refine ev_if hn ?_
  by_cases he : i = s.size
  · rw [decide_eq_false (by omega), tk_stop (fun h => by omega)]
    exact rtake_end s N _ from_ i c _ hfr hi
  · have hlt : i < s.size := by omega
    have hw := wid_le s i c l hf.2.1
    rw [decide_eq_true (show (i : Int) < (s.size : Int) by omega)]
    refine ev_succ ?_
    simp only [rubricatorref17_Cursor_Take.j1]
    refine ev_if (by trivial) (ev_if (by omega) (ev_if (by omega) ?_))
    have h := ih hlt (c + wid s i c l) 0 (j + 1) (fine_next hlt) (by omega) (by omega) (by omega)
    rw [show (N - ((j + 1 : Nat) : Int)).toNat = (N - j).toNat - 1 by omega, ← tk_on (by omega) hlt] at h
    by_cases h9 : bt s (i : Int) = 9
    · refine ev_if h9 ?_
      rw [tab_eq c (by omega), wid_tab hf h9]
      simp only [Option.bind_some]
      rw [w64 (x := (j : Int) + 1) (by omega) (by omega), w64 (x := (i : Int) + 1) (by omega) (by omega)]
      exact h
    · refine ev_else h9 ?_
      rw [wid_one hf h9] at h
      rw [w64 (x := (j : Int) + 1) (by omega) (by omega), w64 (x := (i : Int) + 1) (by omega) (by omega), w64 (x := (c : Int) + 1) (by omega) (by omega)]
      exact h
theorem rtake_ev (s : ByteArray) (hs : s.size ≤ 1000000) (N : Int) (hN : N < 9223372036854775808) (i c l : Nat) (hf : Fine s i c l) (hc : c ≤ 800000000) :
    Ev (fun k => rubricatorref17_Cursor_Take.f k s i c (decide (0 < l)) N) (s.extract i (tk s N.toNat i c l).1, s, ((tk s N.toNat i c l).1 : Int), ((tk s N.toNat i c l).2.1 : Int), decide (0 < (tk s N.toNat i c l).2.2)) := by
  have h := rtake_l0 s hs N hN i i c l 0 hf (Nat.le_refl _) (by have := hf.1; omega) (Nat.zero_le _)
  rw [show N - ((0 : Nat) : Int) = N by omega] at h
  exact h
end Go.Proofs.YtbhopjcicdjjpaaDoor.The
