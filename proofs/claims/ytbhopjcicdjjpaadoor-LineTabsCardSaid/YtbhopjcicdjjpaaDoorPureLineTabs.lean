/- LineTabs, the plain law: blanks and tabs have as many columns as is said, and are gone over at once. No conditions. -/
import Derived.Test.YtbhopjcicdjjpaaDoorPAx3
import Derived.Test.YtbhopjcicdjjpaaDoorTheory
namespace Go.Proofs.YtbhopjcicdjjpaaDoor.Pure
open Go.RowKit Go.Proofs.YtbhopjcicdjjpaaDoor.PA Go.Proofs.YtbhopjcicdjjpaaDoor.The Go.Proofs.YtbhopjcicdjjpaaDoorW.PrintWords Go.Proofs.YtbhopjcicdjjpaaDoorW.PrintLast Go.Proofs.YtbhopjcicdjjpaaDoorAid
set_option linter.unusedVariables false
set_option linter.unusedSimpArgs false
theorem bt_nat (s : ByteArray) (i : Nat) (h : i < s.size) : bt s (i : Int) = ((s.data.toList[i]'(by simpa using h)).toNat : Int) := by
  unfold bt
  rw [dif_pos (by simpa using h)]
  rfl
theorem list_inj {a b : ByteArray} (h : a.data.toList = b.data.toList) : a = b := by
  cases a; cases b
  simp only [ByteArray.mk.injEq]
  exact Array.toList_inj.mp h
theorem size_list (s : ByteArray) : s.size = s.data.toList.length := by simp
/-- The text of LineTabs: so many blanks, tabs, and what stands behind. -/
def txt (b t : Nat) (r : List UInt8) : List UInt8 := List.replicate b 32 ++ (List.replicate t 9 ++ r)
theorem txt_len (b t : Nat) (r : List UInt8) : (txt b t r).length = b + t + r.length := by simp [txt]; omega
theorem bt_txt {s : ByteArray} {b t : Nat} {r : List UInt8} (h : s.data.toList = txt b t r) (i : Nat) (hi : i < b + t) : bt s (i : Int) = if i < b then 32 else 9 := by
  have hs : i < s.size := by rw [size_list, h, txt_len]; omega
  rw [bt_nat s i hs]
  have e : s.data.toList[i]'(by simpa using hs) = (txt b t r)[i]'(by rw [txt_len]; omega) := by congr 1
  rw [e]
  unfold txt
  by_cases hb : i < b
  · rw [List.getElem_append_left (by simpa using hb), if_pos hb]
    simp
  · rw [List.getElem_append_right (by simp; omega), List.getElem_append_left (by simp; omega), if_neg hb]
    simp
theorem bt_behind {s : ByteArray} {b t : Nat} {r : List UInt8} (h : s.data.toList = txt b t (120 :: r)) : bt s ((b + t : Nat) : Int) = 120 := by
  have hs : b + t < s.size := by rw [size_list, h, txt_len]; simp
  rw [bt_nat s _ hs]
  have e : s.data.toList[b + t]'(by simpa using hs) = (txt b t (120 :: r))[b + t]'(by rw [txt_len]; simp) := by congr 1
  rw [e]
  unfold txt
  rw [List.getElem_append_right (by simp), List.getElem_append_right (by simp)]
  simp
theorem run32 (s : ByteArray) : ∀ (m i c : Nat), i + m ≤ s.size → (∀ j, j < m → bt s ((i + j : Nat) : Int) = 32) → endC s i c 0 = endC s (i + m) (c + m) 0 ∧ endI s (s.size - i) i = endI s (s.size - (i + m)) (i + m)
  | 0, i, c, _, _ => ⟨rfl, rfl⟩
  | m + 1, i, c, hs, h => by
    have h0 := h 0 (by omega)
    rw [Nat.add_zero] at h0
    have hb : isB s i = true := by
      unfold isB
      simp [h0]
      omega
    have hw : wid s i c 0 = 1 := by
      unfold wid
      rw [if_neg (by omega), if_neg (by rw [h0]; decide)]
    obtain ⟨a1, a2⟩ := run32 s m (i + 1) (c + 1) (by omega) (fun j hj => by have := h (j + 1) (by omega); rw [show i + 1 + j = i + (j + 1) by omega]; exact this)
    refine ⟨?_, ?_⟩
    · rw [endC_step hb, hw, a1, show i + 1 + m = i + (m + 1) by omega, show c + 1 + m = c + (m + 1) by omega]
    · rw [show s.size - i = (s.size - (i + 1)) + 1 by omega, endI, if_pos hb, a2, show i + 1 + m = i + (m + 1) by omega]
theorem run9 (s : ByteArray) : ∀ (m i c : Nat), i + m ≤ s.size → (∀ j, j < m → bt s ((i + j : Nat) : Int) = 9) → endC s i c 0 = endC s (i + m) (if m = 0 then c else c - c % 4 + 4 * m) 0 ∧ endI s (s.size - i) i = endI s (s.size - (i + m)) (i + m)
  | 0, i, c, _, _ => ⟨rfl, rfl⟩
  | m + 1, i, c, hs, h => by
    have h0 := h 0 (by omega)
    rw [Nat.add_zero] at h0
    have hb : isB s i = true := by
      unfold isB
      simp [h0]
      omega
    have hw : wid s i c 0 = 4 - c % 4 := by
      unfold wid
      rw [if_neg (by omega), if_pos h0]
    obtain ⟨a1, a2⟩ := run9 s m (i + 1) (c + (4 - c % 4)) (by omega) (fun j hj => by have := h (j + 1) (by omega); rw [show i + 1 + j = i + (j + 1) by omega]; exact this)
    refine ⟨?_, ?_⟩
    · rw [endC_step hb, hw, a1, show i + 1 + m = i + (m + 1) by omega, if_neg (by omega : ¬ m + 1 = 0)]
      congr 1
      split <;> omega
    · rw [show s.size - i = (s.size - (i + 1)) + 1 by omega, endI, if_pos hb, a2, show i + 1 + m = i + (m + 1) by omega]
def want (b t : Nat) : Nat := if t = 0 then b else b - b % 4 + 4 * t
theorem tabs_at {s : ByteArray} {b t : Nat} {r : List UInt8} (h : s.data.toList = txt b t (120 :: r)) : endC s 0 0 0 = want b t ∧ endI s s.size 0 = b + t := by
  have hs : b + t < s.size := by rw [size_list, h, txt_len]; simp
  have hn : isB s (b + t) = false := by
    unfold isB
    rw [bt_behind h]
    simp
  obtain ⟨a1, a2⟩ := run32 s b 0 0 (by omega) (fun j hj => by rw [Nat.zero_add, bt_txt h j (by omega), if_pos hj])
  obtain ⟨c1, c2⟩ := run9 s t b b (by omega) (fun j hj => by rw [bt_txt h (b + j) (by omega), if_neg (by omega)])
  rw [Nat.zero_add] at a1 a2
  try rw [Nat.zero_add] at a1
  rw [Nat.sub_zero] at a2
  refine ⟨?_, ?_⟩
  · rw [a1, c1, endC_stop hn]
    rfl
  · rw [a2, c2]
    cases s.size - (b + t) with
    | zero => rfl
    | succ d => rw [endI, if_neg (by rw [hn]; decide)]
theorem extract_at {s : ByteArray} {b t : Nat} {r : List UInt8} (h : s.data.toList = txt b t r) : (s.extract (b + t) s.size).data.toList = r := by
  rw [ByteArray.data_extract, Array.toList_extract, h]
  have hs : s.size = b + t + r.length := by rw [size_list, h, txt_len]
  rw [hs]
  rw [List.extract_eq_take_drop]
  unfold txt
  rw [← List.append_assoc, List.drop_left' (by simp), Nat.add_sub_cancel_left, List.take_length]
theorem j3_ev (x2 : ByteArray) (hx2 : x2.size ≤ 600) (s : ByteArray) (b t : Nat) (hb : b ≤ 20) (ht : t ≤ 20) (h : s.data.toList = txt b t (120 :: x2.data.toList)) :
    Ev (fun k => rubricatorlaw17_LineTabs.j3 k x2 (want b t : Int) s 0 0 0) true := by
  have hs : s.size = b + t + (x2.size + 1) := by rw [size_list, h, txt_len, List.length_cons, size_list]
  obtain ⟨e1, e2⟩ := tabs_at h
  have hf : Fine s 0 0 0 := ⟨by omega, by omega, fun h => by omega⟩
  have hw : want b t ≤ 120 := by unfold want; split <;> omega
  obtain ⟨g1, g2, g3, g4⟩ := skp_spec s 0 1000 0 0 hf
  obtain ⟨g5, g6⟩ := skp_all s 0 1000 0 0 hf (by rw [e1]; omega) (fun h => by omega)
  rw [e1] at g1
  rw [Nat.sub_zero] at g5
  rw [e2] at g5
  have g1' : (skp s 1000 0 0 0).1 = want b t := by omega
  have g2' : (skp s 1000 0 0 0).2.2.1 = want b t := by omega
  refine ev_succ ?_
  simp only [rubricatorlaw17_LineTabs.j3]
  have hi := indent_ev s (by omega) 0 0 0 hf (by omega)
  rw [e1, Nat.sub_zero] at hi
  refine Ev.bind hi ?_
  refine ev_if rfl ?_
  have hk := skip_ev s (by omega) 1000 (by decide) 0 0 0 hf (by omega)
  rw [show Int.toNat 1000 = 1000 from rfl, g1', g2', g5, g6] at hk
  refine Ev.bind hk ?_
  refine ev_if rfl ?_
  refine ev_some (a := (((want b t : Nat) : Int), s, ((b + t : Nat) : Int), ((want b t : Nat) : Int), ((0 : Nat) : Int))) ?_
  refine ev_if rfl ?_
  have hr : line_Cursor_Rest.f s ((b + t : Nat) : Int) ((want b t : Nat) : Int) ((0 : Nat) : Int) = some ((⟨#[120]⟩ : ByteArray) ++ x2, s, ((b + t : Nat) : Int), ((want b t : Nat) : Int), ((0 : Nat) : Int)) := by
    unfold line_Cursor_Rest.f
    rw [if_neg (by decide), if_pos (by omega)]
    congr 2
    refine list_inj ?_
    rw [show ((b + t : Nat) : Int).toNat = b + t from rfl, extract_at h]
    simp
  refine Ev.bind (ev_const hr) ?_
  refine ev_if (by omega) (ev_if rfl ?_)
  have hbl : line_Cursor_Blank.f s ((b + t : Nat) : Int) ((want b t : Nat) : Int) ((0 : Nat) : Int) = some (false, s, ((b + t : Nat) : Int), ((want b t : Nat) : Int), ((0 : Nat) : Int)) := by
    unfold line_Cursor_Blank.f line_Cursor_Word.f
    rw [if_pos (by omega)]
    unfold strings_TrimLeft.f
    rw [if_pos (by decide), if_pos (by decide), show ((b + t : Nat) : Int).toNat = b + t from rfl, extract_at h]
    simp only [Option.bind_some]
    congr 2
    have e : Lib.trimLeftS (120 :: x2.data.toList) [32, 9] = 120 :: x2.data.toList := by simp [Lib.trimLeftS]
    show ((⟨(Lib.trimLeftS (120 :: x2.data.toList) [32, 9]).toArray⟩ : ByteArray).toList == []) = false
    rw [e]
    exact beq_eq_false_iff_ne.mpr (fun e2 => by
      have e3 := congrArg List.length e2
      rw [Lib.toList_data] at e3
      simp at e3)
  refine Ev.bind (ev_const hbl) ?_
  refine ev_else (by simp) ?_
  exact Ev.bind known_ev (Ev.now _)
theorem l1_ev (x2 : ByteArray) (hx2 : x2.size ≤ 600) (b t : Nat) (hb : b ≤ 20) (ht : t ≤ 20) : ∀ (d j : Nat) (x7 : ByteArray), j + d = t → x7.data.toList = txt b j [] → Ev (fun k => rubricatorlaw17_LineTabs.l1 k b t x2 x7 (j : Nat)) true
  | 0, j, x7, hj, h => by
    have hj' : j = t := by omega
    subst hj'
    have hs : x7.size = b + j := by rw [size_list, h, txt_len]; rfl
    refine ev_succ ?_
    simp only [rubricatorlaw17_LineTabs.l1]
    refine ev_else (by omega) (ev_if (by omega) (ev_if (by rw [ByteArray.size_append]; show x7.size + 1 + x2.size ≤ _; omega) ?_))
    refine ev_some (a := ((x7 ++ (⟨#[120]⟩ : ByteArray)) ++ x2, (0 : Int), (0 : Int), (0 : Int))) ?_
    have hd : ((x7 ++ (⟨#[120]⟩ : ByteArray)) ++ x2).data.toList = txt b j (120 :: x2.data.toList) := by
      simp [h, txt]
    have hj3 := j3_ev x2 hx2 _ b j hb ht hd
    by_cases h0 : (j : Int) > 0
    · refine ev_if h0 ?_
      have e : wrap64 (wrap64 ((b : Int) - Int.tmod b 4) + wrap64 (4 * (j : Int))) = (want b j : Int) := by
        rw [tmod4, w64 (x := 4 * (j : Int)) (by omega) (by omega), w64 (x := (b : Int) - ((b % 4 : Nat) : Int)) (by omega) (by omega), w64 (by omega) (by omega)]
        unfold want
        rw [if_neg (by omega)]
        omega
      rw [e]
      exact hj3
    · refine ev_else h0 ?_
      have e : (want b j : Int) = (b : Int) := by
        unfold want
        rw [if_pos (by omega)]
      rw [e] at hj3
      exact hj3
  | d + 1, j, x7, hj, h => by
    have hs : x7.size = b + j := by rw [size_list, h, txt_len]; rfl
    refine ev_succ ?_
    simp only [rubricatorlaw17_LineTabs.l1]
    refine ev_if (by omega) (ev_if (by omega) ?_)
    rw [w64 (by omega) (by omega)]
    exact l1_ev x2 hx2 b t hb ht d (j + 1) _ (by omega) (by simp [h, txt, List.replicate_succ'])
theorem l0_ev (x2 : ByteArray) (hx2 : x2.size ≤ 600) (b t : Nat) (hb : b ≤ 20) (ht : t ≤ 20) : ∀ (d j : Nat) (x7 : ByteArray), j + d = b → x7.data.toList = txt j 0 [] → Ev (fun k => rubricatorlaw17_LineTabs.l0 k b t x2 x7 (j : Nat)) true
  | 0, j, x7, hj, h => by
    have hj' : j = b := by omega
    subst hj'
    refine ev_succ ?_
    simp only [rubricatorlaw17_LineTabs.l0]
    refine ev_else (by omega) ?_
    exact l1_ev x2 hx2 j t hb ht t 0 x7 (by omega) h
  | d + 1, j, x7, hj, h => by
    have hs : x7.size = j + 0 := by rw [size_list, h, txt_len]; rfl
    refine ev_succ ?_
    simp only [rubricatorlaw17_LineTabs.l0]
    refine ev_if (by omega) (ev_if (by omega) ?_)
    rw [w64 (by omega) (by omega)]
    exact l0_ev x2 hx2 b t hb ht d (j + 1) _ (by omega) (by simp [h, txt, List.replicate_succ'])
theorem j0_known (a0 a1 : Int) (a2 : ByteArray) : Ev (fun k => rubricatorlaw17_LineTabs.j0 k a0 a1 a2 true) true := by
  refine ev_succ ?_
  simp only [rubricatorlaw17_LineTabs.j0]
  exact ev_if (by trivial) (Ev.bind known_ev (Ev.now _))
theorem LineTabs : rubricatorlaw17_LineTabs.Pure := by
  intro a0 a1 a2 w0 w1 w2
  have key : Ev (fun k => rubricatorlaw17_LineTabs.f k a0 a1 a2) true := by
    unfold rubricatorlaw17_LineTabs.f
    by_cases h1 : a0 < 0
    · exact ev_if h1 (j0_known _ _ _)
    refine ev_else h1 ?_
    by_cases h2 : a0 > 20
    · exact ev_if h2 (j0_known _ _ _)
    refine ev_else h2 ?_
    by_cases h3 : a1 < 0
    · exact ev_if h3 (j0_known _ _ _)
    refine ev_else h3 ?_
    by_cases h4 : a1 > 20
    · exact ev_if h4 (j0_known _ _ _)
    refine ev_else h4 ?_
    by_cases h5 : (a2.size : Int) > 600
    · rw [decide_eq_true h5]
      exact j0_known _ _ _
    · rw [decide_eq_false h5]
      obtain ⟨b, rfl⟩ := Int.eq_ofNat_of_zero_le (show 0 ≤ a0 by omega)
      obtain ⟨t, rfl⟩ := Int.eq_ofNat_of_zero_le (show 0 ≤ a1 by omega)
      refine ev_succ ?_
      simp only [rubricatorlaw17_LineTabs.j0]
      refine ev_else (by decide) ?_
      exact l0_ev a2 (by omega) b t (by omega) (by omega) b 0 _ (by omega) rfl
  exact key.rounds
end Go.Proofs.YtbhopjcicdjjpaaDoor.Pure
