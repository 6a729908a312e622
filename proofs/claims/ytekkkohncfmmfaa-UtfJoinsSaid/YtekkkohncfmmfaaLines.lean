/- The lines of bytes: what utf.Lines and the document's Lines both come to. No conditions. -/
import Derived.Test.YtekkkohncfmmfaaPAx1
import Derived.Test.YtekkkohncfmmfaaDec
import Derived.Lib.RabinKarpLaws
namespace Go.Proofs.Ytekkkohncfmmfaa.Lin
open Go.RowKit Go.Proofs Go.Proofs.Ytekkkohncfmmfaa.PA Go.Proofs.YtekkkohncfmmfaaW.PrintWords Go.Proofs.YtekkkohncfmmfaaW.PrintLast
open Go.Proofs.YtekkkohncfmmfaaAid Go.Proofs.YtekkkohncfmmfaaDec
set_option linter.unusedVariables false
set_option linter.unusedSimpArgs false

def ba (l : List UInt8) : ByteArray := ⟨l.toArray⟩
/-- Lines of bytes: what the line at hand has, and whether a 0d stood right before. -/
def spec : List UInt8 → List UInt8 → Bool → List ByteArray
  | [], cur, _ => if cur = [] then [] else [ba cur]
  | b :: t, cur, c => if b = 10 ∧ c = true then spec t [] false else if b = 10 ∨ b = 13 then ba cur :: spec t [] (b == 13) else spec t (cur ++ [b]) false

def from_ (s : ByteArray) (i : Nat) : List UInt8 := s.data.toList.drop i
def cut_ (s : ByteArray) (a b : Nat) : List UInt8 := (s.data.toList.drop a).take (b - a)
theorem tl_length (s : ByteArray) : s.data.toList.length = s.size := by simp
theorem ba_cut (s : ByteArray) (a b : Nat) : ba (cut_ s a b) = s.extract a b := by
  apply ByteArray.ext
  apply Array.toList_inj.1
  unfold ba cut_
  rw [Lib.extract_data]
theorem from_cons (s : ByteArray) (i : Nat) (h : i < s.size) : from_ s i = s[i]'h :: from_ s (i + 1) := by
  unfold from_
  rw [List.drop_eq_getElem_cons (by rw [tl_length]; exact h)]
  rfl
theorem from_end (s : ByteArray) (i : Nat) (h : s.size ≤ i) : from_ s i = [] := by
  unfold from_
  rw [List.drop_eq_nil_of_le (by rw [tl_length]; exact h)]
theorem cut_same (s : ByteArray) (a : Nat) : cut_ s a a = [] := by
  unfold cut_
  rw [Nat.sub_self, List.take_zero]
theorem cut_next (s : ByteArray) (a b : Nat) (h : a ≤ b) (hb : b < s.size) : cut_ s a (b + 1) = cut_ s a b ++ [s[b]'hb] := by
  unfold cut_
  rw [show b + 1 - a = (b - a) + 1 by omega, List.take_add_one]
  congr 1
  rw [List.getElem?_drop, show a + (b - a) = b by omega, List.getElem?_eq_getElem (by rw [tl_length]; exact hb)]
  rfl
theorem cut_length (s : ByteArray) (a b : Nat) (h : a ≤ b) (hb : b ≤ s.size) : (cut_ s a b).length = b - a := by
  unfold cut_
  rw [List.length_take, List.length_drop, tl_length]
  omega
theorem get_int (s : ByteArray) (i : Nat) (h : i < s.size) : bt s (i : Int) = ((s[i]'h).toNat : Int) := by
  unfold bt
  rw [dif_pos (by simpa using h)]
  rfl
theorem u8_is (b : UInt8) (n : Nat) (h : n < 256) : (b = UInt8.ofNat n) ↔ b.toNat = n := by
  constructor
  · rintro rfl
    simp
    omega
  · intro e
    apply UInt8.toNat_inj.1
    rw [e]
    simp
    omega
theorem is10 (b : UInt8) : b = 10 ↔ b.toNat = 10 := u8_is b 10 (by decide)
theorem is13 (b : UInt8) : b = 13 ↔ b.toNat = 13 := u8_is b 13 (by decide)
/-- A byte that ends no line. -/
theorem spec_step (s : ByteArray) (fr p : Nat) (c : Bool) (hf : fr ≤ p) (hp : p < s.size) (h1 : (s[p]'hp).toNat ≠ 10) (h2 : (s[p]'hp).toNat ≠ 13) : spec (from_ s p) (cut_ s fr p) c = spec (from_ s (p + 1)) (cut_ s fr (p + 1)) false := by
  rw [from_cons s p hp, spec, if_neg (by rw [is10]; omega), if_neg (by rw [is10, is13]; omega), cut_next s fr p hf hp]
theorem spec_steps (s : ByteArray) (fr p : Nat) (c : Bool) (hf : fr ≤ p) : ∀ (j : Nat), p + (j + 1) ≤ s.size → (∀ i, i < j + 1 → (s.get! (p + i)).toNat ≠ 10 ∧ (s.get! (p + i)).toNat ≠ 13) → spec (from_ s p) (cut_ s fr p) c = spec (from_ s (p + (j + 1))) (cut_ s fr (p + (j + 1))) false
  | 0, h, hb => by
    have := hb 0 (by omega)
    rw [Nat.add_zero, get_of s p (by omega)] at this
    exact spec_step s fr p c hf (by omega) this.1 this.2
  | j + 1, h, hb => by
    rw [spec_steps s fr p c hf j (by omega) (fun i hi => hb i (by omega))]
    have := hb (j + 1) (by omega)
    rw [get_of s (p + (j + 1)) (by omega)] at this
    rw [show p + (j + 1 + 1) = p + (j + 1) + 1 by omega]
    exact spec_step s fr (p + (j + 1)) false (by omega) (by omega) this.1 this.2
theorem spec_end (s : ByteArray) (fr p : Nat) (c : Bool) (hf : fr ≤ p) (hp : p = s.size) : spec (from_ s p) (cut_ s fr p) c = if fr < s.size then [s.extract fr s.size] else [] := by
  rw [from_end s p (by omega), spec]
  have hl := cut_length s fr p hf (by omega)
  by_cases h : fr < s.size
  · rw [if_pos h, if_neg (by intro e; rw [e, List.length_nil] at hl; omega), ba_cut, hp]
  · rw [if_neg h, if_pos (List.eq_nil_of_length_eq_zero (by omega))]
/-- utf.Lines. -/
theorem go_spec (s : ByteArray) : ∀ (d p fr : Nat) (l : List ByteArray) (c : Bool), s.size < p + d → p ≤ s.size → fr ≤ p → (c = true ↔ 0 < p ∧ bt s ((p : Int) - 1) = 13) → (c = true → fr = p) → utf_Lines.go d s p fr l = l ++ spec (from_ s p) (cut_ s fr p) c := by
  intro d
  induction d with
  | zero => intro p fr l c h1 h2; omega
  | succ d ih =>
    intro p fr l c h1 h2 hf hc hcf
    rw [utf_Lines.go]
    by_cases hp : p < s.size
    · rw [if_pos hp]
      by_cases ha : (s[p]'hp).toNat < 128
      · have hd := decode_ascii s p hp ha
        rw [hd]
        simp only
        have hnc : ∀ c' : Bool, (c' = true ↔ (s[p]'hp).toNat = 13) → (c' = true ↔ 0 < p + 1 ∧ bt s (((p + 1 : Nat) : Int) - 1) = 13) := by
          intro c' h
          rw [h, show ((p + 1 : Nat) : Int) - 1 = (p : Int) by omega, get_int s p hp]
          omega
        by_cases h10c : (s[p]'hp).toNat = 10 ∧ 0 < p ∧ bt s ((p : Int) - 1) = 13
        · rw [if_pos h10c, ih (p + 1) (p + 1) l false (by omega) (by omega) (by omega) (hnc false (by simp; omega)) (by simp), from_cons s p hp, spec, if_pos ⟨(is10 _).2 h10c.1, hc.2 h10c.2⟩, cut_same]
        · rw [if_neg h10c]
          have hn : ¬ (s[p]'hp = 10 ∧ c = true) := fun h => h10c ⟨(is10 _).1 h.1, hc.1 h.2⟩
          by_cases hnl : (s[p]'hp).toNat = 10 ∨ (s[p]'hp).toNat = 13
          · rw [if_pos hnl, ih (p + 1) (p + 1) _ (s[p]'hp == 13) (by omega) (by omega) (by omega) (hnc _ (by rw [beq_iff_eq]; exact is13 _)) (by simp), from_cons s p hp, spec, if_neg hn, if_pos (by rw [is10, is13]; exact hnl), cut_same, ba_cut, List.append_assoc, List.singleton_append]
          · rw [if_neg hnl, ih (p + 1) fr l false (by omega) (by omega) (by omega) (hnc false (by simp; omega)) (by simp), spec_step s fr p c hf hp (by omega) (by omega)]
      · have hh := (decode_high s p hp (by omega)).1
        have hw := width_pos s p hp
        have he := width_end s p hp
        have hin := inner s p
        have hlast : bt s (((p + (Utf8.decode s p).2 : Nat) : Int) - 1) ≠ 13 := by
          rw [show ((p + (Utf8.decode s p).2 : Nat) : Int) - 1 = ((p + ((Utf8.decode s p).2 - 1) : Nat) : Int) by omega, get_int s _ (by omega)]
          by_cases h1 : (Utf8.decode s p).2 = 1
          · simp only [h1, Nat.sub_self, Nat.add_zero]
            omega
          · have := (hin ((Utf8.decode s p).2 - 1) (by omega) (by omega)).2
            rw [get_of s _ (by omega)] at this
            omega
        rw [if_neg (by omega), if_neg (by omega), ih (p + (Utf8.decode s p).2) fr l false (by omega) (by omega) (by omega) (by simp only [Bool.false_eq_true, false_iff]; exact fun h => hlast h.2) (by simp)]
        congr 1
        obtain ⟨j, hj⟩ : ∃ j, (Utf8.decode s p).2 = j + 1 := ⟨(Utf8.decode s p).2 - 1, by omega⟩
        rw [hj] at he hin ⊢
        refine (spec_steps s fr p c hf j he (fun i hi => ?_)).symm
        cases i with
        | zero =>
          rw [Nat.add_zero, get_of s p hp]
          omega
        | succ i =>
          have := (hin (i + 1) (by omega) (by omega)).2
          omega
    · rw [if_neg hp, spec_end s fr p c hf (by omega)]
      split
      · rfl
      · rw [List.append_nil]
/-- What comes of any bytes. -/
def linesOf (s : ByteArray) : List ByteArray := spec (from_ s 0) [] false
theorem lines_f (s : ByteArray) (h : s.size ≤ 1099511627776) : utf_Lines.f s = some (linesOf s) := by
  unfold utf_Lines.f linesOf
  rw [if_pos h, go_spec s (s.size + 5) 0 0 [] false (by omega) (by omega) (Nat.le_refl _) (by simp) (by simp), List.nil_append, cut_same]
/-- The document's Lines. -/
theorem spec_flag (s : ByteArray) (p : Nat) (cur : List UInt8) (h : ∀ hp : p < s.size, (s[p]'hp).toNat ≠ 10) : spec (from_ s p) cur true = spec (from_ s p) cur false := by
  by_cases hp : p < s.size
  · have h1 : ¬ s[p]'hp = 10 := fun e => h hp ((is10 _).1 e)
    rw [from_cons s p hp]
    simp only [spec, h1, false_and, if_false]
  · rw [from_end s p (by omega), spec, spec]
theorem ref_l0 (s : ByteArray) (hs : s.size ≤ 3000) : ∀ (d i fr : Nat) (l : List ByteArray), s.size ≤ i + d → i ≤ s.size → fr ≤ i → l.length ≤ i → Ev (fun k => rubricatorref7_Lines.l0 k s l (fr : Int) (i : Int)) (l ++ spec (from_ s i) (cut_ s fr i) false) := by
  intro d
  induction d using Nat.strongRecOn with
  | _ d ih =>
    intro i fr l hd hi hf hl
    refine ev_succ ?_
    simp only [rubricatorref7_Lines.l0]
    by_cases hp : i < s.size
    · refine ev_if (by omega) (ev_if (by omega) ?_)
      have hb := get_int s i hp
      have w1 : wrap64 ((i : Int) + 1) = ((i + 1 : Nat) : Int) := by unfold wrap64; omega
      by_cases hn : (s[i]'hp).toNat = 10 ∨ (s[i]'hp).toNat = 13
      · have key : Ev (fun k => rubricatorref7_Lines.j1 k s l (fr : Int) (i : Int) false) (l ++ spec (from_ s i) (cut_ s fr i) false) := by
          refine ev_succ ?_
          simp only [rubricatorref7_Lines.j1]
          refine ev_else (by simp) (ev_if (by omega) (ev_if (by omega) (ev_if (by omega) (ev_if (by omega) ?_))))
          simp only [Option.bind_some, Int.toNat_natCast]
          rw [w1]
          rw [from_cons s i hp, spec, if_neg (by simp), if_pos (by rw [is10, is13]; exact hn), ba_cut]
          refine ev_if (by omega) (ev_if (by omega) ?_)
          have hll : (l ++ [s.extract fr i]).length ≤ i + 1 := by rw [List.length_append, List.length_singleton]; omega
          by_cases h13 : (s[i]'hp).toNat = 13
          · refine ev_if (by omega) ?_
            have e13 : (s[i]'hp == 13) = true := by rw [beq_iff_eq]; exact (is13 _).2 h13
            rw [e13]
            by_cases hp1 : i + 1 < s.size
            · refine ev_if (by omega) (ev_if (by omega) ?_)
              have hb1 := get_int s (i + 1) hp1
              by_cases h10 : (s[i + 1]'hp1).toNat = 10
              · refine ev_if (by omega) ?_
                have f1 : s.size ≤ i + 1 + 1 + (d - 1) := by omega
                have f2 : i + 1 + 1 ≤ s.size := hp1
                have f3 : (l ++ [s.extract fr i]).length ≤ i + 1 + 1 := Nat.le_succ_of_le hll
                have f4 : d - 1 < d := by omega
                have w2 : wrap64 (((i + 1 : Nat) : Int) + 1) = ((i + 1 + 1 : Nat) : Int) := by unfold wrap64; omega
                rw [w2]
                have := ih (d - 1) f4 (i + 1 + 1) (i + 1 + 1) (l ++ [s.extract fr i]) f1 f2 (Nat.le_refl _) f3
                rw [cut_same, List.append_assoc, List.singleton_append] at this
                rw [from_cons s (i + 1) hp1, spec, if_pos ⟨(is10 _).2 h10, rfl⟩]
                exact this
              · refine ev_else (by omega) ?_
                have := ih (d - 1) (by omega) (i + 1) (i + 1) (l ++ [s.extract fr i]) (by omega) (by omega) (Nat.le_refl _) (by omega)
                rw [cut_same, List.append_assoc, List.singleton_append] at this
                rw [spec_flag s (i + 1) [] (fun _ => h10)]
                exact this
            · refine ev_else (by omega) ?_
              have := ih (d - 1) (by omega) (i + 1) (i + 1) (l ++ [s.extract fr i]) (by omega) (by omega) (Nat.le_refl _) (by omega)
              rw [cut_same, List.append_assoc, List.singleton_append] at this
              rw [spec_flag s (i + 1) [] (fun h => absurd h hp1)]
              exact this
          · refine ev_else (by omega) ?_
            have e13 : (s[i]'hp == 13) = false := by rw [beq_eq_false_iff_ne]; exact fun h => h13 ((is13 _).1 h)
            rw [e13]
            have := ih (d - 1) (by omega) (i + 1) (i + 1) (l ++ [s.extract fr i]) (by omega) (by omega) (Nat.le_refl _) (by omega)
            rw [cut_same, List.append_assoc, List.singleton_append] at this
            exact this
        by_cases h10 : (s[i]'hp).toNat = 10
        · exact ev_if (by omega) key
        · refine ev_else (by omega) ?_
          rw [show (bt s (i : Int) != 13) = false from by rw [bne_eq_false_iff_eq]; omega]
          exact key
      · refine ev_else (by omega) ?_
        rw [show (bt s (i : Int) != 13) = true from by rw [bne_iff_ne]; omega]
        refine ev_succ ?_
        simp only [rubricatorref7_Lines.j1]
        refine ev_if (by simp) ?_
        rw [w1, spec_step s fr i false hf hp (by omega) (by omega)]
        exact ih (d - 1) (by omega) (i + 1) fr l (by omega) (by omega) (by omega) (by omega)
    · refine ev_else (by omega) ?_
      rw [spec_end s fr i false hf (by omega)]
      by_cases h : fr < s.size
      · refine ev_if (by omega) (ev_if (by omega) (ev_if (by omega) (ev_if (by omega) (ev_val ?_))))
        rw [if_pos h, Int.toNat_natCast]
      · refine ev_else (by omega) (ev_val ?_)
        rw [if_neg h, List.append_nil]
theorem ref_lines (s : ByteArray) (hs : s.size ≤ 3000) : Ev (fun k => rubricatorref7_Lines.f k s) (linesOf s) := by
  have := ref_l0 s hs s.size 0 0 [] (by omega) (by omega) (Nat.le_refl _) (by simp)
  rw [cut_same, List.nil_append] at this
  exact this
theorem texts_l0 (l : List ByteArray) (hl : l.length ≤ 9223372036854775806) : ∀ (d i : Nat), l.length ≤ i + d → i ≤ l.length → Ev (fun k => rubricatorlaw7_texts.l0 k l l (i : Int)) true := by
  intro d
  induction d with
  | zero =>
    intro i hi _
    refine ev_succ ?_
    simp only [rubricatorlaw7_texts.l0]
    exact ev_else (by omega) (ev_val rfl)
  | succ d ih =>
    intro i hi hi2
    refine ev_succ ?_
    simp only [rubricatorlaw7_texts.l0]
    by_cases h : i < l.length
    · refine ev_if (by omega) (ev_if (by omega) (ev_if (by omega) (ev_if trivial ?_)))
      rw [show wrap64 ((i : Int) + 1) = ((i + 1 : Nat) : Int) by unfold wrap64; omega]
      exact ih (i + 1) (by omega) (by omega)
    · exact ev_else (by omega) (ev_val rfl)
theorem texts_same (l : List ByteArray) (hl : l.length ≤ 9223372036854775806) : Ev (fun k => rubricatorlaw7_texts.f k l l) true := by
  unfold rubricatorlaw7_texts.f
  exact ev_if rfl (texts_l0 l hl l.length 0 (by omega) (by omega))
theorem known_f : rubricatorlaw7_known.f = some true := by
  decide +kernel
theorem spec_length : ∀ (t : List UInt8) (cur : List UInt8) (c : Bool), (spec t cur c).length ≤ t.length + 1
  | [], cur, c => by
    rw [spec]
    split <;> simp
  | b :: t, cur, c => by
    rw [spec]
    split
    · have := spec_length t [] false
      rw [List.length_cons]
      omega
    · split
      · have := spec_length t [] (b == 13)
        rw [List.length_cons, List.length_cons]
        omega
      · have := spec_length t (cur ++ [b]) false
        rw [List.length_cons]
        omega
end Go.Proofs.Ytekkkohncfmmfaa.Lin
