/- What utf.Repair, utf.Count, utf.Valid and the document's functions compute, over lists of bytes; the three laws' plain facts. No conditions. -/
import Derived.Test.YtekkkohncfmmfaaDoorPAx
import Derived.Test.YtekkkohncfmmfaaDoorRune
import Derived.Test.YtekkkohncfmmfaaDoorVal
import Derived.Test.YtekkkohncfmmfaaDoorDec
import Derived.Test.YtekkkohncfmmfaaDoorAid
import Derived.Lib.MapLaws
import Derived.Lib.ValidLaws
import Derived.Lib.TrimUEq
namespace Go.Proofs.YtekkkohncfmmfaaDoor.Plain
open Go.RowKit Go.Proofs.YtekkkohncfmmfaaDoor.PA Go.Proofs.YtekkkohncfmmfaaDoor.Rune Go.Proofs.YtekkkohncfmmfaaDoorW.PrintWords Go.Proofs.YtekkkohncfmmfaaDoorW.PrintLast Go.Proofs.YtekkkohncfmmfaaDoorAid Go.Proofs.YtekkkohncfmmfaaDoorDec
open Go.Lib (decodeL decodeN encodeRune encodeRuneZ validD)
set_option linter.unusedVariables false
set_option linter.unusedSimpArgs false

/-! ### lists -/
def rpL : Nat → List UInt8 → List UInt8
  | 0, _ => []
  | d + 1, l => if l = [] then [] else encodeRune (utf_Repair.one (decodeL l).1) ++ rpL d (l.drop (decodeL l).2)
def cntL : Nat → List UInt8 → Nat
  | 0, _ => 0
  | d + 1, l => if l = [] then 0 else cntL d (l.drop (decodeL l).2) + 1
theorem drop_end (s : ByteArray) (p : Nat) (h : ¬ p < s.size) : s.data.toList.drop p = [] := List.drop_eq_nil_of_le (by rw [data_length]; omega)
theorem drop_in (s : ByteArray) (p : Nat) (h : p < s.size) : s.data.toList.drop p ≠ [] := by
  intro h0
  have := congrArg List.length h0
  rw [List.length_drop, data_length, List.length_nil] at this
  omega
theorem rep_eq (s : ByteArray) : ∀ d p, utf_Repair.from d s p = rpL d (s.data.toList.drop p)
  | 0, p => rfl
  | d + 1, p => by
    rw [utf_Repair.from, rpL]
    by_cases h : p < s.size
    · rw [if_pos h, if_neg (drop_in s p h), Lib.decodeL_drop, List.drop_drop, rep_eq s d]
    · rw [if_neg h, if_pos (drop_end s p h)]
theorem cnt_eq (s : ByteArray) : ∀ d p, utf_Count.from d s p = cntL d (s.data.toList.drop p)
  | 0, p => rfl
  | d + 1, p => by
    rw [utf_Count.from, cntL]
    by_cases h : p < s.size
    · rw [if_pos h, if_neg (drop_in s p h), Lib.decodeL_drop, List.drop_drop, cnt_eq s d]
    · rw [if_neg h, if_pos (drop_end s p h)]

/-! ### a rune's bytes -/
def good (r : Nat) : Prop := r < 55296 ∨ (57343 < r ∧ r ≤ 1114111)
theorem byteN (x : Nat) : (UInt8.ofNat x).toNat = x % 256 := by simp
theorem toB (z : Int) (x : Nat) (h : z = (x : Int)) : z.toNat.toUInt8 = UInt8.ofNat x := by
  subst h
  rw [Int.toNat_natCast]
theorem enc1 {r : Nat} (h : r < 128) : encodeRune (r : Int) = [UInt8.ofNat r] := by
  unfold encodeRune
  rw [Lib.encodeRuneZ_one (by omega) (by omega), List.map_cons, List.map_nil, toB _ _ rfl]
theorem enc2 {r : Nat} (h : 128 ≤ r) (h2 : r < 2048) : encodeRune (r : Int) = [UInt8.ofNat (192 + r / 64), UInt8.ofNat (128 + r % 64)] := by
  unfold encodeRune
  rw [Lib.encodeRuneZ_two (by omega) (by omega)]
  simp only [List.map_cons, List.map_nil]
  rw [toB _ (192 + r / 64) (by omega), toB _ (128 + r % 64) (by omega)]
theorem enc3 {r : Nat} (h : 2048 ≤ r) (h2 : r < 65536) (hg : good r) : encodeRune (r : Int) = [UInt8.ofNat (224 + r / 4096), UInt8.ofNat (128 + r / 64 % 64), UInt8.ofNat (128 + r % 64)] := by
  unfold good at hg
  unfold encodeRune
  rw [Lib.encodeRuneZ_three (by omega)]
  simp only [List.map_cons, List.map_nil]
  rw [toB _ (224 + r / 4096) (by omega), toB _ (128 + r / 64 % 64) (by omega), toB _ (128 + r % 64) (by omega)]
theorem enc4 {r : Nat} (h : 65536 ≤ r) (hg : good r) : encodeRune (r : Int) = [UInt8.ofNat (240 + r / 262144), UInt8.ofNat (128 + r / 4096 % 64), UInt8.ofNat (128 + r / 64 % 64), UInt8.ofNat (128 + r % 64)] := by
  unfold good at hg
  unfold encodeRune
  rw [Lib.encodeRuneZ_four (by omega) (by omega)]
  simp only [List.map_cons, List.map_nil]
  rw [toB _ (240 + r / 262144) (by omega), toB _ (128 + r / 4096 % 64) (by omega), toB _ (128 + r / 64 % 64) (by omega), toB _ (128 + r % 64) (by omega)]
theorem dec1 (n b0 b1 b2 b3 r : Nat) (h : r < 128) (h0 : b0 = r) : decodeN n b0 b1 b2 b3 = (r, 1) := by
  unfold Lib.decodeN
  rw [if_pos (by omega), h0]
theorem dec2 (n b0 b1 b2 b3 r : Nat) (h : 128 ≤ r ∧ r < 2048) (h0 : b0 = 192 + r / 64) (h1 : b1 = 128 + r % 64) (hn : 1 < n) : decodeN n b0 b1 b2 b3 = (r, 2) := by
  unfold Lib.decodeN
  rw [if_neg (by omega), if_pos (by omega), if_pos (by omega)]
  congr 1
  omega
theorem dec3 (n b0 b1 b2 b3 r : Nat) (h : 2048 ≤ r ∧ r < 65536) (hg : good r) (h0 : b0 = 224 + r / 4096) (h1 : b1 = 128 + r / 64 % 64) (h2 : b2 = 128 + r % 64) (hn : 2 < n) : decodeN n b0 b1 b2 b3 = (r, 3) := by
  unfold good at hg
  unfold Lib.decodeN
  rw [if_neg (by omega), if_neg (by omega), if_pos (by omega), if_pos (by omega)]
  congr 1
  omega
theorem dec4 (n b0 b1 b2 b3 r : Nat) (h : 65536 ≤ r) (hg : good r) (h0 : b0 = 240 + r / 262144) (h1 : b1 = 128 + r / 4096 % 64) (h2 : b2 = 128 + r / 64 % 64) (h3 : b3 = 128 + r % 64) (hn : 3 < n) : decodeN n b0 b1 b2 b3 = (r, 4) := by
  unfold good at hg
  unfold Lib.decodeN
  rw [if_neg (by omega), if_neg (by omega), if_neg (by omega), if_pos (by omega), if_pos (by omega)]
  congr 1
  omega
theorem dec_enc (r : Nat) (hg : good r) (t : List UInt8) : decodeL (encodeRune (r : Int) ++ t) = (r, (encodeRune (r : Int)).length) := by
  have hg' := hg
  unfold good at hg'
  rw [Lib.decodeL_N]
  by_cases h1 : r < 128
  · rw [enc1 h1]
    refine dec1 _ _ _ _ _ r h1 ?_
    rw [List.cons_append, List.getD_cons_zero, byteN]
    omega
  by_cases h2 : r < 2048
  · rw [enc2 (by omega) h2]
    refine dec2 _ _ _ _ _ r ⟨by omega, h2⟩ ?_ ?_ (by simp)
    · simp only [List.cons_append, List.getD_cons_zero, byteN]
      omega
    · simp only [List.cons_append, List.getD_cons_zero, List.getD_cons_succ, byteN]
      omega
  by_cases h3 : r < 65536
  · rw [enc3 (by omega) h3 hg]
    refine dec3 _ _ _ _ _ r ⟨by omega, h3⟩ hg ?_ ?_ ?_ (by simp)
    · simp only [List.cons_append, List.getD_cons_zero, byteN]
      omega
    · simp only [List.cons_append, List.getD_cons_zero, List.getD_cons_succ, byteN]
      omega
    · simp only [List.cons_append, List.getD_cons_zero, List.getD_cons_succ, byteN]
      omega
  · rw [enc4 (by omega) hg]
    refine dec4 _ _ _ _ _ r (by omega) hg ?_ ?_ ?_ ?_ (by simp)
    · simp only [List.cons_append, List.getD_cons_zero, byteN]
      omega
    · simp only [List.cons_append, List.getD_cons_zero, List.getD_cons_succ, byteN]
      omega
    · simp only [List.cons_append, List.getD_cons_zero, List.getD_cons_succ, byteN]
      omega
    · simp only [List.cons_append, List.getD_cons_zero, List.getD_cons_succ, byteN]
      omega
theorem enc_len (r : Int) : 1 ≤ (encodeRune r).length ∧ (encodeRune r).length ≤ 4 := by
  have := Lib.runeCells_le r
  rw [Lib.runeCells_length] at this
  exact this
theorem enc_ne (r : Int) (t : List UInt8) : encodeRune r ++ t ≠ [] := by
  intro h
  have h1 := congrArg List.length h
  rw [List.length_append, List.length_nil] at h1
  have := enc_len r
  omega
theorem enc_err : (encodeRune (65533 : Nat)).length = 3 := by decide
theorem good_one (r : Nat) (hg : good r) : good (utf_Repair.one r) ∧ utf_Repair.one (utf_Repair.one r) = utf_Repair.one r := by
  unfold utf_Repair.one good at *
  split
  · exact ⟨by omega, rfl⟩
  · exact ⟨hg, by first | rfl | rw [if_neg (by assumption)]⟩
theorem good_dec (l : List UInt8) : good (decodeL l).1 := by
  rw [Lib.decodeL_N]
  have k0 := (l.getD 0 0).toNat_lt
  generalize (l.getD 0 0).toNat = b0 at *
  generalize (l.getD 1 0).toNat = b1 at *
  generalize (l.getD 2 0).toNat = b2 at *
  generalize (l.getD 3 0).toNat = b3 at *
  unfold good
  rcases Lib.decodeN_shape l.length b0 b1 b2 b3 with ⟨c, e⟩ | ⟨c1, c2, c3, cv, e⟩ | ⟨c1, c2, c3, c4, cv, cs, e⟩ | ⟨c1, c2, c3, c4, c5, cv, cw, e⟩ | e
  all_goals
    rw [e]
    dsimp only
    omega
theorem valid_enc (r : Nat) (hg : good r) (t : List UInt8) : validD (encodeRune (r : Int) ++ t) = validD t := by
  rw [Lib.validD_step _ (enc_ne _ _), dec_enc r hg t, if_neg, List.drop_left' rfl]
  rintro ⟨h1, h2⟩
  simp only at h1 h2
  rw [h1, enc_err] at h2
  omega
theorem rp_valid : ∀ d l, validD (rpL d l) = true
  | 0, l => rfl
  | d + 1, l => by
    rw [rpL]
    split
    · rfl
    · rw [valid_enc _ (good_one _ (good_dec l)).1, rp_valid d]
theorem rp_idem : ∀ d l e, (rpL d l).length ≤ e → rpL e (rpL d l) = rpL d l
  | 0, l, e, _ => by
    rw [rpL]
    cases e with
    | zero => rfl
    | succ e => rw [rpL, if_pos rfl]
  | d + 1, l, e, h => by
    rw [rpL] at h ⊢
    split at h
    · rename_i h0
      rw [if_pos h0]
      cases e with
      | zero => rfl
      | succ e => rw [rpL, if_pos rfl]
    · rename_i h0
      rw [if_neg h0]
      rw [List.length_append] at h
      have hl := enc_len (utf_Repair.one (decodeL l).1 : Nat)
      obtain ⟨e, rfl⟩ : ∃ e', e = e' + 1 := ⟨e - 1, by omega⟩
      have hg := good_one _ (good_dec l)
      rw [rpL, if_neg (enc_ne _ _), dec_enc _ hg.1, List.drop_left' rfl, rp_idem d _ e (by omega)]
      simp only
      rw [hg.2]
theorem rp_length : ∀ d l, (rpL d l).length ≤ 4 * d
  | 0, l => by simp [rpL]
  | d + 1, l => by
    rw [rpL]
    split
    · simp
    · have := enc_len (utf_Repair.one (decodeL l).1 : Nat)
      have := rp_length d (l.drop (decodeL l).2)
      rw [List.length_append]
      omega

/-! ### the document's functions -/
theorem bytes_enc (r : Int) : bytesOf ⟨(encodeRune r).toArray⟩ = encodeRuneZ r := by
  unfold bytesOf encodeRune
  rw [show ((⟨(List.map (fun x : Int => x.toNat.toUInt8) (encodeRuneZ r)).toArray⟩ : ByteArray).data.toList) = List.map (fun x : Int => x.toNat.toUInt8) (encodeRuneZ r) from by simp]
  rw [List.map_map]
  conv => rhs; rw [← List.map_id (encodeRuneZ r)]
  refine List.map_congr_left fun x hx => ?_
  have h := Lib.encodeRuneZ_byte r x hx
  show ((x.toNat.toUInt8).toNat : Int) = x
  simp
  omega
theorem enc_str (r : Int) : strOfNums (encodeRuneZ r) = ⟨(encodeRune r).toArray⟩ := by
  rw [← bytes_enc, nums_back]
theorem or_nat (a b : Nat) (i : Nat) (k : Nat) (ha : a = 2 ^ i * k) (hb : b < 2 ^ i) (hs : a + b < 2147483648) : Go.bits .or .i32 (a : Int) (b : Int) = ((a + b : Nat) : Int) := by
  show IntKind.i32.wrap ((BitVec.ofInt 32 (a : Int) ||| BitVec.ofInt 32 (b : Int)).toNat : Int) = _
  have h3 : a ||| b = a + b := by
    have := Nat.two_pow_add_eq_or_of_lt (i := i) (b := b) hb k
    rw [ha, ← this]
  have e3 : (BitVec.ofInt 32 (a : Int) ||| BitVec.ofInt 32 (b : Int)).toNat = a + b := by
    rw [BitVec.toNat_or, BitVec.ofInt_natCast, BitVec.ofInt_natCast, BitVec.toNat_ofNat, BitVec.toNat_ofNat, Nat.mod_eq_of_lt (by omega), Nat.mod_eq_of_lt (by omega), h3]
  rw [e3, IntWalk.i32_in _ (by omega)]
theorem and_nat (a : Nat) (hs : a < 2147483648) : Go.bits .and .i32 (a : Int) 63 = ((a % 64 : Nat) : Int) := by
  show IntKind.i32.wrap ((BitVec.ofInt 32 (a : Int) &&& BitVec.ofInt 32 (63 : Int)).toNat : Int) = _
  have e3 : (BitVec.ofInt 32 (a : Int) &&& BitVec.ofInt 32 (63 : Int)).toNat = a % 64 := by
    rw [show (63 : Int) = ((63 : Nat) : Int) from rfl, BitVec.toNat_and, BitVec.ofInt_natCast, BitVec.ofInt_natCast, BitVec.toNat_ofNat, BitVec.toNat_ofNat, Nat.mod_eq_of_lt (by omega), Nat.mod_eq_of_lt (by omega), show (63 : Nat) = 2 ^ 6 - 1 from rfl, Nat.and_two_pow_sub_one_eq_mod]
  rw [e3, IntWalk.i32_in _ (by omega)]
theorem lo6 (r : Nat) (hr : r < 2147483648) (m : Nat) (x : Int) (hx : x = (m : Int)) (hm : m < 2147483648) : (Go.bits .or .i32 128 (Go.bits .and .i32 x 63)) % 256 = 128 + (m : Int) % 64 := by
  subst hx
  rw [and_nat m hm, show (128 : Int) = ((128 : Nat) : Int) from rfl, or_nat 128 (m % 64) 6 2 rfl (by omega) (by omega)]
  omega
theorem hi_ (p i k : Nat) (hp : p = 2 ^ i * k) (m : Nat) (hm : m < 2 ^ i) (x : Int) (hx : x = (m : Int)) (hs : p + m < 256) (P : Int) (hP : P = (p : Int)) : (Go.bits .or .i32 P x) % 256 = P + (m : Int) := by
  subst hx hP
  rw [or_nat p m i k hp hm (by omega)]
  omega
theorem enc_j0 (r : Nat) (hg : good r) : Ev (fun k => rubricatorref7_Encode.j0 k (r : Int) false) ⟨(encodeRune (r : Int)).toArray⟩ := by
  have hg' := hg
  unfold good at hg'
  refine ev_succ ?_
  simp only [rubricatorref7_Encode.j0]
  refine ev_else (by simp) ?_
  rw [← enc_str]
  by_cases h1 : r < 128
  · refine ev_if (by omega) (ev_val ?_)
    rw [Lib.encodeRuneZ_one (by omega) (by omega), show (r : Int) % 256 = (r : Int) by omega]
  refine ev_else (by omega) ?_
  by_cases h2 : r < 2048
  · refine ev_if (by omega) (ev_val ?_)
    rw [Lib.encodeRuneZ_two (by omega) (by omega), hi_ 192 5 6 rfl (r / 64) (by omega) _ (by omega) (by omega) 192 rfl, lo6 r (by omega) r _ rfl (by omega)]
    rfl
  refine ev_else (by omega) ?_
  by_cases h3 : r < 65536
  · refine ev_if (by omega) (ev_val ?_)
    rw [Lib.encodeRuneZ_three (by omega), hi_ 224 4 14 rfl (r / 4096) (by omega) _ (by omega) (by omega) 224 rfl, lo6 r (by omega) (r / 64) _ (by omega) (by omega), lo6 r (by omega) r _ rfl (by omega)]
    rfl
  · refine ev_else (by omega) (ev_val ?_)
    rw [Lib.encodeRuneZ_four (by omega) (by omega), hi_ 240 3 30 rfl (r / 262144) (by omega) _ (by omega) (by omega) 240 rfl, lo6 r (by omega) (r / 4096) _ (by omega) (by omega), lo6 r (by omega) (r / 64) _ (by omega) (by omega), lo6 r (by omega) r _ rfl (by omega)]
    rfl
theorem enc_good (r : Nat) (hg : good r) : Ev (fun k => rubricatorref7_Encode.f k (r : Int)) ⟨(encodeRune (r : Int)).toArray⟩ := by
  have hg' := hg
  unfold good at hg'
  refine ev_succ ?_
  simp only [rubricatorref7_Encode.f]
  refine ev_else (by omega) (ev_else (by omega) ?_)
  by_cases h : 55296 ≤ r
  · refine ev_if (by omega) ?_
    rw [decide_eq_false (by omega)]
    exact enc_j0 r hg
  · exact ev_else (by omega) (enc_j0 r hg)
/-- What a number's rune is: itself, or the rune of error. -/
def runeOf (a : Int) : Nat := if 0 ≤ a ∧ (a < 55296 ∨ (57343 < a ∧ a ≤ 1114111)) then a.toNat else 65533
theorem good_of (a : Int) : good (runeOf a) := by
  unfold runeOf good
  split <;> omega
theorem enc_any (a : Int) : Ev (fun k => rubricatorref7_Encode.f k a) ⟨(encodeRune (runeOf a : Nat)).toArray⟩ := by
  have hg := good_of a
  unfold runeOf at hg ⊢
  split
  · rename_i h
    rw [if_pos h] at hg
    have e : ((a.toNat : Nat) : Int) = a := by omega
    have := enc_good a.toNat hg
    rw [e] at this ⊢
    exact this
  · rename_i h
    have hj : Ev (fun k => rubricatorref7_Encode.j0 k a true) ⟨(encodeRune ((65533 : Nat) : Int)).toArray⟩ := by
      refine ev_succ ?_
      simp only [rubricatorref7_Encode.j0]
      refine ev_if (by first | trivial | rfl) (Ev.bind (enc_good 65533 (.inr (by omega))) (ev_val rfl))
    refine ev_succ ?_
    simp only [rubricatorref7_Encode.f]
    by_cases h0 : a < 0
    · exact ev_if h0 hj
    refine ev_else h0 ?_
    by_cases h1 : a > 1114111
    · exact ev_if h1 hj
    refine ev_else h1 (ev_if (by omega) ?_)
    rw [decide_eq_true (by omega)]
    exact hj

theorem valid_ev (a : ByteArray) (hs : a.size ≤ 3000) : ∀ (d i : Nat), a.size ≤ i + d → i ≤ a.size → Ev (fun k => rubricatorref7_Valid.l0 k a (i : Int)) (validD (a.data.toList.drop i)) := by
  intro d
  induction d with
  | zero =>
    intro i hi _
    refine ev_succ ?_
    simp only [rubricatorref7_Valid.l0]
    refine ev_else (by omega) (ev_val ?_)
    rw [drop_end a i (by omega)]
    rfl
  | succ d ih =>
    intro i hi hi2
    refine ev_succ ?_
    simp only [rubricatorref7_Valid.l0]
    by_cases h : i < a.size
    · have hw := width_pos a i h
      have he := width_end a i h
      refine ev_if (by omega) (ev_if (by omega) (ev_if (by omega) ?_))
      rw [Int.toNat_natCast, Lib.validD_step _ (drop_in a i h), Lib.decodeL_drop, List.drop_drop]
      refine Ev.bind (rune_at a i h) ?_
      by_cases hne : Utf8.decode a i = (65533, 1)
      · rw [if_pos (by rw [hne]; exact ⟨rfl, rfl⟩)]
        refine ev_else ?_ (ev_val rfl)
        unfold rune
        simp [hne]
      · rw [if_neg (fun hh => hne (Prod.ext hh.1 hh.2))]
        refine ev_if ?_ ?_
        · unfold rune
          simp [hne]
        · rw [show wrap64 ((i : Int) + (rune a i).2.1) = ((i + (Utf8.decode a i).2 : Nat) : Int) by unfold rune wrap64; simp only; omega]
          exact ih (i + (Utf8.decode a i).2) (by omega) (by omega)
    · refine ev_else (by omega) (ev_val ?_)
      rw [drop_end a i h]
      rfl
theorem runes_ev (a : ByteArray) (hs : a.size ≤ 3000) : ∀ (d i : Nat) (acc : List Int), a.size ≤ i + d → i ≤ a.size → acc.length ≤ i → ∃ l : List Int, Ev (fun k => rubricatorref7_Runes.l0 k a acc (i : Int)) l ∧ l.length = acc.length + utf_Count.from d a i := by
  intro d
  induction d with
  | zero =>
    intro i acc hi _ _
    refine ⟨acc, ev_succ ?_, by rw [utf_Count.from, Nat.add_zero]⟩
    simp only [rubricatorref7_Runes.l0]
    exact ev_else (by omega) (ev_val rfl)
  | succ d ih =>
    intro i acc hi hi2 ha
    by_cases h : i < a.size
    · have hw := width_pos a i h
      have he := width_end a i h
      obtain ⟨l, h1, h2⟩ := ih (i + (Utf8.decode a i).2) (acc ++ [(rune a i).1]) (by omega) (by omega) (by rw [List.length_append, List.length_singleton]; omega)
      refine ⟨l, ev_succ ?_, ?_⟩
      · simp only [rubricatorref7_Runes.l0]
        refine ev_if (by omega) (ev_if (by omega) (ev_if (by omega) ?_))
        rw [Int.toNat_natCast]
        refine Ev.bind (rune_at a i h) (ev_if (by omega) ?_)
        rw [show wrap64 ((i : Int) + (rune a i).2.1) = ((i + (Utf8.decode a i).2 : Nat) : Int) by unfold rune wrap64; simp only; omega]
        exact h1
      · rw [h2, utf_Count.from, if_pos h, List.length_append, List.length_singleton]
        omega
    · refine ⟨acc, ev_succ ?_, by rw [utf_Count.from, if_neg h, Nat.add_zero]⟩
      simp only [rubricatorref7_Runes.l0]
      exact ev_else (by omega) (ev_val rfl)
def nums8 (l : List UInt8) : List Int := l.map fun b => (b.toNat : Int)
theorem nums8_str (l : List UInt8) : strOfNums (nums8 l) = ⟨l.toArray⟩ := by
  have h : bytesOf ⟨l.toArray⟩ = nums8 l := by unfold bytesOf nums8; simp
  rw [← h, nums_back]
theorem repair_ev (a : ByteArray) (hs : a.size ≤ 3000) : ∀ (d i : Nat) (acc : List UInt8), a.size ≤ i + d → i ≤ a.size → acc.length ≤ 4 * i → Ev (fun k => rubricatorref7_Repair.l0 k a (nums8 acc) (i : Int)) ⟨(acc ++ utf_Repair.from d a i).toArray⟩ := by
  intro d
  induction d with
  | zero =>
    intro i acc hi _ _
    refine ev_succ ?_
    simp only [rubricatorref7_Repair.l0]
    refine ev_else (by omega) (ev_val ?_)
    rw [nums8_str, utf_Repair.from, List.append_nil]
  | succ d ih =>
    intro i acc hi hi2 ha
    refine ev_succ ?_
    simp only [rubricatorref7_Repair.l0]
    by_cases h : i < a.size
    · have hw := width_pos a i h
      have he := width_end a i h
      have hg : good (Utf8.decode a i).1 := by
        have := good_dec (a.data.toList.drop i)
        rwa [Lib.decodeL_drop] at this
      refine ev_if (by omega) (ev_if (by omega) (ev_if (by omega) ?_))
      rw [Int.toNat_natCast]
      refine Ev.bind (rune_at a i h) ?_
      have step : ∀ r : Nat, r = utf_Repair.one (Utf8.decode a i).1 → Ev (fun k => if (nums8 acc).length + (⟨(encodeRune (r : Int)).toArray⟩ : ByteArray).size < 140737488355328 then rubricatorref7_Repair.l0 k a (nums8 acc ++ bytesOf ⟨(encodeRune (r : Int)).toArray⟩) (wrap64 ((i : Int) + (rune a i).2.1)) else none) ⟨(acc ++ utf_Repair.from (d + 1) a i).toArray⟩ := by
        intro r hr
        have hl := enc_len (r : Int)
        have hz : (⟨(encodeRune (r : Int)).toArray⟩ : ByteArray).size = (encodeRune (r : Int)).length := by
          rw [← data_length]
        have hn : (nums8 acc).length = acc.length := by unfold nums8; simp
        refine ev_if (by rw [hz, hn]; omega) ?_
        rw [show wrap64 ((i : Int) + (rune a i).2.1) = ((i + (Utf8.decode a i).2 : Nat) : Int) by unfold rune wrap64; simp only; omega]
        rw [show nums8 acc ++ bytesOf ⟨(encodeRune (r : Int)).toArray⟩ = nums8 (acc ++ encodeRune (r : Int)) by unfold nums8 bytesOf; simp]
        rw [utf_Repair.from, if_pos h, ← hr, ← List.append_assoc]
        exact ih (i + (Utf8.decode a i).2) (acc ++ encodeRune (r : Int)) (by omega) (by omega) (by rw [List.length_append]; omega)
      by_cases h0 : (Utf8.decode a i).1 = 0
      · refine ev_if (by unfold rune; simp [h0]) (Ev.bind (enc_good 65533 (.inr (by omega))) (step 65533 (by unfold utf_Repair.one; rw [if_pos h0])))
      · refine ev_else (by unfold rune; simp [h0]) (Ev.bind (enc_good _ hg) (step _ (by unfold utf_Repair.one; rw [if_neg h0])))
    · refine ev_else (by omega) (ev_val ?_)
      rw [nums8_str, utf_Repair.from, if_neg h, List.append_nil]
theorem same_ev (l : List Int) (hl : l.length ≤ 9223372036854775806) : ∀ (d i : Nat), l.length ≤ i + d → i ≤ l.length → Ev (fun k => rubricatorlaw7_same.l0 k l l (i : Int)) true := by
  intro d
  induction d with
  | zero =>
    intro i hi _
    refine ev_succ ?_
    simp only [rubricatorlaw7_same.l0]
    exact ev_else (by omega) (ev_val rfl)
  | succ d ih =>
    intro i hi hi2
    refine ev_succ ?_
    simp only [rubricatorlaw7_same.l0]
    by_cases h : i < l.length
    · refine ev_if (by omega) (ev_if (by omega) (ev_if (by omega) (ev_if trivial ?_)))
      rw [show wrap64 ((i : Int) + 1) = ((i + 1 : Nat) : Int) by unfold wrap64; omega]
      exact ih (i + 1) (by omega) (by omega)
    · exact ev_else (by omega) (ev_val rfl)
theorem stands_ev (s : ByteArray) (hs : s.size ≤ 3000) : Ev (fun k => rubricatorlaw7_stands.f k (bytesOf (s.push 171)) (bytesOf s)) true := by
  have hb : bytesOf (s.push 171) = bytesOf s ++ [171] := by simp [bytesOf]
  have hl := bytesOf_length s
  rw [hb]
  unfold rubricatorlaw7_stands.f
  generalize bytesOf s = l at *
  have hll : (l ++ [(171 : Int)]).length = l.length + 1 := by simp
  refine ev_if (by rw [hll]; unfold wrap64; omega) (ev_if (by omega) (ev_if (by rw [hll]; omega) ?_))
  rw [Int.toNat_natCast, List.take_left' rfl]
  refine Ev.bind ?_ (ev_if rfl (ev_if (by rw [hll]; omega) (ev_val ?_)))
  · unfold rubricatorlaw7_same.f
    exact ev_if rfl (same_ev l (by omega) l.length 0 (by omega) (by omega))
  · unfold rd
    rw [Int.toNat_natCast]
    simp
theorem known_f : rubricatorlaw7_known.f = some true := by
  decide +kernel
theorem ev_all {α β : Type} {f : Nat → Option α} {g : Nat → Option β} {a : α} {b : β} (h : Ev f a) (h2 : Ev g b) : ∃ k, f k = some a ∧ g k = some b := by
  obtain ⟨n, h⟩ := h
  obtain ⟨m, h2⟩ := h2
  exact ⟨max n m, h _ (Nat.le_max_left _ _), h2 _ (Nat.le_max_right _ _)⟩

/-! ### the three laws -/
theorem rep_f (s : ByteArray) (h : s.size ≤ 1099511627776) : utf_Repair.f (bytesOf s) = some ⟨(rpL s.size s.data.toList).toArray⟩ := by
  unfold utf_Repair.f utf_Repair.whole
  rw [nums_back, if_pos h, rep_eq, List.drop_zero]
theorem repairs_plain (s : ByteArray) (hs : s.size ≤ 3000) : ∃ (S : ByteArray) (kk : Nat), S.size ≤ 140737488351232 ∧ utf_Repair.f (bytesOf s) = some S ∧ utf_Repair.f (bytesOf S) = some S ∧ V S = true ∧
    rubricatorref7_Repair.f kk s = some S ∧ rubricatorlaw7_stands.f kk (bytesOf (s.push 171)) (bytesOf s) = some true ∧ rubricatorlaw7_known.f = some true := by
  have h1 : Ev (fun k => rubricatorref7_Repair.f k s) (⟨(rpL s.size s.data.toList).toArray⟩ : ByteArray) := by
    have h := repair_ev s hs s.size 0 [] (by omega) (by omega) (by simp)
    rw [List.nil_append, rep_eq, List.drop_zero] at h
    exact h
  obtain ⟨kk, h2, h3⟩ := ev_all h1 (stands_ev s hs)
  have hl := rp_length s.size s.data.toList
  have hz : (⟨(rpL s.size s.data.toList).toArray⟩ : ByteArray).size = (rpL s.size s.data.toList).length := by rw [← data_length]
  refine ⟨⟨(rpL s.size s.data.toList).toArray⟩, kk, by omega, rep_f s (by omega), ?_, ?_, h2, h3, known_f⟩
  · rw [rep_f _ (by omega), hz]
    have e : (⟨(rpL s.size s.data.toList).toArray⟩ : ByteArray).data.toList = rpL s.size s.data.toList := rfl
    rw [e, rp_idem _ _ _ (Nat.le_refl _)]
  · exact rp_valid _ _
theorem valid_plain (s : ByteArray) (hs : s.size ≤ 3000) : ∃ (rs : List Int) (kk : Nat), rubricatorref7_Valid.f kk s = some (V s) ∧ utf_Count.f s = some (rs.length : Int) ∧ rubricatorref7_Runes.f kk s = some rs ∧ rubricatorlaw7_known.f = some true := by
  have h1 : Ev (fun k => rubricatorref7_Valid.f k s) (V s) := by
    have h := valid_ev s hs s.size 0 (by omega) (by omega)
    rw [List.drop_zero] at h
    exact h
  obtain ⟨rs, h2, h3⟩ := runes_ev s hs s.size 0 [] (by omega) (by omega) (by simp)
  obtain ⟨kk, h4, h5⟩ := ev_all h1 h2
  refine ⟨rs, kk, h4, ?_, h5, known_f⟩
  unfold utf_Count.f
  rw [if_pos (by omega), h3, List.length_nil, Nat.zero_add]
theorem cut_bad (r : Nat) (hg : good r) (h : 128 ≤ r) : validD ((encodeRune (r : Int)).take ((encodeRune (r : Int)).length - 1)) = false := by
  have hg' := hg
  unfold good at hg'
  have key : ∀ l : List UInt8, l ≠ [] → decodeL l = (65533, 1) → validD l = false := by
    intro l hne hd
    rw [Lib.validD_step _ hne, hd, if_pos ⟨rfl, rfl⟩]
  by_cases h2 : r < 2048
  · rw [enc2 h h2]
    refine key _ (by simp) ?_
    rw [Lib.decodeL_N]
    simp only [List.length_cons, List.length_nil, Nat.add_one_sub_one, List.take_succ_cons, List.take_zero, List.getD_cons_zero, List.getD_cons_succ, byteN, Nat.zero_add]
    unfold Lib.decodeN
    repeat' split
    all_goals first | rfl | (exfalso; omega)
  by_cases h3 : r < 65536
  · rw [enc3 (by omega) h3 hg]
    refine key _ (by simp) ?_
    rw [Lib.decodeL_N]
    simp only [List.length_cons, List.length_nil, Nat.add_one_sub_one, List.take_succ_cons, List.take_zero, List.getD_cons_zero, List.getD_cons_succ, byteN, Nat.zero_add]
    unfold Lib.decodeN
    repeat' split
    all_goals first | rfl | (exfalso; omega)
  · rw [enc4 (by omega) hg]
    refine key _ (by simp) ?_
    rw [Lib.decodeL_N]
    simp only [List.length_cons, List.length_nil, Nat.add_one_sub_one, List.take_succ_cons, List.take_zero, List.getD_cons_zero, List.getD_cons_succ, byteN, Nat.zero_add]
    unfold Lib.decodeN
    repeat' split
    all_goals first | rfl | (exfalso; omega)
theorem runes_plain (a : Int) : ∃ (s C W0 : ByteArray) (n kk : Nat) (rC : Bool), s.size = n + 1 ∧ n ≤ 4 ∧ s.extract 0 n = C ∧ (if a = 0 then (⟨#[239, 191, 189]⟩ : ByteArray) else s) = W0 ∧ decide (C.size = 0) = rC ∧ (V s = true ∧ V C = rC) ∧
    rubricatorref7_Encode.f kk a = some s ∧ utf_Count.f s = some 1 ∧ utf_Repair.f (bytesOf s) = some W0 ∧ rubricatorlaw7_known.f = some true := by
  obtain ⟨kk, hk⟩ := (enc_any a).rounds
  have hg := good_of a
  have h0 : a = 0 ↔ runeOf a = 0 := by
    unfold runeOf
    split <;> omega
  generalize runeOf a = r at *
  have hl := enc_len (r : Int)
  have hd := dec_enc r hg []
  rw [List.append_nil] at hd
  have hne := enc_ne (r : Int) []
  rw [List.append_nil] at hne
  have hz : (⟨(encodeRune (r : Int)).toArray⟩ : ByteArray).size = (encodeRune (r : Int)).length := by rw [← data_length]
  have hv := valid_enc r hg []
  rw [List.append_nil] at hv
  obtain ⟨n, hn⟩ : ∃ n, (encodeRune (r : Int)).length = n + 1 := ⟨(encodeRune (r : Int)).length - 1, by omega⟩
  have hC : ((⟨(encodeRune (r : Int)).toArray⟩ : ByteArray).extract 0 n).size = n := by rw [ByteArray.size_extract, hz]; omega
  refine ⟨⟨(encodeRune (r : Int)).toArray⟩, _, _, n, kk, _, by rw [hz, hn], by omega, rfl, rfl, rfl, ⟨hv, ?_⟩, hk, ?_, ?_, known_f⟩
  · rw [hC]
    have e : ((⟨(encodeRune (r : Int)).toArray⟩ : ByteArray).extract 0 n).data.toList = (encodeRune (r : Int)).take n := by
      rw [ByteArray.data_extract, Array.toList_extract]
      simp
    unfold V
    rw [e]
    by_cases h : r < 128
    · rw [enc1 h] at hn
      obtain rfl : n = 0 := by simpa using hn.symm
      rfl
    · have hb := cut_bad r hg (by omega)
      rw [show n = (encodeRune (r : Int)).length - 1 by omega, hb]
      symm
      rw [decide_eq_false_iff_not]
      have h2 : 2 ≤ (encodeRune (r : Int)).length := by
        have hg' := hg
        unfold good at hg'
        by_cases k2 : r < 2048
        · rw [enc2 (by omega) k2]; simp
        by_cases k3 : r < 65536
        · rw [enc3 (by omega) k3 hg]; simp
        · rw [enc4 (by omega) hg]; simp
      omega
  · unfold utf_Count.f
    rw [if_pos (by rw [hz]; omega), cnt_eq, hz, hn, List.drop_zero]
    show some (((cntL (n + 1) (encodeRune (r : Int)) : Nat) : Int)) = _
    rw [cntL, if_neg hne, hd, List.drop_of_length_le (Nat.le_refl _)]
    cases n with
    | zero => rfl
    | succ n => rfl
  · rw [rep_f _ (by rw [hz]; omega), hz]
    show some (⟨(rpL (encodeRune (r : Int)).length (encodeRune (r : Int))).toArray⟩ : ByteArray) = _
    rw [hn, rpL, if_neg hne, hd, List.drop_of_length_le (Nat.le_refl _)]
    have e : rpL n [] = [] := by
      cases n with
      | zero => rfl
      | succ n => rfl
    rw [e, List.append_nil]
    unfold utf_Repair.one
    by_cases ha : a = 0
    · rw [if_pos ha, if_pos (h0.1 ha)]
      decide
    · rw [if_neg ha, if_neg (fun h => ha (h0.2 h))]
end Go.Proofs.YtekkkohncfmmfaaDoor.Plain
