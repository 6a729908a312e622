/- Lines, each ended in whatever way, are those lines. No conditions. -/
import Derived.Test.YtekkkohncfmmfaaPAx3
import Derived.Test.YtekkkohncfmmfaaLines
import Derived.Laws.Bits128
namespace Go.Proofs.Ytekkkohncfmmfaa.Pure
open Go.RowKit Go.Proofs Go.Proofs.Ytekkkohncfmmfaa.PA Go.Proofs.YtekkkohncfmmfaaW.PrintWords Go.Proofs.YtekkkohncfmmfaaW.PrintLast
open Go.Proofs.YtekkkohncfmmfaaAid Go.Proofs.YtekkkohncfmmfaaDec Go.Proofs.Ytekkkohncfmmfaa.Lin
set_option linter.unusedVariables false
set_option linter.unusedSectionVars false

theorem ev_con {α : Type} {o : Option α} {r : α} (h : o = some r) : Ev (fun _ => o) r := ⟨0, fun _ _ => h⟩
def bl (s : ByteArray) : List UInt8 := s.data.toList
theorem bl_append (a b : ByteArray) : bl (a ++ b) = bl a ++ bl b := by
  unfold bl
  simp
theorem ba_bl (a : ByteArray) : ba (bl a) = a := by
  apply ByteArray.ext
  apply Array.toList_inj.1
  simp [ba, bl]
theorem from_bl (a : ByteArray) : from_ a 0 = bl a := by
  unfold from_ bl
  rw [List.drop_zero]
/-- No byte of these ends a line. -/
def Plain (l : List UInt8) : Prop := ∀ b ∈ l, b.toNat ≠ 10 ∧ b.toNat ≠ 13
theorem spec_line : ∀ (x t cur : List UInt8) (c : Bool), Plain x → x ≠ [] → spec (x ++ t) cur c = spec t (cur ++ x) false
  | [], t, cur, c, _, h => absurd rfl h
  | [b], t, cur, c, hp, _ => by
    have hb := hp b (List.mem_singleton.2 rfl)
    rw [List.singleton_append, spec, if_neg (by rw [is10]; omega), if_neg (by rw [is10, is13]; omega)]
  | b :: b' :: x, t, cur, c, hp, _ => by
    have hb := hp b List.mem_cons_self
    rw [List.cons_append, spec, if_neg (by rw [is10]; omega), if_neg (by rw [is10, is13]; omega), spec_line (b' :: x) t (cur ++ [b]) false (fun z hz => hp z (List.mem_cons_of_mem _ hz)) (by simp), List.append_assoc, List.singleton_append]
/-- A line's end: 0 is 0a, 1 is 0d 0a, 2 is 0d. -/
def endOf (e : Nat) : List UInt8 := if e = 0 then [10] else if e = 1 then [13, 10] else [13]
theorem spec_one (x t : List UInt8) (c : Bool) (e : Nat) (he : e ≤ 2) (hp : Plain x) (hx : c = true → x ≠ []) : spec (x ++ (endOf e ++ t)) [] c = ba x :: spec t [] (decide (e = 2)) := by
  have key : spec (x ++ (endOf e ++ t)) [] c = spec (endOf e ++ t) x false := by
    by_cases h : x = []
    · subst h
      have hc : c = false := by cases c with
        | false => rfl
        | true => exact absurd rfl (hx rfl)
      rw [hc, List.nil_append]
    · rw [spec_line x _ [] c hp h, List.nil_append]
  rw [key]
  rcases (by omega : e = 0 ∨ e = 1 ∨ e = 2) with rfl | rfl | rfl
  · rw [show endOf 0 = [10] from rfl, List.singleton_append, spec, if_neg (by simp), if_pos (.inl rfl)]
    rfl
  · rw [show endOf 1 = [13, 10] from rfl, List.cons_append, List.singleton_append, spec, if_neg (by simp), if_pos (.inr rfl), spec, if_pos ⟨rfl, rfl⟩]
    rfl
  · rw [show endOf 2 = [13] from rfl, List.singleton_append, spec, if_neg (by simp), if_pos (.inr rfl)]
    rfl
/-- The text so far: its lines are those so far, whatever comes behind, where it may not begin with 0a behind a 0d. -/
def Good (s : ByteArray) (l : List ByteArray) (c : Bool) : Prop := ∀ t : List UInt8, spec (bl s ++ t) [] false = l ++ spec t [] c
theorem and1023 (n : Int) : Go.bits .and .i64 n 1023 = n % 1024 := by
  have h127 : (BitVec.ofInt 64 1023).toNat = 2 ^ 10 - 1 := by decide
  have key : (BitVec.ofInt 64 n &&& BitVec.ofInt 64 1023).toNat = (n % ((2 ^ 64 : Nat) : Int)).toNat % 2 ^ 10 := by
    rw [BitVec.toNat_and, BitVec.toNat_ofInt, h127, Nat.and_two_pow_sub_one_eq_mod]
  show IntKind.i64.wrap ((BitVec.ofInt 64 n &&& BitVec.ofInt 64 1023).toNat : Nat) = n % 1024
  rw [key, IntKind.wrap_i64]
  omega
theorem end_of (x : Int) : ∃ e : Nat, e ≤ 2 ∧ Int.tmod (Go.bits .and .i64 x 1023) 3 = (e : Int) := by
  rw [and1023]
  refine ⟨((x % 1024).tmod 3).toNat, ?_, ?_⟩
  · rw [Int.tmod_eq_emod_of_nonneg (by omega)]
    omega
  · rw [Int.tmod_eq_emod_of_nonneg (by omega)]
    omega
theorem rd_at (l : List ByteArray) (i : Nat) (h : i < l.length) : rdOf ByteArray.empty l (i : Int) = l[i]'h := by
  unfold rdOf
  rw [Int.toNat_natCast, List.getD_eq_getElem?_getD, List.getElem?_eq_getElem h]
  rfl
theorem plain_at (x : ByteArray) (h : ∀ j, (hj : j < x.size) → (x[j]'hj).toNat ≠ 10 ∧ (x[j]'hj).toNat ≠ 13) : Plain (bl x) := by
  intro b hb
  obtain ⟨j, hj, rfl⟩ := List.mem_iff_getElem.1 hb
  exact h j (by simpa [bl] using hj)
def three : List ByteArray := [(⟨#[10]⟩ : ByteArray), (⟨#[13, 10]⟩ : ByteArray), (⟨#[13]⟩ : ByteArray)]
theorem three_at (e : Nat) (h : e ≤ 2) : bl (rdOf ByteArray.empty three (e : Int)) = endOf e ∧ (rdOf ByteArray.empty three (e : Int)).size ≤ 2 := by
  rcases (by omega : e = 0 ∨ e = 1 ∨ e = 2) with rfl | rfl | rfl
  · exact ⟨rfl, by decide⟩
  · exact ⟨rfl, by decide⟩
  · exact ⟨rfl, by decide⟩
theorem good_next (s x y : ByteArray) (l : List ByteArray) (c : Bool) (e : Nat) (he : e ≤ 2) (hy : bl y = endOf e) (hG : Good s l c) (hp : Plain (bl x)) (hx : c = true → bl x ≠ []) : Good ((s ++ x) ++ y) (l ++ [x]) (decide (e = 2)) := by
  intro t
  rw [bl_append, bl_append, hy, List.append_assoc, List.append_assoc, hG, spec_one (bl x) t c e he hp hx, ba_bl, List.append_assoc, List.singleton_append]
section
variable (l : List ByteArray) (n : List Int) (hl : l.length ≤ 9223372036854775806) (hz : ∀ x ∈ l, x.size ≤ 140737488351232)
include hl hz
theorem l0_end (s : ByteArray) (c : Bool) (hs : s.size ≤ 3002) (hG : Good s l c) : Ev (fun k => rubricatorlaw7_UtfJoins.l0 k l n s (l.length : Int)) true := by
  refine ev_succ ?_
  simp only [rubricatorlaw7_UtfJoins.l0]
  refine ev_else (by omega) ?_
  have e : linesOf s = l := by
    have := hG []
    rw [List.append_nil, spec, if_pos rfl, List.append_nil] at this
    unfold linesOf
    rw [from_bl]
    exact this
  have hf := lines_f s (by omega)
  rw [e] at hf
  exact Ev.bind (ev_con hf) (Ev.bind (texts_same l hl) (ev_if rfl (Ev.bind (ev_con known_f) (ev_val rfl))))
theorem j4_next (s : ByteArray) (i : Nat) (hi : i < l.length) (c : Bool) (hs : s.size + (l[i]'hi).size ≤ 3000) (hG : Good s (l.take i) c) (hx : c = true → bl (l[i]'hi) ≠ []) (hp : Plain (bl (l[i]'hi)))
    (ih : ∀ (s' : ByteArray) (c' : Bool), s'.size ≤ 3002 → Good s' (l.take (i + 1)) c' → (c' = true → ∀ h : i + 1 < l.length, bl (l[i + 1]'h) ≠ []) → Ev (fun k => rubricatorlaw7_UtfJoins.l0 k l n s' ((i + 1 : Nat) : Int)) true)
    (e : Nat) (he : e ≤ 2) (h2 : e = 2 → ∀ h : i + 1 < l.length, bl (l[i + 1]'h) ≠ []) : Ev (fun k => rubricatorlaw7_UtfJoins.j4 k l n s (i : Int) (e : Int)) true := by
  have h3 := three_at e he
  have es : (s ++ (l[i]'hi)).size = s.size + (l[i]'hi).size := ByteArray.size_append
  have es2 : ((s ++ (l[i]'hi)) ++ rdOf ByteArray.empty three (e : Int)).size = s.size + (l[i]'hi).size + (rdOf ByteArray.empty three (e : Int)).size := by rw [ByteArray.size_append, es]
  have hg := good_next s (l[i]'hi) (rdOf ByteArray.empty three (e : Int)) (l.take i) c e he h3.1 hG hp hx
  rw [List.take_append_getElem hi] at hg
  have := ih _ (decide (e = 2)) (by omega) hg (fun h => h2 (of_decide_eq_true h))
  have w1 : wrap64 ((i : Int) + 1) = ((i + 1 : Nat) : Int) := by unfold wrap64; omega
  have hq : (s ++ (l[i]'hi)).size + (rdOf ByteArray.empty three (e : Int)).size ≤ 9223372036854775807 := by omega
  refine ev_succ ?_
  simp only [rubricatorlaw7_UtfJoins.j4]
  rw [rd_at l i hi, w1]
  refine ev_if (by omega) (ev_if (by omega) (ev_if (by omega) (Ev.bind (ev_con rfl) (ev_if (by omega) (ev_if ?_ (ev_if hq ?_))))))
  · show (e : Int) < 3
    omega
  · exact this
theorem j2_next (s : ByteArray) (i : Nat) (hi : i < l.length) (e : Nat) (he : e ≤ 2)
    (H : ∀ e : Nat, e ≤ 2 → (e = 2 → ∀ h : i + 1 < l.length, bl (l[i + 1]'h) ≠ []) → Ev (fun k => rubricatorlaw7_UtfJoins.j4 k l n s (i : Int) (e : Int)) true) : Ev (fun k => rubricatorlaw7_UtfJoins.j2 k l n s (i : Int) (e : Int)) true := by
  have w1 : wrap64 ((i : Int) + 1) = ((i + 1 : Nat) : Int) := by unfold wrap64; omega
  have off : (e = 2 → ∀ h : i + 1 < l.length, bl (l[i + 1]'h) ≠ []) → Ev (fun k => rubricatorlaw7_UtfJoins.j3 k l n s (i : Int) (e : Int) false) true := by
    intro h
    refine ev_succ ?_
    simp only [rubricatorlaw7_UtfJoins.j3]
    exact ev_else (by simp) (H e he h)
  refine ev_succ ?_
  simp only [rubricatorlaw7_UtfJoins.j2]
  rw [w1]
  by_cases h2 : e = 2
  · refine ev_if (by omega) ?_
    by_cases h : i + 1 < l.length
    · refine ev_if (by omega) (ev_if (by omega) ?_)
      rw [rd_at l (i + 1) h]
      cases hb : ((l[i + 1]'h).toList == ([] : List UInt8)) with
      | false =>
        refine off (fun _ _ hn => ?_)
        have : l[i + 1]'h = (⟨#[]⟩ : ByteArray) := by rw [← ba_bl (l[i + 1]'h), hn]; rfl
        rw [this] at hb
        exact absurd hb (by first | decide +kernel | simp)
      | true =>
        refine ev_succ ?_
        simp only [rubricatorlaw7_UtfJoins.j3]
        exact ev_if trivial (H 0 (by omega) (fun h => absurd h (by omega)))
    · exact ev_else (by omega) (off (fun _ h' => absurd h' h))
  · exact ev_else (by omega) (off (fun h => absurd h h2))
theorem l1_next (s : ByteArray) (i : Nat) (hi : i < l.length) (H : Plain (bl (l[i]'hi)) → ∀ e : Nat, e ≤ 2 → Ev (fun k => rubricatorlaw7_UtfJoins.j2 k l n s (i : Int) (e : Int)) true) (h3 : (l[i]'hi).size ≤ 3000) :
    ∀ (d j : Nat), (l[i]'hi).size ≤ j + d → j ≤ (l[i]'hi).size → (∀ q, q < j → (hq : q < (l[i]'hi).size) → ((l[i]'hi)[q]'hq).toNat ≠ 10 ∧ ((l[i]'hi)[q]'hq).toNat ≠ 13) → Ev (fun k => rubricatorlaw7_UtfJoins.l1 k l n s (i : Int) (j : Int)) true := by
  intro d
  induction d with
  | zero =>
    intro j hd hj hpl
    refine ev_succ ?_
    simp only [rubricatorlaw7_UtfJoins.l1]
    rw [rd_at l i hi]
    refine ev_if (by omega) (ev_if (by omega) (ev_else (by omega) ?_))
    have hP := plain_at _ (fun q hq => hpl q (by omega) hq)
    by_cases hn : i < n.length
    · obtain ⟨e, he, hE⟩ := end_of (rd n (i : Int))
      rw [hE]
      exact ev_if (by omega) (H hP e he)
    · exact ev_else (by omega) (H hP 0 (by omega))
  | succ d ih =>
    intro j hd hj hpl
    by_cases h : j < (l[i]'hi).size
    · refine ev_succ ?_
      simp only [rubricatorlaw7_UtfJoins.l1]
      rw [rd_at l i hi]
      have w1 : wrap64 ((j : Int) + 1) = ((j + 1 : Nat) : Int) := by unfold wrap64; omega
      rw [w1]
      refine ev_if (by omega) (ev_if (by omega) (ev_if (by omega) (ev_if (by omega) ?_)))
      have hb := get_int (l[i]'hi) j h
      have hk : Ev (fun _ => (rubricatorlaw7_known.f).bind fun t => some t) true := Ev.bind (ev_con known_f) (ev_val rfl)
      by_cases h10 : bt (l[i]'hi) (j : Int) = 10
      · exact ev_if h10 hk
      · refine ev_else h10 ?_
        by_cases h13 : bt (l[i]'hi) (j : Int) = 13
        · exact ev_if h13 hk
        · refine ev_else h13 (ih (j + 1) (by omega) (by omega) (fun q hq hq' => ?_))
          by_cases hqj : q = j
          · subst hqj
            omega
          · exact hpl q (by omega) hq'
    · refine ev_succ ?_
      simp only [rubricatorlaw7_UtfJoins.l1]
      rw [rd_at l i hi]
      refine ev_if (by omega) (ev_if (by omega) (ev_else (by omega) ?_))
      have hP := plain_at _ (fun q hq => hpl q (by omega) hq)
      by_cases hn : i < n.length
      · obtain ⟨e, he, hE⟩ := end_of (rd n (i : Int))
        rw [hE]
        exact ev_if (by omega) (H hP e he)
      · exact ev_else (by omega) (H hP 0 (by omega))
theorem l0_all : ∀ (d i : Nat) (s : ByteArray) (c : Bool), l.length ≤ i + d → i ≤ l.length → s.size ≤ 3002 → Good s (l.take i) c → (c = true → ∀ h : i < l.length, bl (l[i]'h) ≠ []) → Ev (fun k => rubricatorlaw7_UtfJoins.l0 k l n s (i : Int)) true := by
  intro d
  induction d with
  | zero =>
    intro i s c hd hi hs hG hx
    obtain rfl : i = l.length := by omega
    rw [List.take_length] at hG
    exact l0_end l n hl hz s c hs hG
  | succ d ih =>
    intro i s c hd hi hs hG hx
    by_cases h : i < l.length
    · have hxi := hz (l[i]'h) (List.getElem_mem h)
      have w1 : wrap64 ((s.size : Int) + ((l[i]'h).size : Int)) = ((s.size + (l[i]'h).size : Nat) : Int) := by unfold wrap64; omega
      refine ev_succ ?_
      simp only [rubricatorlaw7_UtfJoins.l0]
      rw [rd_at l i h, w1]
      refine ev_if (by omega) (ev_if (by omega) ?_)
      by_cases hbig : ((s.size + (l[i]'h).size : Nat) : Int) > 3000
      · exact ev_if hbig (ev_val rfl)
      · refine ev_else hbig ?_
        refine l1_next l n hl hz s i h (fun hP e he => ?_) (by omega) (l[i]'h).size 0 (by omega) (by omega) (fun q hq => absurd hq (by omega))
        exact j2_next l n hl hz s i h e he (fun e' he' h2 => j4_next l n hl hz s i h c (by omega) hG (fun hc => hx hc h) hP (fun s' c' hs' hG' hx' => ih (i + 1) s' c' (by omega) (by omega) hs' hG' hx') e' he' h2)
    · obtain rfl : i = l.length := by omega
      rw [List.take_length] at hG
      exact l0_end l n hl hz s c hs hG
end
theorem UtfJoins : rubricatorlaw7_UtfJoins.Pure := by
  intro l n hL _ _ _
  refine Ev.rounds ?_
  unfold rubricatorlaw7_UtfJoins.f
  exact l0_all l n (by omega) hL.2.2 l.length 0 (⟨#[]⟩ : ByteArray) false (by omega) (by omega) (by decide) (fun t => rfl) (by simp)
end Go.Proofs.Ytekkkohncfmmfaa.Pure
