/- The document's rune at the beginning of bytes is what Go's own decoding tells; bytes cut off ahead change nothing. No conditions. -/
import Derived.Test.YtekkkohncfmmfaaDoorPAx2
import Derived.Test.YtekkkohncfmmfaaDoorAid
import Derived.Laws.BitsAllLaws
import Derived.Laws.RangeAny
import Derived.IntWalk
namespace Go.Proofs.YtekkkohncfmmfaaDoor.Rune
open Go.RowKit Go.Proofs.YtekkkohncfmmfaaDoor.PA Go.Proofs.YtekkkohncfmmfaaDoorW.PrintWords Go.Proofs.YtekkkohncfmmfaaDoorW.PrintLast Go.Proofs.YtekkkohncfmmfaaDoorAid
set_option linter.unusedVariables false
set_option linter.unusedSimpArgs false

theorem bt_nat (s : ByteArray) (i : Nat) (h : i < s.size) : bt s (i : Int) = ((s[i]'h).toNat : Int) := by
  unfold bt
  rw [dif_pos (by simpa using h)]
  rfl
theorem get_bt (s : ByteArray) (i : Nat) (h : i < s.size) : ((s.get! i).toNat : Int) = bt s (i : Int) := by
  have := get_at s i h
  rw [Nat.add_zero] at this
  rw [bt_nat s i h, this]
theorem get_extract (s : ByteArray) (i k : Nat) (h : i + k < s.size) : (s.extract i s.size).get! (0 + k) = s.get! (i + k) := by
  have hs : (s.extract i s.size).size = s.size - i := by rw [ByteArray.size_extract]; omega
  have h1 : k < (s.extract i s.size).size := by omega
  have h2 := get_at (s.extract i s.size) k h1
  rw [Nat.add_zero] at h2
  have h3 := get_at s (i + k) h
  rw [Nat.add_zero] at h3
  rw [Nat.zero_add, h2, h3, ByteArray.getElem_extract]
theorem decode_cut (s : ByteArray) (i : Nat) (h : i < s.size) : Utf8.decode (s.extract i s.size) 0 = Utf8.decode s i := by
  have hs : (s.extract i s.size).size = s.size - i := by rw [ByteArray.size_extract]; omega
  have h0 := get_extract s i 0 (by omega)
  have hc : ∀ k, (decide (0 + k < (s.extract i s.size).size) && ((s.extract i s.size).get! (0 + k)).toNat / 64 == 2) = (decide (i + k < s.size) && (s.get! (i + k)).toNat / 64 == 2) := by
    intro k
    by_cases hk : i + k < s.size
    · rw [get_extract s i k hk, decide_eq_true (by omega : 0 + k < (s.extract i s.size).size), decide_eq_true hk]
    · rw [decide_eq_false (by omega : ¬ 0 + k < (s.extract i s.size).size), decide_eq_false hk]
      rfl
  have hg : ∀ k, (decide (i + k < s.size) && (s.get! (i + k)).toNat / 64 == 2) = true → (s.extract i s.size).get! (0 + k) = s.get! (i + k) := by
    intro k hk
    simp only [Bool.and_eq_true, decide_eq_true_eq] at hk
    exact get_extract s i k hk.1
  unfold Utf8.decode
  simp only [h0, hc]
  by_cases b0 : (s.get! (i + 0)).toNat < 0x80
  · rw [if_pos b0, if_pos b0]
  rw [if_neg b0, if_neg b0]
  cases hb1 : (decide (i + 1 < s.size) && (s.get! (i + 1)).toNat / 64 == 2)
  · simp only [Bool.and_false, Bool.false_and, Bool.false_eq_true, if_false]
  rw [hg 1 hb1]
  cases hb2 : (decide (i + 2 < s.size) && (s.get! (i + 2)).toNat / 64 == 2)
  · simp only [Bool.and_false, Bool.false_and, Bool.and_true, Bool.false_eq_true, if_false]
  rw [hg 2 hb2]
  cases hb3 : (decide (i + 3 < s.size) && (s.get! (i + 3)).toNat / 64 == 2)
  · simp only [Bool.and_false, Bool.false_and, Bool.and_true, Bool.false_eq_true, if_false]
  rw [hg 3 hb3]

theorem and63 (b : Int) (h : 0 ≤ b ∧ b ≤ 255) : Go.bits .and .u8 b 63 = b % 64 := by
  obtain ⟨n, rfl⟩ := Int.eq_ofNat_of_zero_le h.1
  have e := u8_and_nat n 63 (by omega) (by omega)
  rw [show ((63 : Nat) : Int) = 63 from rfl] at e
  rw [e, show (63 : Nat) = 2 ^ 6 - 1 from rfl, Nat.and_two_pow_sub_one_eq_mod]
  omega
theorem and31 (b : Int) (h : 0 ≤ b ∧ b ≤ 255) : Go.bits .and .u8 b 31 = b % 32 := by
  obtain ⟨n, rfl⟩ := Int.eq_ofNat_of_zero_le h.1
  have e := u8_and_nat n 31 (by omega) (by omega)
  rw [show ((31 : Nat) : Int) = 31 from rfl] at e
  rw [e, show (31 : Nat) = 2 ^ 5 - 1 from rfl, Nat.and_two_pow_sub_one_eq_mod]
  omega
theorem and15 (b : Int) (h : 0 ≤ b ∧ b ≤ 255) : Go.bits .and .u8 b 15 = b % 16 := by
  obtain ⟨n, rfl⟩ := Int.eq_ofNat_of_zero_le h.1
  have e := u8_and_nat n 15 (by omega) (by omega)
  rw [show ((15 : Nat) : Int) = 15 from rfl] at e
  rw [e, show (15 : Nat) = 2 ^ 4 - 1 from rfl, Nat.and_two_pow_sub_one_eq_mod]
  omega
theorem and7 (b : Int) (h : 0 ≤ b ∧ b ≤ 255) : Go.bits .and .u8 b 7 = b % 8 := by
  obtain ⟨n, rfl⟩ := Int.eq_ofNat_of_zero_le h.1
  have e := u8_and_nat n 7 (by omega) (by omega)
  rw [show ((7 : Nat) : Int) = 7 from rfl] at e
  rw [e, show (7 : Nat) = 2 ^ 3 - 1 from rfl, Nat.and_two_pow_sub_one_eq_mod]
  omega
theorem cont_nat : ∀ n : Fin 256, (n.val &&& 192 = 128) = (n.val / 64 = 2) := by decide +kernel
theorem and192 (b : Int) (h : 0 ≤ b ∧ b ≤ 255) : (Go.bits .and .u8 b 192 = 128) = (b / 64 = 2) := by
  obtain ⟨n, rfl⟩ := Int.eq_ofNat_of_zero_le h.1
  have hn : n < 256 := by omega
  have e := u8_and_nat n 192 hn (by omega)
  rw [show ((192 : Nat) : Int) = 192 from rfl] at e
  rw [e]
  have hc := cont_nat ⟨n, hn⟩
  simp only at hc
  have h1 : (((n &&& 192 : Nat) : Int) = 128) = (n &&& 192 = 128) := by apply propext; omega
  have h2 : ((n : Int) / 64 = 2) = (n / 64 = 2) := by apply propext; omega
  rw [h1, h2, hc]
theorem or6 (v b : Int) (hv : 0 ≤ v ∧ v < 33554432) (h : 0 ≤ b ∧ b ≤ 255) : Go.bits .or .i32 (wrap32 (v * 64)) (wrap32 (Go.bits .and .u8 b 63)) = v * 64 + b % 64 := by
  rw [and63 b h]
  obtain ⟨V, rfl⟩ := Int.eq_ofNat_of_zero_le hv.1
  obtain ⟨n, rfl⟩ := Int.eq_ofNat_of_zero_le h.1
  have e1 : wrap32 ((V : Int) * 64) = ((V * 64 : Nat) : Int) := by unfold wrap32; omega
  have e2 : wrap32 ((n : Int) % 64) = ((n % 64 : Nat) : Int) := by unfold wrap32; omega
  rw [e1, e2]
  show IntKind.i32.wrap ((BitVec.ofInt 32 ((V * 64 : Nat) : Int) ||| BitVec.ofInt 32 ((n % 64 : Nat) : Int)).toNat : Int) = _
  have h3 : (V * 64) ||| (n % 64) = V * 64 + n % 64 := by
    have := Nat.two_pow_add_eq_or_of_lt (i := 6) (b := n % 64) (by omega) V
    rw [Nat.mul_comm, ← this, Nat.mul_comm]
  have e3 : (BitVec.ofInt 32 ((V * 64 : Nat) : Int) ||| BitVec.ofInt 32 ((n % 64 : Nat) : Int)).toNat = V * 64 + n % 64 := by
    rw [BitVec.toNat_or, BitVec.ofInt_natCast, BitVec.ofInt_natCast, BitVec.toNat_ofNat, BitVec.toNat_ofNat, Nat.mod_eq_of_lt (by omega), Nat.mod_eq_of_lt (by omega), h3]
  rw [e3, IntWalk.i32_in _ (by omega)]
  omega
def bad (n v : Int) : Prop := (n = 3 ∧ v < 2048) ∨ (n = 4 ∧ v < 65536) ∨ v > 1114111 ∨ (v ≥ 55296 ∧ v ≤ 57343)
theorem l0_end (s : ByteArray) (n v : Int) (hn : n = 2 ∨ n = 3 ∨ n = 4) : (¬ bad n v → Ev (fun k => rubricatorref7_Rune.l0 k s n v n) (v, n, true)) ∧ (bad n v → Ev (fun k => rubricatorref7_Rune.l0 k s n v n) (65533, 1, false)) := by
  unfold bad
  constructor
  · intro hb
    refine ev_succ ?_
    simp only [rubricatorref7_Rune.l0]
    refine ev_else (by omega) ?_
    by_cases h3 : n = 3 <;> by_cases h4 : n = 4 <;> by_cases hs : v ≥ 55296
    all_goals (first | (exfalso; omega) | ((repeat (first | (refine ev_if (by omega) ?_) | (refine ev_else (by omega) ?_))); exact Ev.now _))
  · intro hb
    refine ev_succ ?_
    simp only [rubricatorref7_Rune.l0]
    refine ev_else (by omega) ?_
    by_cases h3 : n = 3 <;> by_cases h4 : n = 4 <;> by_cases hs : v ≥ 55296 <;> by_cases h5 : v > 1114111 <;> by_cases h6 : v < 2048 <;> by_cases h7 : v < 65536
    all_goals (first | (exfalso; omega) | ((repeat (first | (refine ev_if (by omega) ?_) | (refine ev_else (by omega) ?_))); exact Ev.now _))
theorem l0_step (s : ByteArray) (n v : Int) (i : Nat) (hi : (i : Int) < n) (hs : i < s.size) (hv : 0 ≤ v ∧ v < 33554432) (r : Int × Int × Bool) (hn : n ≤ 4) :
    (bt s i / 64 = 2 → Ev (fun k => rubricatorref7_Rune.l0 k s n (v * 64 + bt s i % 64) ((i + 1 : Nat) : Int)) r → Ev (fun k => rubricatorref7_Rune.l0 k s n v (i : Int)) r) ∧
    (¬ bt s i / 64 = 2 → Ev (fun k => rubricatorref7_Rune.l0 k s n v (i : Int)) (65533, 1, false)) := by
  have hr := bt_range s i
  have e192 := and192 (bt s i) hr
  constructor
  · intro h2 h
    refine ev_succ ?_
    simp only [rubricatorref7_Rune.l0]
    refine ev_if (by omega) (ev_if (by omega) (ev_if (by omega) (ev_if (by rw [e192]; exact h2) ?_)))
    rw [or6 v _ hv hr]
    have ew : wrap64 ((i : Int) + 1) = ((i + 1 : Nat) : Int) := by unfold wrap64; omega
    rw [ew]
    exact h
  · intro h2
    refine ev_succ ?_
    simp only [rubricatorref7_Rune.l0]
    exact ev_if (by omega) (ev_if (by omega) (ev_if (by omega) (ev_else (by rw [e192]; exact h2) (Ev.now _))))
/-- The document's rune, as a plain value. -/
def rune (s : ByteArray) (i : Nat) : Int × Int × Bool := (((Utf8.decode s i).1 : Int), ((Utf8.decode s i).2 : Int), decide (Utf8.decode s i ≠ (65533, 1)))
theorem w32b (b : Int) (h : 0 ≤ b ∧ b ≤ 255) : wrap32 b = b := by unfold wrap32; omega
theorem j2_short (s : ByteArray) (n v : Int) (h : (s.size : Int) < n) : Ev (fun k => rubricatorref7_Rune.j2 k s n v) (65533, 1, false) := by
  refine ev_succ ?_
  simp only [rubricatorref7_Rune.j2]
  exact ev_if h (Ev.now _)
theorem j2_long (s : ByteArray) (n v : Int) (r : Int × Int × Bool) (h : ¬ (s.size : Int) < n) (e : Ev (fun k => rubricatorref7_Rune.l0 k s n v 1) r) : Ev (fun k => rubricatorref7_Rune.j2 k s n v) r := by
  refine ev_succ ?_
  simp only [rubricatorref7_Rune.j2]
  exact ev_else h e
theorem valid_nat (c : Nat) : Utf8.valid (c : Int) = decide (¬ (c > 1114111 ∨ (c ≥ 55296 ∧ c ≤ 57343))) := by
  unfold Utf8.valid
  rw [Bool.eq_iff_iff]
  simp only [Bool.or_eq_true, Bool.and_eq_true, decide_eq_true_eq]
  omega
theorem rune_two (s : ByteArray) (b0 : Nat) (h0 : ((s.get! 0).toNat) = b0) (hs : 0 < s.size) (hr : 194 ≤ b0 ∧ b0 < 224) : Ev (fun k => rubricatorref7_Rune.j2 k s 2 ((b0 : Int) % 32)) (rune s 0) := by
  by_cases hz : s.size < 2
  · have e : Utf8.decode s 0 = (65533, 1) := by
      unfold Utf8.decode
      simp only [Nat.add_zero, h0, Utf8.runeError]
      have n1 : decide (0 + 1 < s.size) = false := by simp; omega
      rw [if_neg (by omega), n1]
      simp
    unfold rune
    rw [e]
    exact j2_short s 2 _ (by omega)
  refine j2_long s 2 _ _ (by omega) ?_
  have hb1 := get_bt s 1 (by omega)
  have hr1 := bt_range s 1
  obtain ⟨b1, hb⟩ : ∃ b1 : Nat, (s.get! 1).toNat = b1 := ⟨_, rfl⟩
  rw [hb] at hb1
  have n1 : decide (0 + 1 < s.size) = true := by simp; omega
  have hd : Utf8.decode s 0 = if b1 / 64 = 2 then (b0 % 32 * 64 + b1 % 64, 2) else (65533, 1) := by
    unfold Utf8.decode
    simp only [Nat.add_zero, h0, Utf8.runeError, n1, Nat.zero_add, hb, Bool.true_and]
    rw [if_neg (by omega)]
    have e6 : (b0 / 32 == 6) = true := by rw [beq_iff_eq]; omega
    rw [e6, Bool.true_and]
    by_cases hc : b1 / 64 = 2
    · rw [if_pos (by rw [beq_iff_eq]; exact hc), if_pos (by omega), if_pos hc]
    · have e7 : (b1 / 64 == 2) = false := by rw [beq_eq_false_iff_ne]; exact hc
      have e8 : (b0 / 16 == 14) = false := by rw [beq_eq_false_iff_ne]; omega
      have e9 : (b0 / 8 == 30) = false := by rw [beq_eq_false_iff_ne]; omega
      rw [e7, e8, e9, if_neg hc]
      rfl
  by_cases hc : b1 / 64 = 2
  · rw [if_pos hc] at hd
    have hst := l0_step s 2 ((b0 : Int) % 32) 1 (by omega) (by omega) (by omega) (rune s 0) (by omega)
    refine hst.1 (by rw [← hb1]; omega) ?_
    rw [← hb1]
    have he := (l0_end s 2 (((b0 : Int) % 32) * 64 + (b1 : Int) % 64) (.inl rfl)).1 (by unfold bad; omega)
    unfold rune
    rw [hd, decide_eq_true (by intro h; have := congrArg Prod.snd h; simp at this)]
    refine ev_is ?_ he
    simp
  · rw [if_neg hc] at hd
    have hst := l0_step s 2 ((b0 : Int) % 32) 1 (by omega) (by omega) (by omega) (rune s 0) (by omega)
    unfold rune
    rw [hd]
    exact hst.2 (by rw [← hb1]; omega)
theorem rune_three (s : ByteArray) (b0 : Nat) (h0 : ((s.get! 0).toNat) = b0) (hs : 0 < s.size) (hr : 224 ≤ b0 ∧ b0 < 240) : Ev (fun k => rubricatorref7_Rune.j2 k s 3 ((b0 : Int) % 16)) (rune s 0) := by
  have e6 : (b0 / 32 == 6) = false := by rw [beq_eq_false_iff_ne]; omega
  have e8 : (b0 / 16 == 14) = true := by rw [beq_iff_eq]; omega
  have e9 : (b0 / 8 == 30) = false := by rw [beq_eq_false_iff_ne]; omega
  have hd : Utf8.decode s 0 = if (decide (1 < s.size) && (s.get! 1).toNat / 64 == 2) && (decide (2 < s.size) && (s.get! 2).toNat / 64 == 2) then
      (if b0 % 16 * 4096 + (s.get! 1).toNat % 64 * 64 + (s.get! 2).toNat % 64 ≥ 0x800 && Utf8.valid ((b0 % 16 * 4096 + (s.get! 1).toNat % 64 * 64 + (s.get! 2).toNat % 64 : Nat) : Int) then (b0 % 16 * 4096 + (s.get! 1).toNat % 64 * 64 + (s.get! 2).toNat % 64, 3) else (65533, 1)) else (65533, 1) := by
    unfold Utf8.decode
    simp only [Nat.add_zero, h0, Utf8.runeError, Nat.zero_add, e6, e8, e9, Bool.true_and, Bool.false_and, Bool.false_eq_true, if_false]
    rw [if_neg (by omega)]
  have fail : Utf8.decode s 0 = (65533, 1) → rune s 0 = (65533, 1, false) := by intro h; unfold rune; rw [h]; rfl
  by_cases hz : s.size < 3
  · have n2 : decide (2 < s.size) = false := by simp; omega
    rw [n2, Bool.false_and, Bool.and_false, if_neg (by decide)] at hd
    exact ev_is (fail hd).symm (j2_short s 3 _ (by omega))
  refine j2_long s 3 _ _ (by omega) ?_
  obtain ⟨b1, hb⟩ : ∃ b1 : Nat, (s.get! 1).toNat = b1 := ⟨_, rfl⟩
  obtain ⟨b2, hc⟩ : ∃ b2 : Nat, (s.get! 2).toNat = b2 := ⟨_, rfl⟩
  have hb1 := get_bt s 1 (by omega)
  have hc1 := get_bt s 2 (by omega)
  have hr1 := bt_range s 1
  have hr2 := bt_range s 2
  rw [hb] at hb1
  rw [hc] at hc1
  have n1 : decide (1 < s.size) = true := by simp; omega
  have n2 : decide (2 < s.size) = true := by simp; omega
  rw [n1, n2, hb, hc, Bool.true_and, Bool.true_and] at hd
  have st1 := l0_step s 3 ((b0 : Int) % 16) 1 (by omega) (by omega) (by omega) (rune s 0) (by omega)
  by_cases c1 : b1 / 64 = 2
  · refine st1.1 (by rw [← hb1]; omega) ?_
    rw [← hb1]
    have st2 := l0_step s 3 ((b0 : Int) % 16 * 64 + (b1 : Int) % 64) 2 (by omega) (by omega) (by omega) (rune s 0) (by omega)
    have e1 : (b1 / 64 == 2) = true := by rw [beq_iff_eq]; exact c1
    rw [e1, Bool.true_and] at hd
    by_cases c2 : b2 / 64 = 2
    · refine st2.1 (by rw [← hc1]; omega) ?_
      rw [← hc1]
      rw [if_pos (by rw [beq_iff_eq]; exact c2), valid_nat] at hd
      have he := l0_end s 3 (((b0 : Int) % 16 * 64 + (b1 : Int) % 64) * 64 + (b2 : Int) % 64) (.inr (.inl rfl))
      by_cases hbad : bad 3 (((b0 : Int) % 16 * 64 + (b1 : Int) % 64) * 64 + (b2 : Int) % 64)
      · refine ev_is ?_ (he.2 hbad)
        symm
        refine fail (hd.trans (if_neg ?_))
        unfold bad at hbad
        simp only [Bool.and_eq_true, decide_eq_true_eq]
        omega
      · refine ev_is ?_ (he.1 hbad)
        unfold bad at hbad
        rw [if_pos (by simp only [Bool.and_eq_true, decide_eq_true_eq]; omega)] at hd
        unfold rune
        rw [hd, decide_eq_true (by intro h; have := congrArg Prod.snd h; simp at this)]
        refine Prod.ext ?_ rfl
        show _ = ((_ : Nat) : Int)
        omega
    · have e2 : (b2 / 64 == 2) = false := by rw [beq_eq_false_iff_ne]; exact c2
      rw [e2, if_neg (by decide)] at hd
      exact ev_is (fail hd).symm (st2.2 (by rw [← hc1]; omega))
  · have e1 : (b1 / 64 == 2) = false := by rw [beq_eq_false_iff_ne]; exact c1
    rw [e1, Bool.false_and, if_neg (by decide)] at hd
    exact ev_is (fail hd).symm (st1.2 (by rw [← hb1]; omega))
theorem rune_four (s : ByteArray) (b0 : Nat) (h0 : ((s.get! 0).toNat) = b0) (hs : 0 < s.size) (hr : 240 ≤ b0 ∧ b0 < 245) : Ev (fun k => rubricatorref7_Rune.j2 k s 4 ((b0 : Int) % 8)) (rune s 0) := by
  have e6 : (b0 / 32 == 6) = false := by rw [beq_eq_false_iff_ne]; omega
  have e8 : (b0 / 16 == 14) = false := by rw [beq_eq_false_iff_ne]; omega
  have e9 : (b0 / 8 == 30) = true := by rw [beq_iff_eq]; omega
  have hd : Utf8.decode s 0 = if (decide (1 < s.size) && (s.get! 1).toNat / 64 == 2) && (decide (2 < s.size) && (s.get! 2).toNat / 64 == 2) && (decide (3 < s.size) && (s.get! 3).toNat / 64 == 2) then
      (if b0 % 8 * 262144 + (s.get! 1).toNat % 64 * 4096 + (s.get! 2).toNat % 64 * 64 + (s.get! 3).toNat % 64 ≥ 0x10000 && Utf8.valid ((b0 % 8 * 262144 + (s.get! 1).toNat % 64 * 4096 + (s.get! 2).toNat % 64 * 64 + (s.get! 3).toNat % 64 : Nat) : Int) then
        (b0 % 8 * 262144 + (s.get! 1).toNat % 64 * 4096 + (s.get! 2).toNat % 64 * 64 + (s.get! 3).toNat % 64, 4) else (65533, 1)) else (65533, 1) := by
    unfold Utf8.decode
    simp only [Nat.add_zero, h0, Utf8.runeError, Nat.zero_add, e6, e8, e9, Bool.true_and, Bool.false_and, Bool.false_eq_true, if_false]
    rw [if_neg (by omega)]
  have fail : Utf8.decode s 0 = (65533, 1) → rune s 0 = (65533, 1, false) := by intro h; unfold rune; rw [h]; rfl
  by_cases hz : s.size < 4
  · have n3 : decide (3 < s.size) = false := by simp; omega
    rw [n3, Bool.false_and, Bool.and_false, if_neg (by decide)] at hd
    exact ev_is (fail hd).symm (j2_short s 4 _ (by omega))
  refine j2_long s 4 _ _ (by omega) ?_
  obtain ⟨b1, hb⟩ : ∃ b1 : Nat, (s.get! 1).toNat = b1 := ⟨_, rfl⟩
  obtain ⟨b2, hc⟩ : ∃ b2 : Nat, (s.get! 2).toNat = b2 := ⟨_, rfl⟩
  obtain ⟨b3, hq⟩ : ∃ b3 : Nat, (s.get! 3).toNat = b3 := ⟨_, rfl⟩
  have hb1 := get_bt s 1 (by omega)
  have hc1 := get_bt s 2 (by omega)
  have hq1 := get_bt s 3 (by omega)
  have hr1 := bt_range s 1
  have hr2 := bt_range s 2
  have hr3 := bt_range s 3
  rw [hb] at hb1
  rw [hc] at hc1
  rw [hq] at hq1
  have n1 : decide (1 < s.size) = true := by simp; omega
  have n2 : decide (2 < s.size) = true := by simp; omega
  have n3 : decide (3 < s.size) = true := by simp; omega
  rw [n1, n2, n3, hb, hc, hq, Bool.true_and, Bool.true_and, Bool.true_and] at hd
  have st1 := l0_step s 4 ((b0 : Int) % 8) 1 (by omega) (by omega) (by omega) (rune s 0) (by omega)
  by_cases c1 : b1 / 64 = 2
  · refine st1.1 (by rw [← hb1]; omega) ?_
    rw [← hb1]
    have st2 := l0_step s 4 ((b0 : Int) % 8 * 64 + (b1 : Int) % 64) 2 (by omega) (by omega) (by omega) (rune s 0) (by omega)
    have e1 : (b1 / 64 == 2) = true := by rw [beq_iff_eq]; exact c1
    rw [e1, Bool.true_and] at hd
    by_cases c2 : b2 / 64 = 2
    · refine st2.1 (by rw [← hc1]; omega) ?_
      rw [← hc1]
      have st3 := l0_step s 4 (((b0 : Int) % 8 * 64 + (b1 : Int) % 64) * 64 + (b2 : Int) % 64) 3 (by omega) (by omega) (by omega) (rune s 0) (by omega)
      have e2 : (b2 / 64 == 2) = true := by rw [beq_iff_eq]; exact c2
      rw [e2, Bool.true_and] at hd
      by_cases c3 : b3 / 64 = 2
      · refine st3.1 (by rw [← hq1]; omega) ?_
        rw [← hq1]
        rw [if_pos (by rw [beq_iff_eq]; exact c3), valid_nat] at hd
        have he := l0_end s 4 ((((b0 : Int) % 8 * 64 + (b1 : Int) % 64) * 64 + (b2 : Int) % 64) * 64 + (b3 : Int) % 64) (.inr (.inr rfl))
        by_cases hbad : bad 4 ((((b0 : Int) % 8 * 64 + (b1 : Int) % 64) * 64 + (b2 : Int) % 64) * 64 + (b3 : Int) % 64)
        · refine ev_is ?_ (he.2 hbad)
          symm
          refine fail (hd.trans (if_neg ?_))
          unfold bad at hbad
          simp only [Bool.and_eq_true, decide_eq_true_eq]
          omega
        · refine ev_is ?_ (he.1 hbad)
          unfold bad at hbad
          rw [if_pos (by simp only [Bool.and_eq_true, decide_eq_true_eq]; omega)] at hd
          unfold rune
          rw [hd, decide_eq_true (by intro h; have := congrArg Prod.snd h; simp at this)]
          refine Prod.ext ?_ rfl
          show _ = ((_ : Nat) : Int)
          omega
      · have e3 : (b3 / 64 == 2) = false := by rw [beq_eq_false_iff_ne]; exact c3
        rw [e3, if_neg (by decide)] at hd
        exact ev_is (fail hd).symm (st3.2 (by rw [← hq1]; omega))
    · have e2 : (b2 / 64 == 2) = false := by rw [beq_eq_false_iff_ne]; exact c2
      rw [e2, Bool.false_and, if_neg (by decide)] at hd
      exact ev_is (fail hd).symm (st2.2 (by rw [← hc1]; omega))
  · have e1 : (b1 / 64 == 2) = false := by rw [beq_eq_false_iff_ne]; exact c1
    rw [e1, Bool.false_and, Bool.false_and, if_neg (by decide)] at hd
    exact ev_is (fail hd).symm (st1.2 (by rw [← hb1]; omega))
theorem rune_none (s : ByteArray) (b0 : Nat) (h0 : ((s.get! 0).toNat) = b0) (hr : (128 ≤ b0 ∧ b0 < 194) ∨ 245 ≤ b0) (hb : b0 < 256) : rune s 0 = (65533, 1, false) := by
  have hd : Utf8.decode s 0 = (65533, 1) := by
    unfold Utf8.decode
    simp only [Nat.add_zero, h0, Utf8.runeError, Nat.zero_add]
    rw [if_neg (by omega)]
    have e8 : (b0 / 16 == 14) = false := by rw [beq_eq_false_iff_ne]; omega
    rw [e8]
    simp only [Bool.false_and, Bool.false_eq_true, if_false]
    by_cases h6 : b0 / 32 = 6
    · have e9 : (b0 / 8 == 30) = false := by rw [beq_eq_false_iff_ne]; omega
      rw [e9]
      simp only [Bool.false_and, Bool.false_eq_true, if_false]
      split
      · rw [if_neg (by omega)]
      · rfl
    · have e6 : (b0 / 32 == 6) = false := by rw [beq_eq_false_iff_ne]; exact h6
      rw [e6]
      simp only [Bool.false_and, Bool.false_eq_true, if_false]
      by_cases h8 : b0 / 8 = 30
      · split
        · rw [if_neg]
          intro h
          rw [valid_nat] at h
          simp only [Bool.and_eq_true, decide_eq_true_eq] at h
          omega
        · rfl
      · have e9 : (b0 / 8 == 30) = false := by rw [beq_eq_false_iff_ne]; exact h8
        rw [e9]
        simp only [Bool.false_and, Bool.false_eq_true, if_false]
  unfold rune
  rw [hd]
  rfl
theorem j1_ev (s : ByteArray) (b0 : Nat) (h0 : ((s.get! 0).toNat) = b0) (hs : 0 < s.size) (hb : 128 ≤ b0 ∧ b0 < 256) (hn : ¬ (194 ≤ b0 ∧ b0 < 224)) (v : Bool) (hv : v = decide (224 ≤ b0 ∧ b0 < 240)) :
    Ev (fun k => rubricatorref7_Rune.j1 k s b0 v) (rune s 0) := by
  refine ev_succ ?_
  simp only [rubricatorref7_Rune.j1]
  by_cases h3 : 224 ≤ b0 ∧ b0 < 240
  · refine ev_if (by rw [hv]; exact decide_eq_true h3) ?_
    rw [and15 (b0 : Int) (by omega), w32b _ (by omega)]
    exact rune_three s b0 h0 hs h3
  · refine ev_else (by rw [hv, decide_eq_true_eq]; exact h3) ?_
    by_cases h4 : 240 ≤ b0
    · refine ev_if (by omega) ?_
      by_cases h5 : b0 < 245
      · refine ev_if (by omega) ?_
        rw [and7 (b0 : Int) (by omega), w32b _ (by omega)]
        exact rune_four s b0 h0 hs ⟨h4, h5⟩
      · refine ev_else (by omega) ?_
        rw [rune_none s b0 h0 (by omega) (by omega)]
        exact Ev.now _
    · refine ev_else (by omega) ?_
      rw [rune_none s b0 h0 (by omega) (by omega)]
      exact Ev.now _
theorem j0_ev (s : ByteArray) (b0 : Nat) (h0 : ((s.get! 0).toNat) = b0) (hs : 0 < s.size) (hb : 128 ≤ b0 ∧ b0 < 256) (v : Bool) (hv : v = decide (194 ≤ b0 ∧ b0 < 224)) :
    Ev (fun k => rubricatorref7_Rune.j0 k s b0 v) (rune s 0) := by
  refine ev_succ ?_
  simp only [rubricatorref7_Rune.j0]
  by_cases h2 : 194 ≤ b0 ∧ b0 < 224
  · refine ev_if (by rw [hv]; exact decide_eq_true h2) ?_
    rw [and31 (b0 : Int) (by omega), w32b _ (by omega)]
    exact rune_two s b0 h0 hs h2
  · refine ev_else (by rw [hv, decide_eq_true_eq]; exact h2) ?_
    by_cases h3 : 224 ≤ b0
    · exact ev_if (by omega) (j1_ev s b0 h0 hs hb h2 _ (by rw [decide_eq_decide]; omega))
    · exact ev_else (by omega) (j1_ev s b0 h0 hs hb h2 _ (by symm; rw [decide_eq_false_iff_not]; omega))
theorem rune_small (s : ByteArray) (b0 : Nat) (h0 : ((s.get! 0).toNat) = b0) (hb : b0 < 128) : rune s 0 = ((b0 : Int), 1, true) := by
  have hd : Utf8.decode s 0 = (b0, 1) := by
    unfold Utf8.decode
    simp only [Nat.add_zero, h0]
    rw [if_pos (by omega)]
  unfold rune
  rw [hd, decide_eq_true (by intro h; have := congrArg Prod.fst h; simp at this; omega)]
  rfl
theorem rune_ev (s : ByteArray) (hs : 0 < s.size) : Ev (fun k => rubricatorref7_Rune.f k s) (rune s 0) := by
  obtain ⟨b0, h0⟩ : ∃ b0 : Nat, (s.get! 0).toNat = b0 := ⟨_, rfl⟩
  have hb0 := get_bt s 0 hs
  have hr := bt_range s 0
  rw [h0] at hb0
  have hb0' : bt s 0 = (b0 : Int) := hb0.symm
  have hlt : b0 < 256 := by
    rw [hb0'] at hr
    omega
  clear hr hb0
  unfold rubricatorref7_Rune.f
  refine ev_if (by omega) ?_
  rw [hb0']
  by_cases c0 : b0 < 128
  · refine ev_if (by omega) ?_
    rw [rune_small s b0 h0 c0, w32b _ (by omega)]
    exact Ev.now _
  refine ev_else (by omega) ?_
  by_cases h2 : 194 ≤ b0
  · exact ev_if (by omega) (j0_ev s b0 h0 hs (by omega) _ (by rw [decide_eq_decide]; omega))
  · exact ev_else (by omega) (j0_ev s b0 h0 hs (by omega) _ (by symm; rw [decide_eq_false_iff_not]; omega))
theorem rune_at (s : ByteArray) (i : Nat) (hi : i < s.size) : Ev (fun k => rubricatorref7_Rune.f k (s.extract i s.size)) (rune s i) := by
  have h := rune_ev (s.extract i s.size) (by rw [ByteArray.size_extract]; omega)
  unfold rune at h ⊢
  rwa [decode_cut s i hi] at h
end Go.Proofs.YtekkkohncfmmfaaDoor.Rune
