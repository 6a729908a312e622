/- utf8.Valid of a row of bytes: the words and the plain facts of its walk. No conditions. -/
import Derived.Test.YtekkkohncfmmfaaDoorPAx
import Derived.Test.YtekkkohncfmmfaaDoorRune
import Derived.Lib.ValidAsc
import Derived.Lib.EndianBits
import Derived.Laws.BitsAllLaws
import Derived.Shelf.Unicode.DecodeSlow
namespace Go.Proofs.YtekkkohncfmmfaaDoor.PA
open Go.Proofs.YtekkkohncfmmfaaDoor.Rune Go.RowKit Go.Proofs.YtekkkohncfmmfaaDoorW.PrintWords Go.Proofs.YtekkkohncfmmfaaDoorW.PrintLast Go.Proofs.YtekkkohncfmmfaaDoorW.PrintMore
set_option linter.unusedVariables false
set_option linter.unusedSimpArgs false
theorem infoE : (Tryd.prog.info? 5).map (fun i => (i.zero, i.size, i.bytes)) = some (some (.int .u8 0), 1, 1) := by kernel_rfl
theorem infoS : ∃ i, Tryd.prog.info? 5 = some i ∧ i.size = 1 := by
  obtain ⟨i, hi, _, hs, _⟩ := info_parts infoE
  exact ⟨i, hi, hs⟩
/-- What is left of a row of bytes, and where it lies. -/
structure Rem (w : World) (A : Option Addr) (n c : Nat) (t : ByteArray) : Prop where
  cs : Kd.C (Kd.int .u8) w A n (bytesOf t)
  sz : t.size = n
  le : n ≤ c
def V (t : ByteArray) : Bool := Lib.validD t.data.toList
def Wd (t : ByteArray) : Nat := Lib.leNat [t.get! 0, t.get! 1, t.get! 2, t.get! 3, t.get! 4, t.get! 5, t.get! 6, t.get! 7]
section
variable {w w1 : World} {A : Option Addr} {n c : Nat} {t : ByteArray} {B : Nat}
theorem Rem.below (h : Rem w A n c t) (hb : Below w.heap.size w w1) : Rem w1 A n c t := ⟨Kd.C_below h.cs hb, h.sz, h.le⟩
theorem Rem.at_ (h : Rem w A n c t) (i : Nat) (hi : i < n) : ∃ ad, A = some ad ∧ w.cell? (ad.add i) = some (.int .u8 ((t.get! i).toNat : Int)) := by
  have h2 : (i : Int) < ((n : Nat) : Int) := by omega
  obtain ⟨ad, e, hc⟩ := Kd.at_int h.cs (i : Int) (by omega) h2
  refine ⟨ad, e, ?_⟩
  rw [rd_bytesOf, ← get_bt t i (by have := h.sz; omega)] at hc
  simpa using hc
theorem bytes_drop (t : ByteArray) (k : Nat) : (bytesOf t).drop k = bytesOf (t.extract k t.size) := by
  unfold bytesOf
  rw [Lib.ext_list, List.map_drop]
theorem Rem.drop (h : Rem w A n c t) (k : Nat) (hk : k ≤ n) (kz : Int) (hkz : kz = (k : Int)) : ∃ A', (∀ W : World, (Instr.slice 22 (.slice A n c) (some (.int .i64 kz)) none none).run Tryd.prog W = .ok (.slice A' (n - k) (c - k)) W) ∧ (∀ w2 : World, Rem w2 A n c t → Rem w2 A' (n - k) (c - k) (t.extract k t.size)) := by
  subst hkz
  obtain ⟨i, hi, hs⟩ := infoS
  obtain ⟨A', h1, h2⟩ := print_cut (P := Tryd.prog) 22 5 .i64 Tryd.underlying22 hi hs A n c k hk
  refine ⟨A', h1, fun w2 g => ⟨?_, by rw [Lib.ext_size, g.sz], by have := g.le; omega⟩⟩
  have h3 := h2 w2 .u8 (bytesOf t) g.le (Kd.reads_of_C g.cs)
  rw [bytes_drop] at h3
  exact Kd.C_of_reads (d := (0 : Int)) (h1 := fun _ => rfl) h3
end
theorem bt_get (t : ByteArray) (i : Nat) (h : i < t.size) : bt t (i : Int) = ((t.get! i).toNat : Int) := (get_bt t i h).symm
theorem word_f (t : ByteArray) (h : 8 ≤ t.size) : utf8_word_byte.f (bytesOf t) = some (Wd t : Int) := by
  unfold utf8_word_byte.f
  simp only [rd_bytesOf, bytesOf_length]
  rw [if_pos (by omega), if_pos (by omega), if_pos (by omega), if_pos (by omega), if_pos (by omega), if_pos (by omega), if_pos (by omega), if_pos (by omega)]
  have e0 := bt_get t 0 (by omega)
  have e1 := bt_get t 1 (by omega)
  have e2 := bt_get t 2 (by omega)
  have e3 := bt_get t 3 (by omega)
  have e4 := bt_get t 4 (by omega)
  have e5 := bt_get t 5 (by omega)
  have e6 := bt_get t 6 (by omega)
  have e7 := bt_get t 7 (by omega)
  unfold Wd
  rw [show bt t 0 = _ from e0, show bt t 1 = _ from e1, show bt t 2 = _ from e2, show bt t 3 = _ from e3, show bt t 4 = _ from e4, show bt t 5 = _ from e5, show bt t 6 = _ from e6, show bt t 7 = _ from e7]
  have l0 := (t.get! 0).toNat_lt
  have l1 := (t.get! 1).toNat_lt
  have l2 := (t.get! 2).toNat_lt
  have l3 := (t.get! 3).toNat_lt
  have l4 := (t.get! 4).toNat_lt
  have l5 := (t.get! 5).toNat_lt
  have l6 := (t.get! 6).toNat_lt
  have l7 := (t.get! 7).toNat_lt
  generalize t.get! 0 = x0 at l0 ⊢
  generalize t.get! 1 = x1 at l1 ⊢
  generalize t.get! 2 = x2 at l2 ⊢
  generalize t.get! 3 = x3 at l3 ⊢
  generalize t.get! 4 = x4 at l4 ⊢
  generalize t.get! 5 = x5 at l5 ⊢
  generalize t.get! 6 = x6 at l6 ⊢
  generalize t.get! 7 = x7 at l7 ⊢
  have hv : ((Lib.leNat [x0, x1, x2, x3, x4, x5, x6, x7] : Nat) : Int) = (x0.toNat : Int) + (x1.toNat : Int) * 256 + (x2.toNat : Int) * 65536 + (x3.toNat : Int) * 16777216 + (x4.toNat : Int) * 4294967296 + (x5.toNat : Int) * 1099511627776 + (x6.toNat : Int) * 281474976710656 + (x7.toNat : Int) * 72057594037927936 := by
    simp only [Lib.leNat]
    omega
  rw [hv]
  simp (disch := omega) only [u64_wrap_id, u64_or8, u64_or16, u64_or24, u64_or32, u64_or40, u64_or48, u64_or56]
theorem word_at {W : World} {A : Option Addr} {n c : Nat} {t : ByteArray} (h : Rem W A n c t) (h8 : 8 ≤ n) (a : Nat) (ha : Wd t = a) : Calls Tryd.prog 23 #[.slice A n c] W fun e w' => e = .returned (.int .u64 (a : Int)) ∧ Drawn0 W w' := by
  have e : (bytesOf t).length = n := by rw [bytesOf_length, h.sz]
  have hc := h.cs
  have hl := h.le
  rw [← e] at hc hl ⊢
  exact utf8_word_byte.calls A c (bytesOf t) (a : Int) W hc hl (by rw [word_f t (by have := h.sz; omega), ha])
theorem Wd_lt (t : ByteArray) : Wd t < 18446744073709551616 := Lib.word_lt t
/-- The test of one word, of two, of four: what it is, and what it tells. -/
theorem test1 (t : ByteArray) (h : 8 ≤ t.size) (a z : Nat) (ha : Wd t = a) (hz : a &&& 9259542123273814144 = z) : Go.bits .and .u64 (a : Int) 9259542123273814144 = (z : Int) ∧ (z = 0 → Lib.Asc t 8) := by
  have l := Wd_lt t
  have k := Lib.word_asc t h
  unfold Wd at ha l
  rw [ha] at k l
  rw [hz] at k
  exact ⟨by rw [← hz]; exact u64_and_nat a 9259542123273814144 l (by omega), k.1⟩
theorem or_at {a b z : Nat} (la : a < 18446744073709551616) (lb : b < 18446744073709551616) (hz : a ||| b = z) : Go.bits .or .u64 (a : Int) (b : Int) = (z : Int) ∧ z < 18446744073709551616 := by
  subst hz
  exact ⟨u64_or_nat a b la lb, Nat.or_lt_two_pow (n := 64) la lb⟩
theorem and_at {a z : Nat} (la : a < 18446744073709551616) (hz : a &&& 9259542123273814144 = z) : Go.bits .and .u64 (a : Int) 9259542123273814144 = (z : Int) := by
  subst hz
  exact u64_and_nat a 9259542123273814144 la (by omega)
theorem asc_of (t : ByteArray) (h : 8 ≤ t.size) (hz : Wd t &&& 9259542123273814144 = 0) : Lib.Asc t 8 := (Lib.word_asc t h).1 hz
theorem asc16 (t : ByteArray) (h : 16 < t.size) (hz : (Wd t ||| Wd (t.extract 8 t.size)) &&& 9259542123273814144 = 0) : Lib.Asc t 16 := by
  obtain ⟨e1, e2⟩ := (Lib.or_mask _ _ _).1 hz
  exact Lib.asc_add t 8 8 (asc_of t (by omega) e1) (asc_of _ (by rw [Lib.ext_size]; omega) e2)
theorem asc32 (t : ByteArray) (h : 32 < t.size) (hz : ((Wd t ||| Wd (t.extract 8 t.size)) ||| (Wd (t.extract 16 t.size) ||| Wd (t.extract 24 t.size))) &&& 9259542123273814144 = 0) : Lib.Asc t 32 := by
  obtain ⟨e1, e2⟩ := (Lib.or_mask _ _ _).1 hz
  obtain ⟨e3, e4⟩ := (Lib.or_mask _ _ _).1 e2
  have h16 := asc16 t (by omega) e1
  have h24 := Lib.asc_add t 16 8 h16 (asc_of _ (by rw [Lib.ext_size]; omega) e3)
  exact Lib.asc_add t 24 8 h24 (asc_of _ (by rw [Lib.ext_size]; omega) e4)
theorem V_skip {t : ByteArray} {k : Nat} (h : Lib.Asc t k) : V (t.extract k t.size) = V t := Lib.valid_skip t k h
theorem V_one {t : ByteArray} (h0 : 0 < t.size) (h : (t.get! 0).toNat < 128) : V (t.extract 1 t.size) = V t := V_skip (Lib.asc_one t h0 h)
theorem V_nil {t : ByteArray} (h : t.size = 0) : V t = true := by
  unfold V
  rw [List.eq_nil_of_length_eq_zero (l := t.data.toList) (by rw [← Lib.size_eq]; exact h)]
  rfl
theorem V_lead {t : ByteArray} (h0 : 0 < t.size) (h : 128 ≤ (t.get! 0).toNat) : V t = match Lib.checkN t.size (t.get! 1).toNat (t.get! 2).toNat (t.get! 3).toNat (Lib.firstT (t.get! 0).toNat % 8) (Lib.accLo (Lib.firstT (t.get! 0).toNat / 16)) (Lib.accHi (Lib.firstT (t.get! 0).toNat / 16)) with
    | none => false
    | some k => V (t.extract k t.size) := by
  have hne : t.data.toList ≠ [] := fun e => by rw [Lib.size_eq, e] at h0; simp at h0
  have hl := Lib.validD_lead t.data.toList hne (by rw [Lib.getD_get!']; exact h)
  simp only [Lib.getD_get!', ← Lib.size_eq] at hl
  unfold V
  generalize Lib.checkN _ _ _ _ _ _ _ = o at hl ⊢
  rw [hl]
  cases o with
  | none => rfl
  | some k => simp only [Lib.ext_list]
theorem and7 : ∀ X : Fin 256, Go.bits .and .u8 ((X.val : Nat) : Int) 7 = ((X.val % 8 : Nat) : Int) := by decide +kernel
theorem firstT_lt (b : Nat) : Lib.firstT b < 256 := by rcases Lib.firstT_cases b with h | h | h | h | h | h | h | h | h <;> omega
end Go.Proofs.YtekkkohncfmmfaaDoor.PA
