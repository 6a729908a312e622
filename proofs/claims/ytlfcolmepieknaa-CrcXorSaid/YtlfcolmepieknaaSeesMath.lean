/- A step of the sum loses nothing: from unlike sums, or unlike bytes, come unlike sums. No conditions. -/
import Derived.Test.YtlfcolmepieknaaMath
namespace Go.Proofs.Ytlfcolmepieknaa.Mat
open Go.RowKit

theorem lsb_01 (v : BitVec 32) : (v &&& 1#32).toNat = v.toNat % 2 := by rw [BitVec.toNat_and]; exact Nat.and_one_is_mod _
theorem top_bit (v : BitVec 32) : (stp v).getLsbD 31 = decide (v &&& 1#32 = 1#32) := by
  rw [stp_if]
  have hs : (v >>> 1).getLsbD 31 = false := by
    rw [BitVec.getLsbD_ushiftRight]
    exact BitVec.getLsbD_of_ge _ _ (by omega)
  by_cases h : v &&& 1#32 = 1#32
  · rw [if_pos h, BitVec.getLsbD_xor, hs, decide_eq_true h]
    decide
  · rw [if_neg h, hs, decide_eq_false h]
theorem stp_inj {a b : BitVec 32} (h : stp a = stp b) : a = b := by
  have ht : decide (a &&& 1#32 = 1#32) = decide (b &&& 1#32 = 1#32) := by rw [← top_bit, ← top_bit, h]
  rw [decide_eq_decide] at ht
  have hp : a >>> 1 = b >>> 1 := by
    rw [stp_if, stp_if] at h
    by_cases ha : a &&& 1#32 = 1#32
    · rw [if_pos ha, if_pos (ht.1 ha)] at h
      exact (BitVec.xor_left_inj _).1 h
    · rw [if_neg ha, if_neg (fun hb => ha (ht.2 hb))] at h
      exact h
  have h1 : (a >>> 1).toNat = (b >>> 1).toNat := by rw [hp]
  rw [BitVec.toNat_ushiftRight, BitVec.toNat_ushiftRight, Nat.shiftRight_eq_div_pow, Nat.shiftRight_eq_div_pow] at h1
  have h2 : a.toNat % 2 = 1 ↔ b.toNat % 2 = 1 := by
    rw [← lsb_01, ← lsb_01]
    constructor
    · intro h
      rw [ht.1 (BitVec.eq_of_toNat_eq h)]
      rfl
    · intro h
      rw [ht.2 (BitVec.eq_of_toNat_eq h)]
      rfl
  exact BitVec.eq_of_toNat_eq (by omega)
theorem stps_inj : ∀ (n : Nat) {a b : BitVec 32}, stps n a = stps n b → a = b
  | 0, _, _, h => h
  | n + 1, _, _, h => stp_inj (stps_inj n h)
theorem byt_inj {a b : BitVec 32} {c : Int} (h : byt a c = byt b c) : a = b := (BitVec.xor_left_inj _).1 (stps_inj 8 h)
theorem run_inj (l : List Int) : ∀ {a b : BitVec 32}, run a l = run b l → a = b := by
  induction l with
  | nil => intro a b h; exact h
  | cons c l ih => intro a b h; exact byt_inj (ih h)
theorem byt_other {a : BitVec 32} {c d : Int} (hc : 0 ≤ c) (hc2 : c ≤ 255) (hd : 0 ≤ d) (hd2 : d ≤ 255) (h : byt a c = byt a d) : c = d := by
  have h1 : BitVec.ofInt 32 c = BitVec.ofInt 32 d := by
    have := stps_inj 8 h
    rw [BitVec.xor_comm a, BitVec.xor_comm a] at this
    exact (BitVec.xor_left_inj _).1 this
  have h2 : ((BitVec.ofInt 32 c).toNat : Int) = ((BitVec.ofInt 32 d).toNat : Int) := by rw [h1]
  rw [← byte_bv, ← byte_bv] at h2
  omega
theorem crc_other (s : BitVec 32) (p : List Int) (k : Nat) (hk : k < p.length) (d : Int) (hp : 0 ≤ p[k] ∧ p[k] ≤ 255) (hd : 0 ≤ d ∧ d ≤ 255) (hne : p[k] ≠ d) : crc s p ≠ crc s (p.set k d) := by
  intro h
  have h1 : run (~~~ s) p = run (~~~ s) (p.set k d) := by
    have := congrArg (fun x => ~~~ x) h
    simpa [crc] using this
  rw [List.set_eq_take_append_cons_drop, if_pos hk] at h1
  have hsplit : p = p.take k ++ p[k] :: p.drop (k + 1) := by
    conv => lhs; rw [← List.take_append_drop k p, List.drop_eq_getElem_cons hk]
  have hl : run (~~~ s) p = run (run (~~~ s) (p.take k)) (p[k] :: p.drop (k + 1)) := by rw [← run_append, ← hsplit]
  rw [hl, run_append] at h1
  exact hne (byt_other hp.1 hp.2 hd.1 hd.2 (run_inj _ h1))
end Go.Proofs.Ytlfcolmepieknaa.Mat
