/- The sum is linear over xor: of three rows of one length and their xor. No conditions. -/
import Derived.Test.YtlfcolmepieknaaPAx1
import Derived.Test.YtlfcolmepieknaaPAx4
import Derived.Test.YtlfcolmepieknaaMath
import Derived.Test.YtlfcolmepieknaaSeesMath
import Derived.Test.YtlfcolmepieknaaAid
namespace Go.Proofs.Ytlfcolmepieknaa.Pure
set_option linter.unusedSimpArgs false
open Go.RowKit Go.Proofs.Ytlfcolmepieknaa.PA Go.Proofs.YtlfcolmepieknaaW.PrintWords Go.Proofs.YtlfcolmepieknaaW.PrintLast
open Go.Proofs.Ytlfcolmepieknaa.Mat Go.Proofs.YtlfcolmepieknaaAid
theorem xp (a b p : BitVec 32) : (a ^^^ p) ^^^ (b ^^^ p) = a ^^^ b := by
  rw [BitVec.xor_comm b p, ← BitVec.xor_assoc, BitVec.xor_assoc a p p, BitVec.xor_self, BitVec.xor_zero]
theorem and1 (a b : BitVec 32) : (a ^^^ b) &&& 1#32 = (a &&& 1#32) ^^^ (b &&& 1#32) := by
  apply BitVec.eq_of_getLsbD_eq
  intro i hi
  simp only [BitVec.getLsbD_and, BitVec.getLsbD_xor]
  cases a.getLsbD i <;> cases b.getLsbD i <;> cases (1#32).getLsbD i <;> rfl
theorem dich (a : BitVec 32) : a &&& 1#32 = 0#32 ∨ a &&& 1#32 = 1#32 := by
  have h := lsb_01 a
  have : a.toNat % 2 = 0 ∨ a.toNat % 2 = 1 := by omega
  rcases this with e | e
  · left
    apply BitVec.eq_of_toNat_eq
    rw [h, e]
    rfl
  · right
    apply BitVec.eq_of_toNat_eq
    rw [h, e]
    rfl
theorem stp_xor (a b : BitVec 32) : stp (a ^^^ b) = stp a ^^^ stp b := by
  rw [stp_if, stp_if a, stp_if b, and1, BitVec.ushiftRight_xor_distrib]
  have h00 : ((0#32 ^^^ 0#32 : BitVec 32) = 1#32) = False := by decide
  have h01 : ((0#32 ^^^ 1#32 : BitVec 32) = 1#32) = True := by decide
  have h10 : ((1#32 ^^^ 0#32 : BitVec 32) = 1#32) = True := by decide
  have h11 : ((1#32 ^^^ 1#32 : BitVec 32) = 1#32) = False := by decide
  have z1 : ((0#32 : BitVec 32) = 1#32) = False := by decide
  have o1 : ((1#32 : BitVec 32) = 1#32) = True := by decide
  rcases dich a with ha | ha <;> rcases dich b with hb | hb <;> rw [ha, hb]
  · simp only [h00, z1, if_false]
  · simp only [h01, z1, o1, if_false, if_true]
    ac_rfl
  · simp only [h10, z1, o1, if_false, if_true]
    ac_rfl
  · simp only [h11, o1, if_false, if_true]
    exact (xp _ _ _).symm
theorem stps_xor : ∀ (n : Nat) (a b : BitVec 32), stps n (a ^^^ b) = stps n a ^^^ stps n b
  | 0, _, _ => rfl
  | n + 1, a, b => by rw [stps, stps, stps, stp_xor, stps_xor n]
theorem byt_xor (a b : BitVec 32) (c d e : Int) (h : BitVec.ofInt 32 e = BitVec.ofInt 32 c ^^^ BitVec.ofInt 32 d) : byt (a ^^^ b) e = byt a c ^^^ byt b d := by
  unfold byt
  rw [h, ← stps_xor]
  congr 1
  ac_rfl
def Byt (c : Int) : Prop := 0 ≤ c ∧ c < 256
theorem u8x (a b : Int) (ha : Byt a) (hb : Byt b) : BitVec.ofInt 32 (Go.bits .xor .u8 a b) = BitVec.ofInt 32 a ^^^ BitVec.ofInt 32 b ∧ Byt (Go.bits .xor .u8 a b) := by
  obtain ⟨x, rfl⟩ := Int.eq_ofNat_of_zero_le ha.1
  obtain ⟨y, rfl⟩ := Int.eq_ofNat_of_zero_le hb.1
  have hx : x < 256 := by have := ha.2; omega
  have hy : y < 256 := by have := hb.2; omega
  have hxy : x ^^^ y < 256 := Nat.xor_lt_two_pow (n := 8) hx hy
  rw [u8_xor_nat x y hx hy]
  refine ⟨?_, by omega, by omega⟩
  rw [BitVec.ofInt_natCast, BitVec.ofInt_natCast, BitVec.ofInt_natCast]
  apply BitVec.eq_of_toNat_eq
  rw [BitVec.toNat_xor, BitVec.toNat_ofNat, BitVec.toNat_ofNat, BitVec.toNat_ofNat, Nat.mod_eq_of_lt (by omega), Nat.mod_eq_of_lt (by omega), Nat.mod_eq_of_lt (by omega)]
def xb (a b c : Int) : Int := Go.bits .xor .u8 (Go.bits .xor .u8 a b) c
theorem run_xor (f g h : Nat → Int) : ∀ (is : List Nat), (∀ i ∈ is, Byt (f i) ∧ Byt (g i) ∧ Byt (h i)) → ∀ a b c : BitVec 32,
    run (a ^^^ b ^^^ c) (is.map fun i => xb (f i) (g i) (h i)) = run a (is.map f) ^^^ run b (is.map g) ^^^ run c (is.map h) := by
  intro is
  induction is with
  | nil => intro _ a b c; rfl
  | cons i is ih =>
    intro hb a b c
    obtain ⟨h1, h2, h3⟩ := hb i List.mem_cons_self
    obtain ⟨e1, b1⟩ := u8x _ _ h1 h2
    obtain ⟨e2, _⟩ := u8x _ _ b1 h3
    have k := ih (fun j hj => hb j (List.mem_cons_of_mem _ hj)) (byt a (f i)) (byt b (g i)) (byt c (h i))
    have e : byt (a ^^^ b ^^^ c) (xb (f i) (g i) (h i)) = byt a (f i) ^^^ byt b (g i) ^^^ byt c (h i) := by
      unfold xb
      rw [byt_xor (a ^^^ b) c (Go.bits .xor .u8 (f i) (g i)) (h i) _ e2, byt_xor a b (f i) (g i) _ e1]
    show run (byt (a ^^^ b ^^^ c) (xb (f i) (g i) (h i))) _ = run (byt a (f i)) _ ^^^ run (byt b (g i)) _ ^^^ run (byt c (h i)) _
    rw [e]
    exact k
theorem not3 (x y z : BitVec 32) : ~~~x ^^^ ~~~y ^^^ ~~~z = ~~~(x ^^^ y ^^^ z) := by
  rw [← BitVec.allOnes_xor, ← BitVec.allOnes_xor, ← BitVec.allOnes_xor, ← BitVec.allOnes_xor, BitVec.xor_comm _ x, BitVec.xor_comm _ y, xp]
  ac_rfl
theorem rd_nat (l : List Int) (i : Nat) : rd l (i : Int) = l.getD i 0 := by simp [rd]
theorem take_map (l : List Int) (n : Nat) (hn : n ≤ l.length) : l.take n = (List.range n).map (fun i : Nat => rd l (i : Int)) := by
  apply List.ext_getElem
  · simp; omega
  · intro i h1 h2
    simp at h1
    rw [List.getElem_take, List.getElem_map, List.getElem_range, rd_nat, List.getD_eq_getElem?_getD, List.getElem?_eq_getElem (by omega)]
    rfl
theorem crc_xor (l0 l1 l2 : List Int) (n : Nat) (h0 : n ≤ l0.length) (h1 : n ≤ l1.length) (h2 : n ≤ l2.length) (hb : ∀ i : Nat, i < n → Byt (rd l0 i) ∧ Byt (rd l1 i) ∧ Byt (rd l2 i)) :
    crc 0 (l0.take n) ^^^ crc 0 (l1.take n) ^^^ crc 0 (l2.take n) = crc 0 ((List.range n).map fun i : Nat => xb (rd l0 (i : Int)) (rd l1 (i : Int)) (rd l2 (i : Int))) := by
  unfold crc
  rw [take_map l0 n h0, take_map l1 n h1, take_map l2 n h2, not3]
  have k := run_xor (fun i => rd l0 (i : Int)) (fun i => rd l1 (i : Int)) (fun i => rd l2 (i : Int)) (List.range n) (fun i hi => hb i (List.mem_range.mp hi)) (~~~0) (~~~0) (~~~0)
  rw [show (~~~(0 : BitVec 32)) ^^^ (~~~0) ^^^ (~~~0) = ~~~0 by decide] at k
  rw [k]
theorem xor_l0 (l0 l1 l2 : List Int) (n : Nat) (hn : n ≤ 4000) (h0 : n ≤ l0.length) (h1 : n ≤ l1.length) (h2 : n ≤ l2.length)
    (H : Ev (fun k => rubricatorlaw2_CrcXor.l0 k l0 l1 l2 (n : Int) ((List.range n).map fun i : Nat => xb (rd l0 (i : Int)) (rd l1 (i : Int)) (rd l2 (i : Int))) (n : Int)) true) :
    ∀ d i : Nat, i + d = n → Ev (fun k => rubricatorlaw2_CrcXor.l0 k l0 l1 l2 (n : Int) (((List.range i).map fun i : Nat => xb (rd l0 (i : Int)) (rd l1 (i : Int)) (rd l2 (i : Int))) ++ List.replicate d 0) (i : Int)) true := by
  intro d
  induction d with
  | zero =>
    intro i hi
    obtain rfl : i = n := by omega
    rw [List.replicate_zero, List.append_nil]
    exact H
  | succ d ih =>
    intro i hi
    refine ev_succ ?_
    simp only [rubricatorlaw2_CrcXor.l0]
    refine ev_if (by omega) (ev_if (by omega) (ev_if (by omega) (ev_if (by omega) (ev_if (by omega) (ev_if (by simp; omega) ?_)))))
    rw [w64 (by omega) (by omega), Int.toNat_natCast, List.set_append_right _ _ (by simp)]
    have e : i - ((List.range i).map fun i : Nat => xb (rd l0 (i : Int)) (rd l1 (i : Int)) (rd l2 (i : Int))).length = 0 := by simp
    rw [e, List.replicate_succ, List.set_cons_zero]
    have k := ih (i + 1) (by omega)
    rw [List.range_succ, List.map_append, List.append_assoc] at k
    exact k
theorem CrcXor : rubricatorlaw2_CrcXor.Pure := by
  intro l0 l1 l2 _ hl0 hw0 _ hl1 hw1 _ hl2 hw2
  refine Ev.rounds (r := true) ?_
  unfold rubricatorlaw2_CrcXor.f
  obtain ⟨n, hn, n0, n1, n2⟩ : ∃ n : Nat, mn (mn (l0.length : Int) (l1.length : Int)) (l2.length : Int) = (n : Int) ∧ n ≤ l0.length ∧ n ≤ l1.length ∧ n ≤ l2.length := by
    refine ⟨(mn (mn (l0.length : Int) (l1.length : Int)) (l2.length : Int)).toNat, ?_, ?_, ?_, ?_⟩ <;> (unfold mn; (repeat' split) <;> omega)
  rw [hn]
  by_cases c : (n : Int) > 4000
  · exact ev_if c (Ev.now _)
  · refine ev_else c (ev_if (by omega) (ev_if (by omega) ?_))
    have hb : ∀ i : Nat, i < n → Byt (rd l0 i) ∧ Byt (rd l1 i) ∧ Byt (rd l2 i) := by
      have key : ∀ (l : List Int), (∀ x ∈ l, (Lit.int .u8 x).wf = true) → ∀ i : Nat, i < l.length → Byt (rd l i) := by
        intro l hw i hi
        rw [rd_nat, List.getD_eq_getElem?_getD, List.getElem?_eq_getElem hi]
        have := wf_u8 (hw l[i] (List.getElem_mem hi))
        show Byt l[i]
        unfold Byt
        omega
      exact fun i hi => ⟨key l0 hw0 i (by omega), key l1 hw1 i (by omega), key l2 hw2 i (by omega)⟩
    have X := crc_xor l0 l1 l2 n n0 n1 n2 hb
    rw [Int.toNat_natCast]
    refine xor_l0 l0 l1 l2 n (by omega) n0 n1 n2 ?_ n 0 (by omega)
    generalize hD : ((List.range n).map fun i : Nat => xb (rd l0 (i : Int)) (rd l1 (i : Int)) (rd l2 (i : Int))) = D at X ⊢
    have hDl : D.length = n := by rw [← hD]; simp
    refine ev_succ ?_
    simp only [rubricatorlaw2_CrcXor.l0, Int.toNat_natCast]
    have S : ∀ y : List Int, y.length ≤ 140737488355328 → Ev (fun k => crc_Sum.f k [y]) ((crc 0 y).toNat : Int) := fun y hy => Sum_ev [y] (by simp) (by intro l hl; simp at hl; subst hl; exact hy)
    refine ev_else (by omega) (ev_if (by omega) (ev_if (by omega) (Ev.bind (S _ (by simp; omega)) (ev_if (by omega) (Ev.bind (S _ (by simp; omega)) (ev_if (by omega) (Ev.bind (S _ (by simp; omega)) (Ev.bind (S _ (by omega)) (ev_if ?_ (Ev.bind known_ev (Ev.now _)))))))))))
    rw [xor_bv, xor_bv, X]
end Go.Proofs.Ytlfcolmepieknaa.Pure
