/- What the sums of crc come to, over rows of 32 bits: the loops answer, a sum is a fold, its step loses nothing and is linear. No conditions beside lengths below 2^47. -/
import Derived.Test.YtlfcolmepieknaaPAx0
import Derived.Test.YtlfcolmepieknaaPAx1
import Derived.Test.YtlfcolmepieknaaPAx2
import Derived.Laws.BitsAllLaws
namespace Go.Proofs.Ytlfcolmepieknaa.Mat
open Go.RowKit Go.Proofs.Ytlfcolmepieknaa.PA Go.Proofs.YtlfcolmepieknaaW.PrintWords Go.Proofs.YtlfcolmepieknaaW.PrintLast

def stp (v : BitVec 32) : BitVec 32 := (v >>> 1) ^^^ (0xedb88320#32 &&& -(v &&& 1#32))
def stps : Nat → BitVec 32 → BitVec 32
  | 0, v => v
  | n + 1, v => stps n (stp v)
def byt (v : BitVec 32) (c : Int) : BitVec 32 := stps 8 (v ^^^ BitVec.ofInt 32 c)
def run (v : BitVec 32) (l : List Int) : BitVec 32 := l.foldl byt v
def crc (s : BitVec 32) (l : List Int) : BitVec 32 := ~~~ (run (~~~ s) l)
def crcs (s : BitVec 32) (ls : List (List Int)) : BitVec 32 := ls.foldl crc s

theorem ofInt_toNat (v : BitVec 32) : BitVec.ofInt 32 (v.toNat : Int) = v := by
  rw [BitVec.ofInt_natCast, BitVec.ofNat_toNat, BitVec.setWidth_eq]
theorem xor_bv (a b : BitVec 32) : Go.bits .xor .u32 (a.toNat : Int) (b.toNat : Int) = ((a ^^^ b).toNat : Int) := by
  rw [u32_xor_nat _ _ a.isLt b.isLt, BitVec.toNat_xor]
theorem and_bv (a b : BitVec 32) : Go.bits .and .u32 (a.toNat : Int) (b.toNat : Int) = ((a &&& b).toNat : Int) := by
  rw [u32_and_nat _ _ a.isLt b.isLt, BitVec.toNat_and]
theorem shr_bv (a : BitVec 32) : ((a.toNat : Nat) : Int) / (2 : Int) = ((a >>> 1).toNat : Int) := by
  rw [BitVec.toNat_ushiftRight, Nat.shiftRight_eq_div_pow]
  omega
theorem neg_bv (a : BitVec 32) : (-(a.toNat : Int)) % 4294967296 = ((-a).toNat : Int) := by
  have := a.isLt
  rw [BitVec.toNat_neg]
  omega
theorem byte_bv (c : Int) : c % 4294967296 = ((BitVec.ofInt 32 c).toNat : Int) := by
  rw [BitVec.toNat_ofInt]
  omega
theorem not_bv (a : BitVec 32) : Go.bits .xor .u32 4294967295 (a.toNat : Int) = ((~~~a).toNat : Int) := by
  have h : (4294967295 : Int) = ((BitVec.allOnes 32).toNat : Int) := by decide
  rw [h, xor_bv, BitVec.allOnes_xor]
theorem stp_bv (v : BitVec 32) : Go.bits .xor .u32 ((v.toNat : Int) / 2) (Go.bits .and .u32 3988292384 ((-(Go.bits .and .u32 (v.toNat : Int) 1)) % 4294967296)) = ((stp v).toNat : Int) := by
  have h1 : (1 : Int) = ((1#32).toNat : Int) := by decide
  have h2 : (3988292384 : Int) = ((0xedb88320#32).toNat : Int) := by decide
  rw [h1, and_bv, neg_bv, h2, and_bv, shr_bv, xor_bv]
  rfl

theorem w64 {i : Int} (h0 : 0 ≤ i) (h : i < 9223372036854775807) : wrap64 (i + 1) = i + 1 := by unfold wrap64; omega

theorem l1_ev (p : List Int) (n j : Int) (r : Int) : ∀ (d i : Nat) (v : BitVec 32), i + d = 8 → Ev (fun k => crc_More.l0 k ((stps d v).toNat : Int) p n (wrap64 (j + 1))) r → Ev (fun k => crc_More.l1 k (v.toNat : Int) p n j (i : Int)) r := by
  intro d
  induction d with
  | zero =>
    intro i v hi h
    refine Ev.step (f := fun k => crc_More.l0 k (v.toNat : Int) p n (wrap64 (j + 1))) (fun k => ?_) h
    simp only [crc_More.l1]
    rw [if_neg (by omega)]
  | succ d ih =>
    intro i v hi h
    refine Ev.step (f := fun k => crc_More.l1 k ((stp v).toNat : Int) p n j ((i + 1 : Nat) : Int)) (fun k => ?_) (ih (i + 1) (stp v) (by omega) h)
    simp only [crc_More.l1]
    rw [if_pos (by omega), stp_bv, w64 (by omega) (by omega)]
    rfl
theorem l0_ev (p : List Int) (hp : p.length ≤ 140737488355328) : ∀ (d i : Nat) (v : BitVec 32), i + d = p.length → Ev (fun k => crc_More.l0 k (v.toNat : Int) p (p.length : Int) (i : Int)) ((~~~ (run v (p.drop i))).toNat : Int) := by
  intro d
  induction d with
  | zero =>
    intro i v hi
    refine Ev.step (f := fun _ => some ((~~~ v).toNat : Int)) (fun k => ?_) ?_
    · simp only [crc_More.l0]
      rw [if_neg (by omega), not_bv]
    · rw [List.drop_of_length_le (by omega)]
      exact Ev.now _
  | succ d ih =>
    intro i v hi
    have hlt : i < p.length := by omega
    have h := ih (i + 1) (byt v (rd p i)) (by omega)
    have hd : p.drop i = rd p i :: p.drop (i + 1) := by
      rw [List.drop_eq_getElem_cons hlt]
      simp [rd, List.getD_eq_getElem?_getD, List.getElem?_eq_getElem hlt]
    rw [hd]
    have hw : wrap64 ((i : Int) + 1) = ((i + 1 : Nat) : Int) := by rw [w64 (by omega) (by omega)]; rfl
    have h2 := l1_ev p (p.length : Int) (i : Int) ((~~~ (run (byt v (rd p i)) (p.drop (i + 1)))).toNat : Int) 8 0 (v ^^^ BitVec.ofInt 32 (rd p i)) rfl (by rw [hw]; exact h)
    refine Ev.step (f := fun k => crc_More.l1 k ((v ^^^ BitVec.ofInt 32 (rd p i)).toNat : Int) p (p.length : Int) (i : Int) 0) (fun k => ?_) h2
    simp only [crc_More.l0]
    rw [if_pos (by omega), if_pos (by omega), if_pos (by omega), byte_bv, xor_bv]
theorem More_ev (s : BitVec 32) (p : List Int) (hp : p.length ≤ 140737488355328) : Ev (fun k => crc_More.f k (s.toNat : Int) p) ((crc s p).toNat : Int) := by
  have h := l0_ev p hp p.length 0 (~~~ s) (by omega)
  refine Ev.congr (fun k => ?_) h
  unfold crc_More.f
  rw [not_bv]
  rfl

theorem stp_if (v : BitVec 32) : stp v = if (v &&& 1#32) = 1#32 then (v >>> 1) ^^^ 0xedb88320#32 else v >>> 1 := by
  unfold stp
  have h : v &&& 1#32 = 0#32 ∨ v &&& 1#32 = 1#32 := by
    have h2 : (v &&& 1#32).toNat ≤ 1 := by rw [BitVec.toNat_and]; exact Nat.and_le_right
    rcases Nat.lt_or_ge (v &&& 1#32).toNat 1 with h | h
    · exact .inl (BitVec.eq_of_toNat_eq (by show _ = 0; omega))
    · exact .inr (BitVec.eq_of_toNat_eq (by show _ = 1; omega))
  rcases h with h | h
  · rw [h, if_neg (by decide)]
    simp
  · rw [h, if_pos rfl]
    have : (0xedb88320#32 &&& -1#32) = 0xedb88320#32 := by decide
    rw [this]

theorem r1_ev (p : List Int) (j : Int) (r : Int) : ∀ (d i : Nat) (v : BitVec 32), i + d = 8 → Ev (fun k => rubricatorref2_More.l0 k p ((stps d v).toNat : Int) (wrap64 (j + 1))) r → Ev (fun k => rubricatorref2_More.l1 k p (v.toNat : Int) j (i : Int)) r := by
  intro d
  induction d with
  | zero =>
    intro i v hi h
    refine Ev.step (f := fun k => rubricatorref2_More.l0 k p (v.toNat : Int) (wrap64 (j + 1))) (fun k => ?_) h
    simp only [rubricatorref2_More.l1]
    rw [if_neg (by omega)]
  | succ d ih =>
    intro i v hi h
    refine Ev.step (f := fun k => rubricatorref2_More.l1 k p ((stp v).toNat : Int) j ((i + 1 : Nat) : Int)) (fun k => ?_) (ih (i + 1) (stp v) (by omega) h)
    simp only [rubricatorref2_More.l1]
    have h1 : (1 : Int) = ((1#32).toNat : Int) := by decide
    have h2 : (3988292384 : Int) = ((0xedb88320#32).toNat : Int) := by decide
    have e : Go.bits .and .u32 (v.toNat : Int) 1 = ((v &&& 1#32).toNat : Int) := and_bv v 1#32
    rw [if_pos (by omega), e, w64 (by omega) (by omega), stp_if]
    by_cases hb : v &&& 1#32 = 1#32
    · rw [if_pos (by rw [hb]; rfl), if_pos hb, shr_bv, h2, xor_bv]
      rfl
    · rw [if_neg (fun he => hb (BitVec.eq_of_toNat_eq (by show (v &&& 1#32).toNat = 1; omega))), if_neg hb, shr_bv]
      rfl
theorem r0_ev (p : List Int) (hp : p.length ≤ 140737488355328) : ∀ (d i : Nat) (v : BitVec 32), i + d = p.length → Ev (fun k => rubricatorref2_More.l0 k p (v.toNat : Int) (i : Int)) ((~~~ (run v (p.drop i))).toNat : Int) := by
  intro d
  induction d with
  | zero =>
    intro i v hi
    refine Ev.step (f := fun _ => some ((~~~ v).toNat : Int)) (fun k => ?_) ?_
    · simp only [rubricatorref2_More.l0]
      rw [if_neg (by omega), not_bv]
    · rw [List.drop_of_length_le (by omega)]
      exact Ev.now _
  | succ d ih =>
    intro i v hi
    have hlt : i < p.length := by omega
    have h := ih (i + 1) (byt v (rd p i)) (by omega)
    have hd : p.drop i = rd p i :: p.drop (i + 1) := by
      rw [List.drop_eq_getElem_cons hlt]
      simp [rd, List.getD_eq_getElem?_getD, List.getElem?_eq_getElem hlt]
    rw [hd]
    have hw : wrap64 ((i : Int) + 1) = ((i + 1 : Nat) : Int) := by rw [w64 (by omega) (by omega)]; rfl
    have h2 := r1_ev p (i : Int) ((~~~ (run (byt v (rd p i)) (p.drop (i + 1)))).toNat : Int) 8 0 (v ^^^ BitVec.ofInt 32 (rd p i)) rfl (by rw [hw]; exact h)
    refine Ev.step (f := fun k => rubricatorref2_More.l1 k p ((v ^^^ BitVec.ofInt 32 (rd p i)).toNat : Int) (i : Int) 0) (fun k => ?_) h2
    simp only [rubricatorref2_More.l0]
    rw [if_pos (by omega), if_pos (by omega), byte_bv, xor_bv]
theorem refMore_ev (s : BitVec 32) (p : List Int) (hp : p.length ≤ 140737488355328) : Ev (fun k => rubricatorref2_More.f k (s.toNat : Int) p) ((crc s p).toNat : Int) := by
  have h := r0_ev p hp p.length 0 (~~~ s) (by omega)
  refine Ev.congr (fun k => ?_) h
  unfold rubricatorref2_More.f
  rw [not_bv]
  rfl

theorem rd_at (ls : List (List Int)) (i : Nat) (h : i < ls.length) : ls.drop i = rd_L1 ls (i : Int) :: ls.drop (i + 1) := by
  rw [List.drop_eq_getElem_cons h]
  simp [rd_L1, List.getD_eq_getElem?_getD, List.getElem?_eq_getElem h]
theorem Sum_l0 (ls : List (List Int)) (hn : ls.length ≤ 140737488355328) (hp : ∀ l ∈ ls, l.length ≤ 140737488355328) : ∀ (d i : Nat) (s : BitVec 32), i + d = ls.length →
    Ev (fun k => crc_Sum.l0 k (s.toNat : Int) ls (ls.length : Int) (i : Int)) ((crcs s (ls.drop i)).toNat : Int) := by
  intro d
  induction d with
  | zero =>
    intro i s hi
    refine Ev.step (f := fun _ => some (s.toNat : Int)) (fun k => ?_) ?_
    · simp only [crc_Sum.l0]
      rw [if_neg (by omega)]
    · rw [List.drop_of_length_le (by omega)]
      exact Ev.now _
  | succ d ih =>
    intro i s hi
    have hlt : i < ls.length := by omega
    have hm : rd_L1 ls (i : Int) ∈ ls := by
      have : rd_L1 ls (i : Int) ∈ ls.drop i := by rw [rd_at ls i hlt]; exact List.mem_cons_self
      exact List.mem_of_mem_drop this
    rw [rd_at ls i hlt]
    refine Ev.step (f := fun k => (crc_More.f k (s.toNat : Int) (rd_L1 ls (i : Int))).bind fun t => crc_Sum.l0 k t ls (ls.length : Int) ((i + 1 : Nat) : Int)) (fun k => ?_) ?_
    · simp only [crc_Sum.l0]
      rw [if_pos (by omega), if_pos (by omega), if_pos (by omega), w64 (by omega) (by omega)]
      rfl
    · exact Ev.bind (More_ev s _ (hp _ hm)) (ih (i + 1) _ (by omega))
theorem Sum_ev (ls : List (List Int)) (hn : ls.length ≤ 140737488355328) (hp : ∀ l ∈ ls, l.length ≤ 140737488355328) : Ev (fun k => crc_Sum.f k ls) ((crcs 0 ls).toNat : Int) :=
  Sum_l0 ls hn hp ls.length 0 0 (by omega)
theorem refSum_l0 (ls : List (List Int)) (hn : ls.length ≤ 140737488355328) (hp : ∀ l ∈ ls, l.length ≤ 140737488355328) : ∀ (d i : Nat) (s : BitVec 32), i + d = ls.length →
    Ev (fun k => rubricatorref2_Sum.l0 k ls (s.toNat : Int) (i : Int)) ((crcs s (ls.drop i)).toNat : Int) := by
  intro d
  induction d with
  | zero =>
    intro i s hi
    refine Ev.step (f := fun _ => some (s.toNat : Int)) (fun k => ?_) ?_
    · simp only [rubricatorref2_Sum.l0]
      rw [if_neg (by omega)]
    · rw [List.drop_of_length_le (by omega)]
      exact Ev.now _
  | succ d ih =>
    intro i s hi
    have hlt : i < ls.length := by omega
    have hm : rd_L1 ls (i : Int) ∈ ls := by
      have : rd_L1 ls (i : Int) ∈ ls.drop i := by rw [rd_at ls i hlt]; exact List.mem_cons_self
      exact List.mem_of_mem_drop this
    rw [rd_at ls i hlt]
    refine Ev.step (f := fun k => (rubricatorref2_More.f k (s.toNat : Int) (rd_L1 ls (i : Int))).bind fun t => rubricatorref2_Sum.l0 k ls t ((i + 1 : Nat) : Int)) (fun k => ?_) ?_
    · simp only [rubricatorref2_Sum.l0]
      rw [if_pos (by omega), if_pos (by omega), w64 (by omega) (by omega)]
      rfl
    · exact Ev.bind (refMore_ev s _ (hp _ hm)) (ih (i + 1) _ (by omega))
theorem refSum_ev (ls : List (List Int)) (hn : ls.length ≤ 140737488355328) (hp : ∀ l ∈ ls, l.length ≤ 140737488355328) : Ev (fun k => rubricatorref2_Sum.f k ls) ((crcs 0 ls).toNat : Int) :=
  refSum_l0 ls hn hp ls.length 0 0 (by omega)

theorem known_ev : Ev (fun k => rubricatorlaw2_known.f k) true := by
  have h := Sum_ev [[49, 50, 51, 52, 53, 54, 55, 56, 57]] (by decide) (by intro l hl; simp at hl; subst hl; decide)
  have e : ((crcs 0 [[49, 50, 51, 52, 53, 54, 55, 56, 57]]).toNat : Int) = 3421780262 := by decide +kernel
  rw [e] at h
  refine Ev.bind h ?_
  exact Ev.now _

theorem run_append (v : BitVec 32) (a b : List Int) : run v (a ++ b) = run (run v a) b := List.foldl_append
theorem crc_append (s : BitVec 32) (a b : List Int) : crc s (a ++ b) = crc (crc s a) b := by
  unfold crc
  rw [run_append, BitVec.not_not]
theorem crc_nil (s : BitVec 32) : crc s [] = s := by
  show ~~~ (~~~ s) = s
  rw [BitVec.not_not]
theorem crcs_flat (ls : List (List Int)) : ∀ s, crcs s ls = crc s ls.flatten := by
  induction ls with
  | nil => intro s; exact (crc_nil s).symm
  | cons l ls ih =>
    intro s
    show crcs (crc s l) ls = _
    rw [ih, List.flatten_cons, crc_append]
end Go.Proofs.Ytlfcolmepieknaa.Mat
