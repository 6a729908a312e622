/- A number's bytes, the lowest first, and the number of bytes: digits to the base 256. No conditions beside those of bytes. -/
import Derived.Test.YtlfcolmepieknaaPAx3
import Derived.Test.YtlfcolmepieknaaPAx4
import Derived.Test.YtlfcolmepieknaaAid
import Derived.Laws.BitsAllLaws
import Derived.IntWalk
namespace Go.Proofs.Ytlfcolmepieknaa.Mat
open Go.RowKit Go.Proofs.Ytlfcolmepieknaa.PA Go.Proofs.YtlfcolmepieknaaW.PrintWords Go.Proofs.YtlfcolmepieknaaW.PrintLast Go.Proofs.YtlfcolmepieknaaAid

def dig : Nat → Int → List Int
  | 0, _ => []
  | n + 1, v => (v % 256) :: dig n (v / 256)
def val : List Int → Int
  | [] => 0
  | c :: l => c + 256 * val l
def Byte (c : Int) : Prop := 0 ≤ c ∧ c ≤ 255

theorem w64n {i : Int} (h0 : 0 ≤ i) (h : i < 9223372036854775807) : wrap64 (i + 1) = i + 1 := by unfold wrap64; omega
theorem dig_length : ∀ (n : Nat) (v : Int), (dig n v).length = n
  | 0, _ => rfl
  | n + 1, v => by rw [dig, List.length_cons, dig_length n]
theorem dig_val : ∀ (l : List Int), (∀ c ∈ l, Byte c) → ∀ n, dig (l.length + n) (val l) = l ++ dig n 0
  | [], _, n => by rw [List.length_nil, Nat.zero_add, val, List.nil_append]
  | c :: l, h, n => by
    have hc := h c List.mem_cons_self
    have h2 := dig_val l (fun x hx => h x (List.mem_cons_of_mem _ hx)) n
    unfold Byte at hc
    rw [List.length_cons, Nat.add_right_comm, dig, val]
    have e1 : (c + 256 * val l) % 256 = c := by omega
    have e2 : (c + 256 * val l) / 256 = val l := by omega
    rw [e1, e2, h2]
    rfl
theorem val_nonneg : ∀ (l : List Int), (∀ c ∈ l, Byte c) → 0 ≤ val l
  | [], _ => by simp [val]
  | c :: l, h => by
    have hc := h c List.mem_cons_self
    have h2 := val_nonneg l (fun x hx => h x (List.mem_cons_of_mem _ hx))
    unfold Byte at hc
    rw [val]
    omega
theorem val_lt : ∀ (l : List Int), (∀ c ∈ l, Byte c) → val l < 256 ^ l.length
  | [], _ => by simp [val]
  | c :: l, h => by
    have hc := h c List.mem_cons_self
    have h2 := val_lt l (fun x hx => h x (List.mem_cons_of_mem _ hx))
    unfold Byte at hc
    rw [val, List.length_cons, Int.pow_succ]
    omega
theorem val_dig : ∀ (n : Nat) (v : Int), 0 ≤ v → v < 256 ^ n → ∀ m, val ((dig (n + m) v).take n) = v
  | 0, v, h0, h, m => by
    have : v = 0 := by simp at h; omega
    subst this
    rw [List.take_zero, val]
  | n + 1, v, h0, h, m => by
    rw [Int.pow_succ] at h
    have h2 := val_dig n (v / 256) (by omega) (by omega) m
    rw [Nat.add_right_comm, dig, List.take_succ_cons, val, h2]
    omega
theorem dig_byte : ∀ (n : Nat) (v : Int), ∀ c ∈ dig n v, Byte c
  | 0, _, c, h => by simp [dig] at h
  | n + 1, v, c, h => by
    rw [dig, List.mem_cons] at h
    rcases h with rfl | h
    · unfold Byte; omega
    · exact dig_byte n _ c h

theorem little_l0 (m : Nat) (hm : m ≤ 8) : ∀ (d i : Nat) (x : Int) (acc : List Int), i + d = m → acc.length = i → Ev (fun k => crc_Little.l0 k x acc (m : Int) (i : Int)) (acc ++ dig d x) := by
  intro d
  induction d with
  | zero =>
    intro i x acc hi _
    refine ev_succ ?_
    simp only [crc_Little.l0]
    refine ev_else (by omega) (ev_val ?_)
    rw [dig, List.append_nil]
  | succ d ih =>
    intro i x acc hi ha
    have h := ih (i + 1) (x / 256) (acc ++ [x % 256]) (by omega) (by rw [List.length_append, ha, List.length_singleton])
    refine ev_succ ?_
    simp only [crc_Little.l0]
    refine ev_if (by omega) (ev_if (by omega) ?_)
    rw [w64n (by omega) (by omega)]
    rw [List.append_assoc, List.singleton_append] at h
    exact h
theorem refLittle_l0 (m : Nat) (hm : m ≤ 8) (n : Int) (hn : (mn n 8) ≤ m ∧ (0 ≤ mn n 8 → mn n 8 = m) ∧ (mn n 8 < 0 → m = 0)) : ∀ (d i : Nat) (x : Int) (acc : List Int), i + d = m → acc.length = i → Ev (fun k => rubricatorref2_Little.l0 k x n acc (i : Int)) (acc ++ dig d x) := by
  intro d
  induction d with
  | zero =>
    intro i x acc hi _
    refine ev_succ ?_
    simp only [rubricatorref2_Little.l0]
    refine ev_else (by omega) (ev_val ?_)
    rw [dig, List.append_nil]
  | succ d ih =>
    intro i x acc hi ha
    have h := ih (i + 1) (x / 256) (acc ++ [x % 256]) (by omega) (by rw [List.length_append, ha, List.length_singleton])
    refine ev_succ ?_
    simp only [rubricatorref2_Little.l0]
    refine ev_if (by omega) (ev_if (by omega) ?_)
    rw [w64n (by omega) (by omega)]
    rw [List.append_assoc, List.singleton_append] at h
    exact h
theorem little_ev (v n : Int) : Ev (fun k => crc_Little.f k v n) (dig (mx 0 (mn n 8)).toNat (mx 0 v)) := by
  obtain ⟨m, hm⟩ : ∃ m : Nat, mx 0 (mn n 8) = (m : Int) ∧ m ≤ 8 := by
    refine ⟨(mx 0 (mn n 8)).toNat, ?_, ?_⟩ <;> (unfold mx mn; (repeat' split) <;> omega)
  unfold crc_Little.f
  rw [hm.1]
  exact little_l0 m hm.2 m 0 _ [] (by omega) rfl
theorem refLittle_ev (v n : Int) : Ev (fun k => rubricatorref2_Little.f k v n) (dig (mx 0 (mn n 8)).toNat (mx 0 v)) := by
  obtain ⟨m, hm⟩ : ∃ m : Nat, (mx 0 (mn n 8)).toNat = m ∧ m ≤ 8 ∧ (mn n 8) ≤ m ∧ (0 ≤ mn n 8 → mn n 8 = m) ∧ (mn n 8 < 0 → m = 0) := by
    refine ⟨(mx 0 (mn n 8)).toNat, rfl, ?_⟩
    unfold mx mn
    (repeat' split) <;> omega
  unfold rubricatorref2_Little.f
  rw [hm.1]
  exact refLittle_l0 m hm.2.1 n hm.2.2 m 0 _ [] (by omega) rfl

theorem or_byte (x c : Int) (hx : 0 ≤ x) (hx2 : x < 281474976710656) (hc : Byte c) : Go.bits .or .i64 (wrap64 (x * 256)) (wrap64 c) = c + 256 * x := by
  unfold Byte at hc
  obtain ⟨X, rfl⟩ := Int.eq_ofNat_of_zero_le hx
  obtain ⟨C, rfl⟩ := Int.eq_ofNat_of_zero_le hc.1
  have e1 : wrap64 ((X : Int) * 256) = ((X * 256 : Nat) : Int) := by unfold wrap64; omega
  have e2 : wrap64 (C : Int) = (C : Int) := by unfold wrap64; omega
  have h : (X * 256) ||| C = X * 256 + C := by
    have := Nat.two_pow_add_eq_or_of_lt (i := 8) (b := C) (by omega) X
    rw [Nat.mul_comm, ← this, Nat.mul_comm]
  rw [e1, e2]
  show IntKind.i64.wrap ((BitVec.ofInt 64 ((X * 256 : Nat) : Int) ||| BitVec.ofInt 64 (C : Int)).toNat : Int) = _
  have e3 : (BitVec.ofInt 64 ((X * 256 : Nat) : Int) ||| BitVec.ofInt 64 (C : Int)).toNat = X * 256 + C := by
    rw [BitVec.toNat_or, BitVec.ofInt_natCast, BitVec.ofInt_natCast, BitVec.toNat_ofNat, BitVec.toNat_ofNat, Nat.mod_eq_of_lt (by omega), Nat.mod_eq_of_lt (by omega), h]
  rw [e3, IntWalk.i64_in _ (by omega)]
  omega
theorem pow_le6 (n : Nat) (h : n ≤ 6) : (256 : Int) ^ n ≤ 281474976710656 := by
  have : n = 0 ∨ n = 1 ∨ n = 2 ∨ n = 3 ∨ n = 4 ∨ n = 5 ∨ n = 6 := by omega
  rcases this with rfl | rfl | rfl | rfl | rfl | rfl | rfl <;> decide
/-- What the loop of Number holds at place i: the number of the bytes behind. -/
theorem take_split (l : List Int) (i : Nat) (h : i < l.length) : l.take (i + 1) = l.take i ++ [l[i]] := by
  rw [List.take_succ_eq_append_getElem h]
theorem val_append (a b : List Int) : val (a ++ b) = val a + 256 ^ a.length * val b := by
  induction a with
  | nil => simp [val]
  | cons c a ih =>
    rw [List.cons_append, val, val, ih, List.length_cons, Int.pow_succ, Int.mul_add, Int.add_assoc, Int.mul_comm (256 ^ a.length) 256, Int.mul_assoc]
theorem number_l0 (l : List Int) (hb : ∀ c ∈ l, Byte c) : ∀ (i : Nat) (rest : List Int), (∀ c ∈ rest, Byte c) → i ≤ l.length → i + rest.length ≤ 7 →
    Ev (fun k => crc_Number.l0 k l (val rest) ((i : Int) - 1)) (val (l.take i ++ rest)) := by
  intro i
  induction i with
  | zero =>
    intro rest _ _ _
    refine ev_succ ?_
    simp only [crc_Number.l0]
    exact ev_else (by omega) (ev_val rfl)
  | succ i ih =>
    intro rest hr hi h7
    have hlt : i < l.length := by omega
    have e0 : ((i + 1 : Nat) : Int) - 1 = (i : Int) := by omega
    have hc := hb l[i] (List.getElem_mem hlt)
    have h := ih (l[i] :: rest) (fun c h => (List.mem_cons.1 h).elim (fun e => e ▸ hc) (hr c)) (by omega) (by rw [List.length_cons]; omega)
    have er : rd l (i : Int) = l[i] := by simp [rd, List.getD_eq_getElem?_getD, List.getElem?_eq_getElem hlt]
    have hv : val rest < 281474976710656 := by
      have h1 := val_lt rest hr
      have h2 := pow_le6 rest.length (by omega)
      omega
    rw [e0, take_split l i hlt, List.append_assoc, List.singleton_append]
    refine ev_succ ?_
    simp only [crc_Number.l0]
    refine ev_if (by omega) (ev_if (by omega) (ev_if (by omega) ?_))
    rw [er, or_byte _ _ (val_nonneg rest hr) hv hc]
    have ew : wrap64 ((i : Int) - 1) = (i : Int) - 1 := by unfold wrap64; omega
    rw [ew]
    exact h
theorem number_ev (l : List Int) (hl : l.length ≤ 1099511627776) (hb : ∀ c ∈ l, Byte c) : Ev (fun k => crc_Number.f k l) (val (l.take 7)) := by
  have e : mn (l.length : Int) 7 = ((min l.length 7 : Nat) : Int) := by unfold mn; split <;> omega
  have h := number_l0 l hb (min l.length 7) [] (by simp) (by omega) (by simp; omega)
  unfold crc_Number.f
  rw [e]
  have e2 : l.take (min l.length 7) = l.take 7 := by
    rcases Nat.le_total l.length 7 with h | h
    · rw [Nat.min_eq_left h, List.take_of_length_le (Nat.le_refl _), List.take_of_length_le h]
    · rw [Nat.min_eq_right h]
  rw [e2, List.append_nil] at h
  exact h
theorem refNumber_eq : ∀ (k : Nat) (l : List Int) (x i : Int), rubricatorref2_Number.l0 k l x i = crc_Number.l0 k l x i
  | 0, _, _, _ => rfl
  | k + 1, l, x, i => by simp only [rubricatorref2_Number.l0, crc_Number.l0, refNumber_eq k]
theorem refNumber_ev (l : List Int) (hl : l.length ≤ 1099511627776) (hb : ∀ c ∈ l, Byte c) : Ev (fun k => rubricatorref2_Number.f k l) (val (l.take 7)) := by
  refine Ev.congr (fun k => ?_) (number_ev l hl hb)
  unfold rubricatorref2_Number.f crc_Number.f
  rw [refNumber_eq]
end Go.Proofs.Ytlfcolmepieknaa.Mat
