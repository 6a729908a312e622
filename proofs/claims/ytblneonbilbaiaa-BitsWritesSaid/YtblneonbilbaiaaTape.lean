/- What is laid bit by bit is a list of bits: a Writer's state, the document's Writer and their bytes as functions of it. Sizes below 800000000. -/
import Derived.Test.YtblneonbilbaiaaWrites
import Derived.Test.YtblneonbilbaiaaMath
namespace Go.Proofs.Ytblneonbilbaiaa.Mat
open Go.RowKit Go.Proofs.Ytblneonbilbaiaa.PA Go.Proofs.YtblneonbilbaiaaW.PrintWords
set_option linter.unusedVariables false
set_option linter.unusedSimpArgs false
def Bit (z : Int) : Prop := z = 0 ∨ z = 1
def tape (L : List Int) : BW := L.foldl bitW ⟨[], 0, 0⟩
theorem tape_app (L M : List Int) : tape (L ++ M) = M.foldl bitW (tape L) := by unfold tape; rw [List.foldl_append]
theorem bitW_mod (s : BW) (v : Int) (h0 : 0 ≤ v) (h1 : v < 9223372036854775808) : bitW s (v % 2) = bitW s v := by
  have e : ∀ p i, ptF p i (v % 2) = ptF p i v := by
    intro p i
    unfold ptF
    rw [and1 v h0 h1, and1 (v % 2) (by omega) (by omega), Int.emod_emod_of_dvd v (by decide)]
  unfold bitW bitB bitP
  simp only [e]
theorem putW_tape (v : Int) (h0 : 0 ≤ v) (h1 : v < 9223372036854775808) : ∀ (d i : Nat) (s : BW), putW d i s v = (ups d i v).foldl bitW s
  | 0, i, s => rfl
  | d + 1, i, s => by
    have hr := div_range v i h0 h1
    rw [putW, ups, List.foldl_cons, bitW_mod s _ hr.1 hr.2, putW_tape v h0 h1 d]
theorem codeW_tape (v : Int) (h0 : 0 ≤ v) (h1 : v < 9223372036854775808) : ∀ (d : Nat) (s : BW), codeW d s v = (downs d v).foldl bitW s
  | 0, s => rfl
  | d + 1, s => by
    have hr := div_range v d h0 h1
    rw [codeW, downs, List.foldl_cons, bitW_mod s _ hr.1 hr.2, codeW_tape v h0 h1 d]
theorem bit_mod (v : Int) (i : Nat) : Bit (v / 2 ^ i % 2) := by unfold Bit; omega
theorem ups_bits (v : Int) : ∀ d i, ∀ z ∈ ups d i v, Bit z
  | 0, i => by intro z hz; simp [ups] at hz
  | d + 1, i => by
    intro z hz
    rw [ups, List.mem_cons] at hz
    rcases hz with rfl | hz
    · exact bit_mod v i
    · exact ups_bits v d (i + 1) z hz
theorem downs_bits (v : Int) : ∀ d, ∀ z ∈ downs d v, Bit z
  | 0 => by intro z hz; simp [downs] at hz
  | d + 1 => by
    intro z hz
    rw [downs, List.mem_cons] at hz
    rcases hz with rfl | hz
    · exact bit_mod v d
    · exact downs_bits v d z hz
theorem fold_wf : ∀ (L : List Int) (s : BW), (∀ z ∈ L, Bit z) → BW.wf s → BW.wf (L.foldl bitW s) ∧ BW.T (L.foldl bitW s) = BW.T s + L.length
  | [], s, _, h => ⟨h, rfl⟩
  | z :: L, s, hb, h => by
    have hz : Bit z := hb z List.mem_cons_self
    unfold Bit at hz
    obtain ⟨h1, _, h3⟩ := bitW_wf h z (by omega) (by omega)
    obtain ⟨h4, h5⟩ := fold_wf L (bitW s z) (fun y hy => hb y (List.mem_cons_of_mem _ hy)) h1
    rw [List.foldl_cons, List.length_cons]
    exact ⟨h4, by rw [h5, h3]; omega⟩
theorem tape_wf (L : List Int) (hb : ∀ z ∈ L, Bit z) : BW.wf (tape L) ∧ BW.T (tape L) = L.length := by
  obtain ⟨h1, h2⟩ := fold_wf L ⟨[], 0, 0⟩ hb wf0
  exact ⟨h1, by unfold tape; rw [h2, T0, Nat.zero_add]⟩
theorem tape_i (L : List Int) (hb : ∀ z ∈ L, Bit z) : (tape L).i = ((L.length % 8 : Nat) : Int) ∧ (tape L).b.length = L.length / 8 := by
  obtain ⟨h1, h2⟩ := tape_wf L hb
  unfold BW.T at h2
  have := h1.i0
  have := h1.i8
  omega
theorem tape_ok (L : List Int) (hb : ∀ z ∈ L, Bit z) (hl : L.length ≤ 400000000) : (tape L).ok 800000000 := by
  obtain ⟨h1, h2⟩ := tape_i L hb
  unfold BW.ok
  omega
theorem tape_p (L : List Int) (hb : ∀ z ∈ L, Bit z) (h8 : L.length % 8 = 0) : (tape L).i = 0 ∧ (tape L).p = 0 := by
  obtain ⟨h1, h2⟩ := tape_i L hb
  have hw := (tape_wf L hb).1
  have e : (tape L).i = 0 := by omega
  have hp := hw.p1
  have hp0 := hw.p0
  rw [e] at hp
  have : (2 : Int) ^ (0 : Int).toNat = 1 := rfl
  exact ⟨e, by omega⟩
theorem alignW_tape : ∀ (d : Nat) (L : List Int), (∀ z ∈ L, Bit z) → padN L.length ≤ d → alignW d (tape L) = tape (L ++ List.replicate (padN L.length) 0)
  | 0, L, hb, h => by
    have e : padN L.length = 0 := by omega
    rw [e, List.replicate_zero, List.append_nil, alignW]
  | d + 1, L, hb, h => by
    obtain ⟨h1, h2⟩ := tape_i L hb
    rw [alignW]
    by_cases h0 : (tape L).i = 0
    · rw [if_pos h0]
      have e : padN L.length = 0 := by unfold padN; omega
      rw [e, List.replicate_zero, List.append_nil]
    · rw [if_neg h0]
      have e : padN L.length = padN (L ++ [0]).length + 1 := by rw [List.length_append, List.length_singleton]; unfold padN; omega
      have hb2 : ∀ z ∈ L ++ [0], Bit z := by
        intro z hz
        rw [List.mem_append, List.mem_singleton] at hz
        rcases hz with hz | rfl
        · exact hb z hz
        · exact .inl rfl
      have := alignW_tape d (L ++ [0]) hb2 (by omega)
      rw [tape_app L [0], List.foldl_cons, List.foldl_nil] at this
      rw [this, e, List.replicate_succ, List.append_assoc, List.singleton_append]
/-- Eight bits of a byte behind an edge. -/
theorem byte_fold1 : ∀ c : Fin 256, ((ups 8 0 ((c.val : Nat) : Int)).foldl bitW ⟨[], 0, 0⟩).b = [((c.val : Nat) : Int)] ∧ ((ups 8 0 ((c.val : Nat) : Int)).foldl bitW ⟨[], 0, 0⟩).p = 0 ∧ ((ups 8 0 ((c.val : Nat) : Int)).foldl bitW ⟨[], 0, 0⟩).i = 0 := by decide +kernel
theorem byte_fold0 (c : Fin 256) : (ups 8 0 ((c.val : Nat) : Int)).foldl bitW ⟨[], 0, 0⟩ = ⟨[((c.val : Nat) : Int)], 0, 0⟩ := by
  obtain ⟨h1, h2, h3⟩ := byte_fold1 c
  generalize (ups 8 0 ((c.val : Nat) : Int)).foldl bitW ⟨[], 0, 0⟩ = s at *
  cases s
  simp_all
theorem fold_pre : ∀ (M : List Int) (b b2 : List Int) (p i : Int), (M.foldl bitW ⟨b ++ b2, p, i⟩) = ⟨b ++ (M.foldl bitW ⟨b2, p, i⟩).b, (M.foldl bitW ⟨b2, p, i⟩).p, (M.foldl bitW ⟨b2, p, i⟩).i⟩
  | [], b, b2, p, i => rfl
  | z :: M, b, b2, p, i => by
    rw [List.foldl_cons, List.foldl_cons]
    have e : bitW ⟨b ++ b2, p, i⟩ z = ⟨b ++ (bitW ⟨b2, p, i⟩ z).b, (bitW ⟨b2, p, i⟩ z).p, (bitW ⟨b2, p, i⟩ z).i⟩ := by
      unfold bitW bitB
      simp only
      split <;> simp
    rw [e, fold_pre M]
theorem byte_fold (b : List Int) (c : Int) (hc : Byte c) : (ups 8 0 c).foldl bitW ⟨b, 0, 0⟩ = ⟨b ++ [c], 0, 0⟩ := by
  unfold Byte at hc
  have h := byte_fold0 ⟨c.toNat, by omega⟩
  simp only [Int.toNat_of_nonneg hc.1] at h
  have h2 := fold_pre (ups 8 0 c) b [] 0 0
  rw [List.append_nil, h] at h2
  exact h2
theorem bytes_fold : ∀ (l : List Int) (b : List Int), (∀ c ∈ l, Byte c) → (bits8 l).foldl bitW ⟨b, 0, 0⟩ = ⟨b ++ l, 0, 0⟩
  | [], b, _ => by simp [bits8]
  | c :: l, b, h => by
    rw [show c :: l = [c] ++ l from rfl, bits8_append, List.foldl_append, bits8_one, byte_fold b c (h c List.mem_cons_self), bytes_fold l _ (fun y hy => h y (List.mem_cons_of_mem _ hy)), List.append_assoc]
theorem raw_tape (L l : List Int) (hb : ∀ z ∈ L, Bit z) (h8 : L.length % 8 = 0) (hl : ∀ c ∈ l, Byte c) : tape (L ++ bits8 l) = ⟨(tape L).b ++ l, (tape L).p, (tape L).i⟩ := by
  obtain ⟨h1, h2⟩ := tape_p L hb h8
  have e : tape L = ⟨(tape L).b, 0, 0⟩ := by
    rw [← h1]
    conv => lhs; rw [show tape L = ⟨(tape L).b, (tape L).p, (tape L).i⟩ from rfl]
    rw [h2, h1]
  rw [tape_app, h1, h2]
  conv => lhs; rw [e]
  exact bytes_fold l _ hl
theorem bits8_bits (l : List Int) : ∀ z ∈ bits8 l, Bit z := by
  intro z hz
  unfold bits8 at hz
  rw [List.mem_flatten] at hz
  obtain ⟨x, hx, hz⟩ := hz
  rw [List.mem_map] at hx
  obtain ⟨c, _, rfl⟩ := hx
  exact ups_bits c 8 0 z hz
theorem rep_bits (d : Nat) : ∀ z ∈ List.replicate d (0 : Int), Bit z := by
  intro z hz
  rw [List.mem_replicate] at hz
  exact .inl hz.2
theorem app_bits {L M : List Int} (h : ∀ z ∈ L, Bit z) (h2 : ∀ z ∈ M, Bit z) : ∀ z ∈ L ++ M, Bit z := by
  intro z hz
  rw [List.mem_append] at hz
  exact hz.elim (h z) (h2 z)

/-! ### the bytes -/
theorem bytesW_bit {s : BW} (h : BW.wf s) (z : Int) : bytesW (bitW s z) = s.b ++ [ptF s.p s.i z] := by
  have h0 := h.i0
  unfold bytesW bitW bitB bitP bitI
  simp only
  by_cases h8 : s.i + 1 = 8
  · rw [if_pos h8, if_pos h8, if_pos h8, if_neg (by omega)]
  · rw [if_neg h8, if_neg h8, if_neg h8, if_pos (by omega)]
theorem or_low (p z : Int) (hz : Bit z) (i : Nat) : Go.bits .or .u8 p (z * 2 ^ i % 256) = Go.bits .or .u8 p (Go.bits .and .i64 z 1 % 256 * 2 ^ i % 256) := by
  unfold Bit at hz
  rw [and1 z (by omega) (by omega)]
  rcases hz with rfl | rfl <;> rfl
theorem rd_at (a b : List Int) (n : Nat) (hn : a.length = n) : rd (a ++ b) (n : Int) = b.getD 0 0 := by
  unfold rd
  rw [Int.toNat_natCast, List.getD_eq_getElem?_getD, List.getElem?_append_right (by omega), hn, Nat.sub_self, ← List.getD_eq_getElem?_getD]
theorem set_at (a b : List Int) (y z : Int) (n : Nat) (hn : a.length = n) : (a ++ y :: b).set n z = a ++ z :: b := by
  rw [List.set_append_right _ _ (by omega), hn, Nat.sub_self, List.set_cons_zero]
theorem take_snoc (L : List Int) (j : Nat) (h : j < L.length) : L.take (j + 1) = L.take j ++ [rd L (j : Int)] := take_rd L j h
theorem outN_eq (L : List Int) (hb : ∀ z ∈ L, Bit z) : ∀ j, j ≤ L.length → outN L j = bytesW (tape (L.take j)) ++ List.replicate ((L.length + 7) / 8 - (j + 7) / 8) 0
  | 0, _ => by
    rw [outN, List.take_zero]
    show _ = bytesW ⟨[], 0, 0⟩ ++ _
    rw [show bytesW ⟨[], 0, 0⟩ = [] from rfl, List.nil_append]
    rfl
  | j + 1, h => by
    have ih := outN_eq L hb j (by omega)
    have hbt : ∀ z ∈ L.take j, Bit z := fun z hz => hb z (List.mem_of_mem_take hz)
    obtain ⟨hw, hT⟩ := tape_wf (L.take j) hbt
    obtain ⟨hi, hlb⟩ := tape_i (L.take j) hbt
    have hlt : (L.take j).length = j := by rw [List.length_take]; omega
    rw [hlt] at hi hlb
    have hz : Bit (rd L (j : Int)) := by
      have : rd L (j : Int) ∈ L := by
        unfold rd
        rw [Int.toNat_natCast, List.getD_eq_getElem?_getD, List.getElem?_eq_getElem (by omega)]
        exact List.getElem_mem _
      exact hb _ this
    rw [outN, ih, take_snoc L j (by omega), tape_app, List.foldl_cons, List.foldl_nil, bytesW_bit hw]
    have hpt : ptF (tape (L.take j)).p (tape (L.take j)).i (rd L (j : Int)) = Go.bits .or .u8 (tape (L.take j)).p (rd L (j : Int) * 2 ^ (j % 8) % 256) := by
      unfold ptF
      rw [hi, Int.toNat_natCast, or_low _ _ hz]
    rw [hpt]
    unfold orAt bytesW
    by_cases h0 : 0 < (tape (L.take j)).i
    · rw [if_pos h0, List.append_assoc, rd_at _ _ _ hlb]
      rw [show [(tape (L.take j)).p] ++ List.replicate ((L.length + 7) / 8 - (j + 7) / 8) (0 : Int) = (tape (L.take j)).p :: List.replicate ((L.length + 7) / 8 - (j + 7) / 8) 0 from rfl, set_at _ _ _ _ _ hlb, List.getD_cons_zero, List.append_assoc]
      rw [show (j + 7) / 8 = (j + 1 + 7) / 8 by omega]
      rfl
    · rw [if_neg h0]
      have h8 : j % 8 = 0 := by omega
      have hp : (tape (L.take j)).p = 0 := (tape_p (L.take j) hbt (by rw [hlt]; exact h8)).2
      obtain ⟨q, hq⟩ : ∃ q, (L.length + 7) / 8 - (j + 7) / 8 = q + 1 := ⟨(L.length + 7) / 8 - (j + 7) / 8 - 1, by omega⟩
      rw [hq, rd_at _ _ _ hlb, List.replicate_succ, set_at _ _ _ _ _ hlb, List.getD_cons_zero, hp, List.append_assoc]
      rw [show (L.length + 7) / 8 - (j + 1 + 7) / 8 = q by omega]
      rfl
theorem out_eq (L : List Int) (hb : ∀ z ∈ L, Bit z) : outN L L.length = bytesW (tape L) := by
  rw [outN_eq L hb L.length (Nat.le_refl _), List.take_length, Nat.sub_self, List.replicate_zero, List.append_nil]
theorem bytesW_len (L : List Int) (hb : ∀ z ∈ L, Bit z) : (bytesW (tape L)).length ≤ L.length := by
  obtain ⟨h1, h2⟩ := tape_wf L hb
  rw [(bytesW_wf h1).2.2, h2]
  omega
end Go.Proofs.Ytblneonbilbaiaa.Mat
