/- A decoder's steps: what (*huff.Decoder).more and Next do. No conditions beside those that each theorem says. -/
import Derived.Test.YtachnclfgjdglaaDeco
namespace Go.Proofs.Ytachnclfgjdglaa.Coin
open Go.RowKit Go.Sort Go.Proofs.YtachnclfgjdglaaW.PrintWords Go.Proofs.YtachnclfgjdglaaW.PrintLast Go.Proofs.YtachnclfgjdglaaW.PrintMore
set_option linter.unusedVariables false
set_option linter.unusedSimpArgs false

def lenY (Y : List Yr) (k : Nat) : Nat := (Y.getD k ⟨[], none, 0⟩).s.length
def moreAt (F : List Int) (c : Nat → Nat) (co le : Int) (k : Nat) : Bool := decide ((c k : Int) > 0) && (decide (F.getD k 0 < co * 2 ^ (k - le.toNat) + 2 ^ (k - le.toNat)) && decide (F.getD k 0 + (c k : Int) > co * 2 ^ (k - le.toNat)))
def moreP (F : List Int) (c : Nat → Nat) (co le : Int) : Nat → Nat → Bool
  | 0, _ => false
  | n + 1, k => moreAt F c co le k || moreP F c co le n (k + 1)
theorem shl_le (x : Int) (n : Nat) (h0 : 0 ≤ x) (h1 : x ≤ 65536) (hn : n ≤ 15) : 0 ≤ x * 2 ^ n ∧ x * 2 ^ n ≤ 2147483648 := by
  have key : ∀ n : Fin 16, (0 : Int) < 2 ^ n.val ∧ (2 : Int) ^ n.val ≤ 32768 := by decide +kernel
  obtain ⟨k1, k2⟩ := key ⟨n, by omega⟩
  simp only at k1 k2
  refine ⟨Int.mul_nonneg h0 (Int.le_of_lt k1), ?_⟩
  have := Int.mul_le_mul h1 k2 (Int.le_of_lt k1) (by omega : (0 : Int) ≤ 65536)
  omega
theorem shl_any (x : Int) (n : Nat) (h0 : 0 ≤ x) (h1 : x ≤ 65536) (hn : n ≤ 15) : IntKind.i64.wrap (x * 2 ^ min n 64) = x * 2 ^ n ∧ wrap64 (x * 2 ^ min n 64) = x * 2 ^ n := by
  have := shl_le x n h0 h1 hn
  rw [Nat.min_eq_left (by omega : n ≤ 64)]
  have h : wrap64 (x * 2 ^ n) = x * 2 ^ n := by
    generalize x * 2 ^ n = z at this ⊢
    unfold wrap64
    omega
  exact ⟨by rw [i64_w]; exact h, h⟩
theorem sums (lo po f : Int) (yn : Nat) (h1 : 0 ≤ lo ∧ lo ≤ 2147483648) (h2 : 0 ≤ po ∧ po ≤ 2147483648) (h3 : 0 ≤ f ∧ f ≤ 1099511627776) (h4 : yn ≤ 1000) : wrap64 (lo + po) = lo + po ∧ wrap64 (f + (yn : Int)) = f + (yn : Int) := by
  unfold wrap64
  omega
theorem Dec.f {w : World} {base g : Nat} {F : List Int} {Y : List Yr} {co le : Int} (h : Dec w base g F Y co le) (k : Nat) (hk : k < 17) : w.cell? ⟨g, k, none⟩ = some (.int .i64 (F.getD k 0)) := by
  rw [cell_of_row w g _ _ _ _ h.blk, List.getElem?_toArray]
  unfold decC
  rw [List.getElem?_append_left (by rw [List.length_map, h.fl]; exact hk), List.getElem?_map, List.getD_eq_getElem?_getD, List.getElem?_eq_getElem (by rw [h.fl]; exact hk)]
  rfl
theorem decC_33 {F : List Int} {Y : List Yr} {co le : Int} (hf : F.length = 17) (hy : Y.length = 16) : (decC F Y co le)[33]? = some (.int .i64 co) ∧ (decC F Y co le)[34]? = some (.int .i64 le) := by
  unfold decC
  rw [List.getElem?_append_right (by simp only [List.length_map]; omega), List.getElem?_append_right (by simp only [List.length_map]; omega), List.getElem?_append_right (by simp only [List.length_map]; omega), List.getElem?_append_right (by simp only [List.length_map]; omega)]
  simp [hf, hy]
theorem decC_s33 {F : List Int} {Y : List Yr} {co le : Int} (hf : F.length = 17) (hy : Y.length = 16) (z : Int) : (decC F Y co le).set 33 (.int .i64 z) = decC F Y z le ∧ (decC F Y co le).set 34 (.int .i64 z) = decC F Y co z := by
  unfold decC
  rw [List.set_append_right _ _ (by simp only [List.length_map]; omega), List.set_append_right _ _ (by simp only [List.length_map]; omega), List.set_append_right _ _ (by simp only [List.length_map]; omega), List.set_append_right _ _ (by simp only [List.length_map]; omega)]
  simp [hf, hy]
theorem Dec.co_ {w : World} {base g : Nat} {F : List Int} {Y : List Yr} {co le : Int} (h : Dec w base g F Y co le) : w.cell? ⟨g, 33, none⟩ = some (.int .i64 co) := by
  rw [cell_of_row w g _ _ _ _ h.blk, List.getElem?_toArray]
  exact (decC_33 h.fl h.yl).1
theorem Dec.le_ {w : World} {base g : Nat} {F : List Int} {Y : List Yr} {co le : Int} (h : Dec w base g F Y co le) : w.cell? ⟨g, 34, none⟩ = some (.int .i64 le) := by
  rw [cell_of_row w g _ _ _ _ h.blk, List.getElem?_toArray]
  exact (decC_33 h.fl h.yl).2
theorem Dec.free {w : World} {base g : Nat} {F : List Int} {Y : List Yr} {co le : Int} (h : Dec w base g F Y co le) (o : Nat) : w.frozen? ⟨g, o, none⟩ = false := blk_frozen h.blk o
theorem Dec.s33 {w : World} {base g : Nat} {F : List Int} {Y : List Yr} {co le : Int} (h : Dec w base g F Y co le) (z : Int) : Dec (w.setCell ⟨g, 33, none⟩ (.int .i64 z)) base g F Y z le := by
  refine ⟨?_, h.fl, h.yl, fun y hy => Kd.R_far (h.row y hy) (p := ⟨g, 33, none⟩) (fun _ h => h) _, h.apart, h.gb⟩
  rw [heap_set_at w g _ _ _ _ h.blk, List.setIfInBounds_toArray, (decC_s33 h.fl h.yl z).1]
theorem Dec.s34 {w : World} {base g : Nat} {F : List Int} {Y : List Yr} {co le : Int} (h : Dec w base g F Y co le) (z : Int) : Dec (w.setCell ⟨g, 34, none⟩ (.int .i64 z)) base g F Y co z := by
  refine ⟨?_, h.fl, h.yl, fun y hy => Kd.R_far (h.row y hy) (p := ⟨g, 34, none⟩) (fun _ h => h) _, h.apart, h.gb⟩
  rw [heap_set_at w g _ _ _ _ h.blk, List.setIfInBounds_toArray, (decC_s33 h.fl h.yl z).2]
theorem Dec.drewN {w : World} {base g : Nat} {F : List Int} {Y : List Yr} {co le : Int} (h : Dec w base g F Y co le) (n : Nat) : Dec (w.drewN n) base g F Y co le := h.below (Drawn0.mk ⟨n, rfl⟩ : Drawn0 w (w.drewN n)).below
theorem Dec.y {w : World} {base g : Nat} {F : List Int} {Y : List Yr} {co le : Int} (h : Dec w base g F Y co le) (k : Int) (h0 : 0 ≤ k) (h1 : k < 16) : ∃ y, Y[k.toNat]? = some y ∧ y.s.length = lenY Y k.toNat ∧ w.cell? ⟨g, 17 + k.toNat, none⟩ = some (.slice y.a y.s.length y.c) := by
  obtain ⟨y, hy⟩ : ∃ y, Y[k.toNat]? = some y := ⟨_, List.getElem?_eq_getElem (by have := h.yl; omega)⟩
  exact ⟨y, hy, by unfold lenY; rw [List.getD_eq_getElem?_getD, hy]; rfl, (h.cell k h0 h1 y hy).1⟩
set_option maxHeartbeats 8000000 in
set_option maxRecDepth 100000 in
theorem more (w : World) (base g : Nat) (F : List Int) (Y : List Yr) (co le : Int) (h : Dec w base g F Y co le) (hle : 0 ≤ le ∧ le ≤ 15) (hco : 0 ≤ co ∧ co ≤ 65536) (hF : ∀ k, 0 ≤ F.getD k 0 ∧ F.getD k 0 ≤ 1099511627776) (hY : ∀ k, lenY Y k ≤ 1000) :
    Calls Try.prog 35 #[.pointer (some ⟨g, 0, none⟩)] w fun e w' => e = .returned (.bool (moreP F (lenY Y) co le (15 - le.toNat) (le.toNat + 1))) ∧ Drawn0 w w' := by
  have HD := Aside0.mk h
  have HLE := Aside0.mk hle
  have HCO := Aside0.mk hco
  have HF := Aside0.mk hF
  have HY := Aside0.mk hY
  have hc33 := h.co_
  have hc34 := h.le_
  have hwk : wrap64 (le + 1) = le + 1 := by unfold wrap64; omega
  clear h hle hco hF hY
  go_enter Try.func35, Try.ntmps35
  go_wp2
  rw [hwk]
  clear hwk hc33 hc34
  go_loopg [3, 4, 5] (15 - le.toNat) (fun gg v3 _ _ wr => ∃ (n : Nat) (k : Int), le < k ∧ k + n = 16 ∧ n ≤ gg ∧ v3 = .int .i64 k ∧ Aside0 (moreP F (lenY Y) co le n k.toNat = moreP F (lenY Y) co le (15 - le.toNat) (le.toNat + 1)) ∧ Aside0 (Dec wr base g F Y co le) ∧ Aside0 (Drawn0 w wr))
  case atStart => exact ⟨15 - le.toNat, le + 1, by omega, by have := HLE.out; omega, by omega, rfl, ⟨by have := HLE.out; congr 1; omega⟩, HD, ⟨Drawn0.refl _⟩⟩
  case round =>
    obtain ⟨n, k, hk0, hkn, hgg, rfl, HM, HD, HW⟩ := hrel
    cases n with
    | zero =>
      have hd1 : decide (k ≤ 15) = false := decide_eq_false (by omega)
      clear hk0 hkn hgg
      go_wp2
      go_ret
      exact ⟨by rw [← HM.out]; rfl, HW.out⟩
    | succ n =>
    have hk16 : k ≤ 15 := by omega
    have hk1 : 0 ≤ k := by have := HLE.out; omega
    have hd1 : decide (k ≤ 15) = true := decide_eq_true hk16
    have hkw : wrap64 (k + 1) = k + 1 := by unfold wrap64; omega
    obtain ⟨y, hy, hyl, hyc⟩ := HD.out.y k hk1 (by omega)
    have hfc := HD.out.f k.toNat (by omega)
    have hc33 := HD.out.co_
    have hc34 := HD.out.le_
    have hm : moreP F (lenY Y) co le (n + 1) k.toNat = (moreAt F (lenY Y) co le k.toNat || moreP F (lenY Y) co le n (k + 1).toNat) := by
      rw [moreP, show (k + 1).toNat = k.toNat + 1 by omega]
    have hmat : moreAt F (lenY Y) co le k.toNat = (decide ((lenY Y k.toNat : Int) > 0) && (decide (F.getD k.toNat 0 < co * 2 ^ (k.toNat - le.toNat) + 2 ^ (k.toNat - le.toNat)) && decide (F.getD k.toNat 0 + (lenY Y k.toNat : Int) > co * 2 ^ (k.toNat - le.toNat)))) := rfl
    have hfb := HF.out k.toNat
    have hyb := HY.out k.toNat
    rw [← hyl] at hmat hyb
    obtain ⟨d, hd⟩ : ∃ d : Int, wrap64 (k - le) = d := ⟨_, rfl⟩
    have hd2 : d = k - le := by rw [← hd]; have := HLE.out; unfold wrap64; omega
    have hd0 : 0 ≤ d := by omega
    have hdd : decide (0 ≤ d) = true := decide_eq_true hd0
    have hdn : d.toNat = k.toNat - le.toNat := by have := HLE.out; omega
    have hd15 : d.toNat ≤ 15 := by have := HLE.out; omega
    rw [← hdn] at hmat
    obtain ⟨s1, s2⟩ := shl_any co d.toNat HCO.out.1 HCO.out.2 hd15
    obtain ⟨p3, p4⟩ := shl_any 1 d.toNat (by decide) (by decide) hd15
    have s3 := p3.trans (Int.one_mul _)
    have s4 := p4.trans (Int.one_mul _)
    clear p3 p4
    have s5 := s3
    have s6 := s4
    rw [Int.one_mul] at s5 s6
    have hlo := shl_le co d.toNat HCO.out.1 HCO.out.2 hd15
    have hpo := shl_le 1 d.toNat (by decide) (by decide) hd15
    rw [Int.one_mul] at hpo
    generalize co * 2 ^ d.toNat = lo at hmat s1 s2 hlo
    generalize (2 : Int) ^ d.toNat = po at hmat s3 s4 s5 s6 hpo
    generalize F.getD k.toNat 0 = f at hmat hfc hfb
    generalize y.s.length = yn at hmat hyc hyl hyb
    obtain ⟨hi, hhe⟩ : ∃ hi : Int, hi = lo + po := ⟨_, rfl⟩
    rw [← hhe] at hmat
    obtain ⟨su, hse⟩ : ∃ su : Int, su = f + (yn : Int) := ⟨_, rfl⟩
    rw [← hse] at hmat
    obtain ⟨q1, q2⟩ := sums lo po f yn hlo hpo hfb hyb
    have hhi := q1.trans hhe.symm
    have hsu := q2.trans hse.symm
    clear q1 q2
    have z1 : (0 ≤ k) = True := eq_true hk1
    have z2 : (k < 16) = True := eq_true (by omega)
    have z3 : (k < 17) = True := eq_true (by omega)
    clear hhe hse
    have HK := Aside0.mk (And.intro hk0 (And.intro hkn hgg))
    have HKW := Aside0.mk hkw
    have HMM := Aside0.mk hm
    clear hk0 hkn hgg hm hfb hyb hd2 hdn hd15 hlo hpo hk16 hk1 hy hyl hkw
    have b1e : decide (0 < yn) = decide ((yn : Int) > 0) := by congr 1; exact propext (by omega)
    cases b1 : decide ((yn : Int) > 0) with
    | false =>
      rw [b1] at hmat b1e
      have HMA := Aside0.mk hmat
      clear hmat
      have hkw := HKW.out
      go_wp2
      repeat (go_quiet (fail); try go_wp2)
      clear hkw
      go_roundg n
      case measure => have := HK.out; omega
      case rel =>
        have h1 := HK.out
        exact ⟨n, k + 1, by omega, by omega, by omega, by first | rw [HKW.out] | go_num, ⟨by rw [← HM.out, HMM.out, HMA.out]; rfl⟩, ⟨HD.out.drewN _⟩, ⟨HW.out.step _⟩⟩
    | true =>
      cases b2 : decide (f < hi) with
      | false =>
        rw [b1, b2] at hmat
        rw [b1] at b1e
        have b2' : decide (f < wrap64 (lo + po)) = false := by rw [hhi]; exact b2
        have HMA := Aside0.mk hmat
        clear hmat
        have hkw := HKW.out
        go_wp2
        repeat (go_quiet (fail); try go_wp2)
        clear hkw
        go_roundg n
        case measure => have := HK.out; omega
        case rel =>
          have h1 := HK.out
          exact ⟨n, k + 1, by omega, by omega, by omega, by first | rw [HKW.out] | go_num, ⟨by rw [← HM.out, HMM.out, HMA.out]; rfl⟩, ⟨HD.out.drewN _⟩, ⟨HW.out.step _⟩⟩
      | true =>
        cases b3 : decide (su > lo) with
        | false =>
          rw [b1, b2, b3] at hmat
          rw [b1] at b1e
          have b2' : decide (f < wrap64 (lo + po)) = true := by rw [hhi]; exact b2
          have b3' : decide (lo < wrap64 (f + (yn : Int))) = false := by rw [hsu]; exact b3
          have b3'' : decide (lo < su) = false := b3
          have HMA := Aside0.mk hmat
          clear hmat
          have hkw := HKW.out
          go_wp2
          repeat (go_quiet (fail); try go_wp2)
          clear hkw
          go_roundg n
          case measure => have := HK.out; omega
          case rel =>
            have h1 := HK.out
            exact ⟨n, k + 1, by omega, by omega, by omega, by first | rw [HKW.out] | go_num, ⟨by rw [← HM.out, HMM.out, HMA.out]; rfl⟩, ⟨HD.out.drewN _⟩, ⟨HW.out.step _⟩⟩
        | true =>
          rw [b1, b2, b3] at hmat
          rw [b1] at b1e
          have b2' : decide (f < wrap64 (lo + po)) = true := by rw [hhi]; exact b2
          have b3' : decide (lo < wrap64 (f + (yn : Int))) = true := by rw [hsu]; exact b3
          have b3'' : decide (lo < su) = true := b3
          have HMA := Aside0.mk hmat
          clear hmat
          go_wp2
          repeat (go_quiet (fail); try go_wp2)
          go_ret
          exact ⟨by rw [← HM.out, HMM.out, HMA.out]; rfl, (HW.out.step _).step _⟩
/-- a state's block alone has turned -/
structure To (base : Nat) (w w1 : World) (g : Nat) : Prop where
  below : Below base w w1
  keep : KeepBut w w1 g none
theorem To.refl (base : Nat) (w : World) (g : Nat) : To base w w g := ⟨Below.refl _ _, KeepBut.refl _ _ _⟩
theorem To.set {base : Nat} {w w1 : World} {g : Nat} (h : To base w w1 g) (hb : base ≤ g) (j : Nat) (u : Value) : To base w (w1.setCell ⟨g, j, none⟩ u) g := ⟨h.below.setCell (p := ⟨g, j, none⟩) hb _, h.keep.set_ j u⟩
theorem To.drewN {base : Nat} {w w1 : World} {g : Nat} (h : To base w w1 g) (n : Nat) : To base w (w1.drewN n) g := ⟨pw_below_drewN h.below n, keep_drewN h.keep n⟩
theorem To.trans {base : Nat} {w w1 w2 : World} {g : Nat} (h : To base w w1 g) (k : To base w1 w2 g) : To base w w2 g := ⟨h.below.trans k.below, h.keep.trans k.keep (.inl rfl)⟩
theorem To.drawn {base : Nat} {w w1 : World} {g : Nat} (hb : base ≤ w.heap.size) (h : Drawn0 w w1) : To base w w1 g := ⟨h.below.mono hb, KeepBut.of_below h.below _ _⟩
def coN (co bit : Int) : Int := if bit = 0 then co * 2 else co * 2 + 1
def nextP (F : List Int) (s : Nat → List Int) (co le bit : Int) : Int × Int × Int :=
  if 0 ≤ coN co bit - F.getD (le.toNat + 1) 0 ∧ coN co bit - F.getD (le.toNat + 1) 0 < ((s (le.toNat + 1)).length : Int) then ((s (le.toNat + 1)).getD (coN co bit - F.getD (le.toNat + 1) 0).toNat 0, 0, 0)
  else if moreP F (fun k => (s k).length) (coN co bit) (le + 1) (15 - (le + 1).toNat) ((le + 1).toNat + 1) = true then (-1, coN co bit, le + 1) else (-2, 0, 0)
set_option maxHeartbeats 8000000 in
set_option maxRecDepth 100000 in
theorem next0 (w : World) (base g : Nat) (F : List Int) (Y : List Yr) (co le bit : Int) (h : Dec w base g F Y co le) (hle : 0 ≤ le ∧ le ≤ 14) (hco : 0 ≤ co ∧ co ≤ 32767) (hF : ∀ k, 0 ≤ F.getD k 0 ∧ F.getD k 0 ≤ 1099511627776) (hY : ∀ k, lenY Y k ≤ 1000) :
    Calls Try.prog 25 #[.pointer (some ⟨g, 0, none⟩), .int .i64 bit] w fun e w' => e = .returned (.int .i64 (nextP F (fun k => (Y.getD k ⟨[], none, 0⟩).s) co le bit).1) ∧ Dec w' base g F Y (nextP F (fun k => (Y.getD k ⟨[], none, 0⟩).s) co le bit).2.1 (nextP F (fun k => (Y.getD k ⟨[], none, 0⟩).s) co le bit).2.2 ∧ To base w w' g := by
  have HD := Aside0.mk h
  have HLE := Aside0.mk hle
  have HCO := Aside0.mk hco
  have HF := Aside0.mk hF
  have HY := Aside0.mk hY
  have hc33 := h.co_
  have hc34 := h.le_
  have hf0 := h.free
  have hf1 := (h.s33 (co * 2)).free
  have hf2 := ((h.s33 (co * 2)).s33 (co * 2 + 1)).free
  have hk1 : wrap64 (co * 2) = co * 2 := by unfold wrap64; omega
  have hk2 : wrap64 (co * 2 + 1) = co * 2 + 1 := by unfold wrap64; omega
  have hk3 : wrap64 (le + 1) = le + 1 := by unfold wrap64; omega
  have hg1 := (h.s33 (co * 2)).co_
  have hg2 := (h.s33 (co * 2)).le_
  have hg3 := ((h.s33 (co * 2)).s33 (co * 2 + 1)).le_
  clear h hle hco hF hY
  obtain ⟨y, hy, hyl, _⟩ := HD.out.y (le + 1) (by have := HLE.out; omega) (by have := HLE.out; omega)
  have hey : (Y.getD (le.toNat + 1) ⟨[], none, 0⟩) = y := by rw [List.getD_eq_getElem?_getD, show le.toNat + 1 = (le + 1).toNat by have := HLE.out; omega, hy]; rfl
  have hyr := HD.out.row y (List.mem_of_getElem? hy)
  obtain ⟨f, hf⟩ : ∃ f, f = F.getD (le.toNat + 1) 0 := ⟨_, rfl⟩
  have hfb := HF.out (le.toNat + 1)
  have hyb := HY.out (le + 1).toNat
  rw [← hyl] at hyb
  rw [← hf] at hfb
  have hn : ∀ b, coN co bit = b → nextP F (fun k => (Y.getD k ⟨[], none, 0⟩).s) co le bit = (if 0 ≤ b - f ∧ b - f < (y.s.length : Int) then (y.s.getD (b - f).toNat 0, 0, 0) else if moreP F (lenY Y) b (le + 1) (15 - (le + 1).toNat) ((le + 1).toNat + 1) = true then (-1, b, le + 1) else (-2, 0, 0)) := by
    rintro b rfl
    rw [nextP]
    simp only [hey, ← hf]
    rfl
  have HN := Aside0.mk hn
  have HYF := Aside0.mk (And.intro hy (And.intro hf (And.intro hyr (And.intro hfb hyb))))
  clear hn hy hey hyl hyr hf hfb hyb
  by_cases hb : bit = 0
  · have hb1 : (bit != 0) = false := by simp [hb]
    have hcn : coN co bit = co * 2 := if_pos hb
    have HCN := Aside0.mk (And.intro hcn (And.intro (show 0 ≤ co * 2 by have := HCO.out; omega) (show co * 2 ≤ 65535 by have := HCO.out; omega)))
    clear hb hcn
    go_enter Try.func25, Try.ntmps25
    go_wp2
    have HD3 := Aside0.mk (((HD.out.s33 (co * 2))).s34 (le + 1))
    have HT3 := Aside0.mk (((To.refl base w g).set HD.out.gb 33 (.int .i64 (co * 2))).set HD.out.gb 34 (.int .i64 (le + 1)))
    generalize (w.setCell ⟨g, 33, none⟩ (.int .i64 (co * 2))).setCell ⟨g, 34, none⟩ (.int .i64 (le + 1)) = w3 at HD3 HT3 ⊢
    clear hc33 hc34 hf0 hf1 hf2 hg1 hg2 hg3
    generalize co * 2 = c1 at HCN HD3 hk1 ⊢
    clear hb1
    obtain ⟨hy, hfe, hyr, hfb, hyb⟩ := HYF.out
    obtain ⟨ys, ya, yc⟩ := y
    have hyc : w3.cell? ⟨g, 17 + (le + 1).toNat, none⟩ = some (.slice ya ys.length yc) := (HD3.out.cell (le + 1) (by have := HLE.out; omega) (by have := HLE.out; omega) _ hy).1
    have HYR := Aside0.mk (Kd.R_reads' (show Kd.R (Kd.int .i64) 3 w3 base (fun k => k ≠ g) (.slice ya ys.length yc) ys from HD3.out.row _ (List.mem_of_getElem? hy))).2.2
    have hfc : w3.cell? ⟨g, (le + 1).toNat, none⟩ = some (.int .i64 f) := by
      rw [HD3.out.f (le + 1).toNat (by have := HLE.out; omega), show (le + 1).toNat = le.toNat + 1 by have := HLE.out; omega, hfe]
    have hc33 := HD3.out.co_
    have hc34 := HD3.out.le_
    have hfz := HD3.out.free
    have hfy := (HD3.out.s33 0).free
    have z1 : (0 ≤ le + 1) = True := eq_true (by have := HLE.out; omega)
    have z2 : (le + 1 < 16) = True := eq_true (by have := HLE.out; omega)
    have z3 : (le + 1 < 17) = True := eq_true (by have := HLE.out; omega)
    obtain ⟨at_, hat⟩ : ∃ at_ : Int, at_ = c1 - f := ⟨_, rfl⟩
    have hatw : wrap64 (c1 - f) = at_ := by have := HCN.out.2; clear hk1 hk2 hk3; unfold wrap64; omega
    have HAT := Aside0.mk hat
    have hx := HN.out c1 HCN.out.1
    rw [← hat] at hx
    simp only at hx hyb hyr
    have HX := Aside0.mk hx
    have hfr := HD3.out
    clear hx hat hfe hfb HYF hy
    by_cases q1 : 0 ≤ at_
    case neg =>
      have b1 : decide (0 ≤ at_) = false := decide_eq_false q1
      have b1' : decide (at_ ≥ 0) = false := b1
      have hxx := HX.out
      rw [if_neg (fun h => q1 h.1)] at hxx
      cases hm : moreP F (lenY Y) c1 (le + 1) (15 - (le + 1).toNat) ((le + 1).toNat + 1) with
      | true =>
        rw [hm, if_pos rfl] at hxx
        have HXX := Aside0.mk hxx
        have HM := Aside0.mk hm
        clear hxx hm q1 hyr
        go_quiet (fail)
        go_wp2
        go_quiet (fail)
        go_wp2_with (go_at_call 35; refine (more _ base g F Y c1 (le + 1) (by first | exact ((HD3.out.drewN _).s33 0).s34 0 | exact (((HD3.out.drewN _).drewN _).s33 0).s34 0 | exact HD3.out.drewN _ | exact (HD3.out.drewN _).drewN _) (by have := HLE.out; omega) (by have := HCN.out.2; omega) HF.out HY.out).mono ?_; rw [HM.out]; rintro e w4 ⟨rfl, hd4⟩; obtain ⟨n4, rfl⟩ := hd4.out)
        go_ret
        rw [HXX.out]
        exact ⟨by rfl, by show Dec _ base g F Y c1 (le + 1); first | exact ((HD3.out.drewN _).s33 0).s34 0 | exact (((HD3.out.drewN _).drewN _).s33 0).s34 0 | exact HD3.out.drewN _ | exact (HD3.out.drewN _).drewN _, by repeat (first | exact HT3.out | refine To.drewN ?_ _ | refine To.set ?_ HD3.out.gb _ _)⟩
      | false =>
        rw [hm, if_neg (by decide)] at hxx
        have HXX := Aside0.mk hxx
        have HM := Aside0.mk hm
        clear hxx hm q1 hyr
        go_quiet (fail)
        go_wp2
        go_quiet (fail)
        go_wp2_with (go_at_call 35; refine (more _ base g F Y c1 (le + 1) (by first | exact ((HD3.out.drewN _).s33 0).s34 0 | exact (((HD3.out.drewN _).drewN _).s33 0).s34 0 | exact HD3.out.drewN _ | exact (HD3.out.drewN _).drewN _) (by have := HLE.out; omega) (by have := HCN.out.2; omega) HF.out HY.out).mono ?_; rw [HM.out]; rintro e w4 ⟨rfl, hd4⟩; obtain ⟨n4, rfl⟩ := hd4.out)
        go_ret
        rw [HXX.out]
        exact ⟨by rfl, by show Dec _ base g F Y 0 0; first | exact ((HD3.out.drewN _).s33 0).s34 0 | exact (((HD3.out.drewN _).drewN _).s33 0).s34 0 | exact HD3.out.drewN _ | exact (HD3.out.drewN _).drewN _, by repeat (first | exact HT3.out | refine To.drewN ?_ _ | refine To.set ?_ HD3.out.gb _ _)⟩
    case pos =>
    have b1 : decide (0 ≤ at_) = true := decide_eq_true q1
    have b1' : decide (at_ ≥ 0) = true := b1
    by_cases q2 : at_ < (ys.length : Int)
    case neg =>
      have b2 : decide (at_ < (ys.length : Int)) = false := decide_eq_false q2
      have hxx := HX.out
      rw [if_neg (fun h => q2 h.2)] at hxx
      cases hm : moreP F (lenY Y) c1 (le + 1) (15 - (le + 1).toNat) ((le + 1).toNat + 1) with
      | true =>
        rw [hm, if_pos rfl] at hxx
        have HXX := Aside0.mk hxx
        have HM := Aside0.mk hm
        clear hxx hm q1 hyr
        go_quiet (fail)
        go_wp2
        go_quiet (fail)
        go_wp2_with (go_at_call 35; refine (more _ base g F Y c1 (le + 1) (by first | exact ((HD3.out.drewN _).s33 0).s34 0 | exact (((HD3.out.drewN _).drewN _).s33 0).s34 0 | exact HD3.out.drewN _ | exact (HD3.out.drewN _).drewN _) (by have := HLE.out; omega) (by have := HCN.out.2; omega) HF.out HY.out).mono ?_; rw [HM.out]; rintro e w4 ⟨rfl, hd4⟩; obtain ⟨n4, rfl⟩ := hd4.out)
        go_ret
        rw [HXX.out]
        exact ⟨by rfl, by show Dec _ base g F Y c1 (le + 1); first | exact ((HD3.out.drewN _).s33 0).s34 0 | exact (((HD3.out.drewN _).drewN _).s33 0).s34 0 | exact HD3.out.drewN _ | exact (HD3.out.drewN _).drewN _, by repeat (first | exact HT3.out | refine To.drewN ?_ _ | refine To.set ?_ HD3.out.gb _ _)⟩
      | false =>
        rw [hm, if_neg (by decide)] at hxx
        have HXX := Aside0.mk hxx
        have HM := Aside0.mk hm
        clear hxx hm q1 hyr
        go_quiet (fail)
        go_wp2
        go_quiet (fail)
        go_wp2_with (go_at_call 35; refine (more _ base g F Y c1 (le + 1) (by first | exact ((HD3.out.drewN _).s33 0).s34 0 | exact (((HD3.out.drewN _).drewN _).s33 0).s34 0 | exact HD3.out.drewN _ | exact (HD3.out.drewN _).drewN _) (by have := HLE.out; omega) (by have := HCN.out.2; omega) HF.out HY.out).mono ?_; rw [HM.out]; rintro e w4 ⟨rfl, hd4⟩; obtain ⟨n4, rfl⟩ := hd4.out)
        go_ret
        rw [HXX.out]
        exact ⟨by rfl, by show Dec _ base g F Y 0 0; first | exact ((HD3.out.drewN _).s33 0).s34 0 | exact (((HD3.out.drewN _).drewN _).s33 0).s34 0 | exact HD3.out.drewN _ | exact (HD3.out.drewN _).drewN _, by repeat (first | exact HT3.out | refine To.drewN ?_ _ | refine To.set ?_ HD3.out.gb _ _)⟩
    case pos =>
      have b2 : decide (at_ < (ys.length : Int)) = true := decide_eq_true q2
      have hxx := HX.out
      rw [if_pos ⟨q1, q2⟩] at hxx
      obtain ⟨n, rfl⟩ : ∃ n : Nat, at_ = (n : Int) := ⟨at_.toNat, by omega⟩
      rw [Int.toNat_natCast] at hxx
      have hnl : n < ys.length := by omega
      obtain ⟨ad, e, hcell⟩ := at_i HYR.out n hnl
      cases e
      generalize ys.getD n 0 = v at hcell hxx
      have HXX := Aside0.mk hxx
      clear hxx q1 hyr
      go_quiet (fail)
      go_wp2
      repeat (go_quiet (fail); try go_wp2)
      go_ret
      rw [HXX.out]
      exact ⟨by rfl, by show Dec _ base g F Y 0 0; first | exact ((HD3.out.drewN _).s33 0).s34 0 | exact (((HD3.out.drewN _).drewN _).s33 0).s34 0 | exact HD3.out.drewN _ | exact (HD3.out.drewN _).drewN _, by repeat (first | exact HT3.out | refine To.drewN ?_ _ | refine To.set ?_ HD3.out.gb _ _)⟩
  · have hb1 : (bit != 0) = true := by simp [hb]
    have hcn : coN co bit = co * 2 + 1 := if_neg hb
    have HCN := Aside0.mk (And.intro hcn (And.intro (show 0 ≤ co * 2 + 1 by have := HCO.out; omega) (show co * 2 + 1 ≤ 65535 by have := HCO.out; omega)))
    clear hb hcn
    go_enter Try.func25, Try.ntmps25
    go_wp2
    have HD3 := Aside0.mk ((((HD.out.s33 (co * 2))).s33 (co * 2 + 1)).s34 (le + 1))
    have HT3 := Aside0.mk ((((To.refl base w g).set HD.out.gb 33 (.int .i64 (co * 2))).set HD.out.gb 33 (.int .i64 (co * 2 + 1))).set HD.out.gb 34 (.int .i64 (le + 1)))
    generalize ((w.setCell ⟨g, 33, none⟩ (.int .i64 (co * 2))).setCell ⟨g, 33, none⟩ (.int .i64 (co * 2 + 1))).setCell ⟨g, 34, none⟩ (.int .i64 (le + 1)) = w3 at HD3 HT3 ⊢
    clear hc33 hc34 hf0 hf1 hf2 hg1 hg2 hg3
    generalize co * 2 + 1 = c1 at HCN HD3 hk2 ⊢
    clear hb1
    obtain ⟨hy, hfe, hyr, hfb, hyb⟩ := HYF.out
    obtain ⟨ys, ya, yc⟩ := y
    have hyc : w3.cell? ⟨g, 17 + (le + 1).toNat, none⟩ = some (.slice ya ys.length yc) := (HD3.out.cell (le + 1) (by have := HLE.out; omega) (by have := HLE.out; omega) _ hy).1
    have HYR := Aside0.mk (Kd.R_reads' (show Kd.R (Kd.int .i64) 3 w3 base (fun k => k ≠ g) (.slice ya ys.length yc) ys from HD3.out.row _ (List.mem_of_getElem? hy))).2.2
    have hfc : w3.cell? ⟨g, (le + 1).toNat, none⟩ = some (.int .i64 f) := by
      rw [HD3.out.f (le + 1).toNat (by have := HLE.out; omega), show (le + 1).toNat = le.toNat + 1 by have := HLE.out; omega, hfe]
    have hc33 := HD3.out.co_
    have hc34 := HD3.out.le_
    have hfz := HD3.out.free
    have hfy := (HD3.out.s33 0).free
    have z1 : (0 ≤ le + 1) = True := eq_true (by have := HLE.out; omega)
    have z2 : (le + 1 < 16) = True := eq_true (by have := HLE.out; omega)
    have z3 : (le + 1 < 17) = True := eq_true (by have := HLE.out; omega)
    obtain ⟨at_, hat⟩ : ∃ at_ : Int, at_ = c1 - f := ⟨_, rfl⟩
    have hatw : wrap64 (c1 - f) = at_ := by have := HCN.out.2; clear hk1 hk2 hk3; unfold wrap64; omega
    have HAT := Aside0.mk hat
    have hx := HN.out c1 HCN.out.1
    rw [← hat] at hx
    simp only at hx hyb hyr
    have HX := Aside0.mk hx
    have hfr := HD3.out
    clear hx hat hfe hfb HYF hy
    by_cases q1 : 0 ≤ at_
    case neg =>
      have b1 : decide (0 ≤ at_) = false := decide_eq_false q1
      have b1' : decide (at_ ≥ 0) = false := b1
      have hxx := HX.out
      rw [if_neg (fun h => q1 h.1)] at hxx
      cases hm : moreP F (lenY Y) c1 (le + 1) (15 - (le + 1).toNat) ((le + 1).toNat + 1) with
      | true =>
        rw [hm, if_pos rfl] at hxx
        have HXX := Aside0.mk hxx
        have HM := Aside0.mk hm
        clear hxx hm q1 hyr
        go_quiet (fail)
        go_wp2
        go_quiet (fail)
        go_wp2_with (go_at_call 35; refine (more _ base g F Y c1 (le + 1) (by first | exact ((HD3.out.drewN _).s33 0).s34 0 | exact (((HD3.out.drewN _).drewN _).s33 0).s34 0 | exact HD3.out.drewN _ | exact (HD3.out.drewN _).drewN _) (by have := HLE.out; omega) (by have := HCN.out.2; omega) HF.out HY.out).mono ?_; rw [HM.out]; rintro e w4 ⟨rfl, hd4⟩; obtain ⟨n4, rfl⟩ := hd4.out)
        go_ret
        rw [HXX.out]
        exact ⟨by rfl, by show Dec _ base g F Y c1 (le + 1); first | exact ((HD3.out.drewN _).s33 0).s34 0 | exact (((HD3.out.drewN _).drewN _).s33 0).s34 0 | exact HD3.out.drewN _ | exact (HD3.out.drewN _).drewN _, by repeat (first | exact HT3.out | refine To.drewN ?_ _ | refine To.set ?_ HD3.out.gb _ _)⟩
      | false =>
        rw [hm, if_neg (by decide)] at hxx
        have HXX := Aside0.mk hxx
        have HM := Aside0.mk hm
        clear hxx hm q1 hyr
        go_quiet (fail)
        go_wp2
        go_quiet (fail)
        go_wp2_with (go_at_call 35; refine (more _ base g F Y c1 (le + 1) (by first | exact ((HD3.out.drewN _).s33 0).s34 0 | exact (((HD3.out.drewN _).drewN _).s33 0).s34 0 | exact HD3.out.drewN _ | exact (HD3.out.drewN _).drewN _) (by have := HLE.out; omega) (by have := HCN.out.2; omega) HF.out HY.out).mono ?_; rw [HM.out]; rintro e w4 ⟨rfl, hd4⟩; obtain ⟨n4, rfl⟩ := hd4.out)
        go_ret
        rw [HXX.out]
        exact ⟨by rfl, by show Dec _ base g F Y 0 0; first | exact ((HD3.out.drewN _).s33 0).s34 0 | exact (((HD3.out.drewN _).drewN _).s33 0).s34 0 | exact HD3.out.drewN _ | exact (HD3.out.drewN _).drewN _, by repeat (first | exact HT3.out | refine To.drewN ?_ _ | refine To.set ?_ HD3.out.gb _ _)⟩
    case pos =>
    have b1 : decide (0 ≤ at_) = true := decide_eq_true q1
    have b1' : decide (at_ ≥ 0) = true := b1
    by_cases q2 : at_ < (ys.length : Int)
    case neg =>
      have b2 : decide (at_ < (ys.length : Int)) = false := decide_eq_false q2
      have hxx := HX.out
      rw [if_neg (fun h => q2 h.2)] at hxx
      cases hm : moreP F (lenY Y) c1 (le + 1) (15 - (le + 1).toNat) ((le + 1).toNat + 1) with
      | true =>
        rw [hm, if_pos rfl] at hxx
        have HXX := Aside0.mk hxx
        have HM := Aside0.mk hm
        clear hxx hm q1 hyr
        go_quiet (fail)
        go_wp2
        go_quiet (fail)
        go_wp2_with (go_at_call 35; refine (more _ base g F Y c1 (le + 1) (by first | exact ((HD3.out.drewN _).s33 0).s34 0 | exact (((HD3.out.drewN _).drewN _).s33 0).s34 0 | exact HD3.out.drewN _ | exact (HD3.out.drewN _).drewN _) (by have := HLE.out; omega) (by have := HCN.out.2; omega) HF.out HY.out).mono ?_; rw [HM.out]; rintro e w4 ⟨rfl, hd4⟩; obtain ⟨n4, rfl⟩ := hd4.out)
        go_ret
        rw [HXX.out]
        exact ⟨by rfl, by show Dec _ base g F Y c1 (le + 1); first | exact ((HD3.out.drewN _).s33 0).s34 0 | exact (((HD3.out.drewN _).drewN _).s33 0).s34 0 | exact HD3.out.drewN _ | exact (HD3.out.drewN _).drewN _, by repeat (first | exact HT3.out | refine To.drewN ?_ _ | refine To.set ?_ HD3.out.gb _ _)⟩
      | false =>
        rw [hm, if_neg (by decide)] at hxx
        have HXX := Aside0.mk hxx
        have HM := Aside0.mk hm
        clear hxx hm q1 hyr
        go_quiet (fail)
        go_wp2
        go_quiet (fail)
        go_wp2_with (go_at_call 35; refine (more _ base g F Y c1 (le + 1) (by first | exact ((HD3.out.drewN _).s33 0).s34 0 | exact (((HD3.out.drewN _).drewN _).s33 0).s34 0 | exact HD3.out.drewN _ | exact (HD3.out.drewN _).drewN _) (by have := HLE.out; omega) (by have := HCN.out.2; omega) HF.out HY.out).mono ?_; rw [HM.out]; rintro e w4 ⟨rfl, hd4⟩; obtain ⟨n4, rfl⟩ := hd4.out)
        go_ret
        rw [HXX.out]
        exact ⟨by rfl, by show Dec _ base g F Y 0 0; first | exact ((HD3.out.drewN _).s33 0).s34 0 | exact (((HD3.out.drewN _).drewN _).s33 0).s34 0 | exact HD3.out.drewN _ | exact (HD3.out.drewN _).drewN _, by repeat (first | exact HT3.out | refine To.drewN ?_ _ | refine To.set ?_ HD3.out.gb _ _)⟩
    case pos =>
      have b2 : decide (at_ < (ys.length : Int)) = true := decide_eq_true q2
      have hxx := HX.out
      rw [if_pos ⟨q1, q2⟩] at hxx
      obtain ⟨n, rfl⟩ : ∃ n : Nat, at_ = (n : Int) := ⟨at_.toNat, by omega⟩
      rw [Int.toNat_natCast] at hxx
      have hnl : n < ys.length := by omega
      obtain ⟨ad, e, hcell⟩ := at_i HYR.out n hnl
      cases e
      generalize ys.getD n 0 = v at hcell hxx
      have HXX := Aside0.mk hxx
      clear hxx q1 hyr
      go_quiet (fail)
      go_wp2
      repeat (go_quiet (fail); try go_wp2)
      go_ret
      rw [HXX.out]
      exact ⟨by rfl, by show Dec _ base g F Y 0 0; first | exact ((HD3.out.drewN _).s33 0).s34 0 | exact (((HD3.out.drewN _).drewN _).s33 0).s34 0 | exact HD3.out.drewN _ | exact (HD3.out.drewN _).drewN _, by repeat (first | exact HT3.out | refine To.drewN ?_ _ | refine To.set ?_ HD3.out.gb _ _)⟩
end Go.Proofs.Ytachnclfgjdglaa.Coin
