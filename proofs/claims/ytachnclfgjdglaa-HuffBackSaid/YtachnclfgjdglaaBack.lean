/- The walk of HuffBack: each symbol's code, bit by bit. No conditions beside those that each theorem says. -/
import Derived.Test.YtachnclfgjdglaaBackP
namespace Go.Proofs.Ytachnclfgjdglaa.PA
open Go.Proofs.YtachnclfgjdglaaAid Go.Proofs.Ytachnclfgjdglaa.Coin Go.Proofs.Ytachnclfgjdglaa.Known Go.Proofs.Ytachnclfgjdglaa.Next Go.Proofs.Ytachnclfgjdglaa.Pure Go.RowKit Go.Proofs.YtachnclfgjdglaaW.PrintWords Go.Proofs.YtachnclfgjdglaaW.PrintLast Go.Proofs.YtachnclfgjdglaaW.PrintMore
set_option linter.unusedVariables false
set_option linter.unusedSimpArgs false
set_option maxHeartbeats 4000000 in
set_option maxRecDepth 100000 in
theorem back_no (A0 : Option Addr) (c0 : Nat) (l : List Int) (A1 : Option Addr) (c1 : Nat) (b : List Int) (w : World) (hr0 : Kd.C (Kd.int .i64) w A0 l.length l) (hc0 : l.length ≤ c0) (hr1 : Kd.C (Kd.int .i64) w A1 b.length b) (h1 : l.length ≤ 320) (h2 : b.length ≤ 60) (r : Int) (hrr : (r != r) = false) (hr : (r != 0) = true) (hr2 : (r == 0) = false) (hnew : ∀ A c W, Kd.C (Kd.int .i64) W A l.length l → Calls Try.prog 23 #[.slice A l.length c] W fun e w' => e = .returned (.tuple #[.pointer none, .int .i64 r]) ∧ w' = W)
    (href : ∀ W, Kd.C (Kd.int .i64) W A0 l.length l → Calls Try.prog 24 #[.slice A0 l.length c0] W fun e w' => e = .returned (.tuple #[.pointer none, .int .i64 r]) ∧ Below W.heap.size W w') :
    Calls Try.prog 9 #[.slice A0 l.length c0, .slice A1 b.length c1] w fun e w' => e = .returned (.bool true) ∧ Below w.heap.size w w' := by
  have HR0 := Aside0.mk hr0
  have HC0 := Aside0.mk hc0
  have HR1 := Aside0.mk hr1
  have d1 : decide ((l.length : Int) > 320) = false := decide_eq_false (by omega)
  have d2 : decide ((b.length : Int) > 60) = false := decide_eq_false (by omega)
  have HL := Aside0.mk h1
  have HBL := Aside0.mk h2
  obtain ⟨kk, hkk⟩ := known_ev.rounds
  have HK := Aside0.mk hkk
  clear hkk
  have HNEW := Aside0.mk hnew
  have HREF := Aside0.mk href
  clear hnew href hr0 hc0 hr1 h1 h2
  go_enter Try.func9, Try.ntmps9
  go_wp2_with (first | ((with_reducible refine gate_callee (f := 13) rfl ?_); refine goesL_ (some 25) rfl rfl Try.func13 (by kernel_rfl) rfl #[.slice A0 l.length c0] rfl (by (try simp only [List.map_toArray, List.map_cons, List.map_nil]); first | done | rfl) ?_; refine (Coin.codes A0 c0 l _ HR0.out).mono ?_; rintro e w1 ⟨vc, rfl, hv, hb⟩; obtain ⟨Ac, cc, rfl, _, _⟩ := Kd.R_reads hv; refine ⟨_, rfl, ?_⟩; have HV1 := Aside0.mk hv; have HB1 := Aside0.mk hb; clear hv hb) | ((with_reducible refine gate_callee (f := 23) rfl ?_); refine goesL_ (some 30) rfl rfl Try.func23 (by kernel_rfl) rfl #[.slice A0 l.length c0] rfl (by (try simp only [List.map_toArray, List.map_cons, List.map_nil]); first | done | rfl) ?_; refine (HNEW.out A0 c0 w1 (Kd.C_below HR0.out HB1.out)).mono ?_; rintro e w2 ⟨rfl, he2⟩; subst he2; refine ⟨_, rfl, ?_⟩) | ((with_reducible refine gate_callee (f := 24) rfl ?_); refine goesL_ (some 35) rfl rfl Try.func24 (by kernel_rfl) rfl #[.slice A0 l.length c0] rfl (by (try simp only [List.map_toArray, List.map_cons, List.map_nil]); first | done | rfl) ?_; refine (HREF.out _ (Kd.C_below HR0.out HB1.out)).mono ?_; rintro e w3 ⟨rfl, hb⟩; refine ⟨_, rfl, ?_⟩; have HB3 := Aside0.mk (below_step HB1.out hb); clear hb) | ((with_reducible refine gate_callee (f := 16) rfl ?_); refine goesL_ (some 56) rfl rfl Try.func16 (by kernel_rfl) rfl #[] rfl (by (try simp only [List.map_toArray, List.map_cons, List.map_nil]); first | done | rfl) ?_; refine (rubricatorlaw3_known.calls kk true _ HK.out).mono ?_; rintro e w5 ⟨rfl, hb⟩; refine ⟨_, rfl, ?_⟩; have HB5 := Aside0.mk (below_step HB3.out hb); clear hb))
  go_ret
  exact ⟨rfl, HB5.out⟩
set_option maxHeartbeats 4000000 in
set_option maxRecDepth 100000 in
theorem back_yes (A0 : Option Addr) (c0 : Nat) (l : List Int) (A1 : Option Addr) (c1 : Nat) (b : List Int) (w : World) (hr0 : Kd.C (Kd.int .i64) w A0 l.length l) (hc0 : l.length ≤ c0) (hr1 : Kd.C (Kd.int .i64) w A1 b.length b) (h1 : l.length ≤ 320) (h2 : b.length ≤ 60) (hl : isL l = true) (hm : mayD l = true) :
    Calls Try.prog 9 #[.slice A0 l.length c0, .slice A1 b.length c1] w fun e w' => e = .returned (.bool true) ∧ Below w.heap.size w w' := by
  have HR0 := Aside0.mk hr0
  have HC0 := Aside0.mk hc0
  have HR1 := Aside0.mk hr1
  have d1 : decide ((l.length : Int) > 320) = false := decide_eq_false (by omega)
  have d2 : decide ((b.length : Int) > 60) = false := decide_eq_false (by omega)
  have HL := Aside0.mk h1
  have HBL := Aside0.mk h2
  obtain ⟨kk, hkk⟩ := known_ev.rounds
  have HK := Aside0.mk hkk
  clear hkk
  have HIS := Aside0.mk hl
  have HMD := Aside0.mk hm
  have HCF := Aside0.mk (show codesF l = (outL l, 0) from mayD_full hl hm)
  have HMF := Aside0.mk (mayD_fill hl hm)
  have hol : (outL l).length = l.length := outL_len l
  have HOL := Aside0.mk hol
  by_cases h0 : l.length = 0
  case pos =>
    have d3 : ((l.length : Int) == 0) = true := by rw [h0]; rfl
    clear hl hm hr0 hc0 hr1 h1 h2 h0
    go_enter Try.func9, Try.ntmps9
    go_wp2_with (first | ((with_reducible refine gate_callee (f := 13) rfl ?_); refine goesL_ (some 25) rfl rfl Try.func13 (by kernel_rfl) rfl #[.slice A0 l.length c0] rfl (by (try simp only [List.map_toArray, List.map_cons, List.map_nil]); first | done | rfl) ?_; refine (Coin.codes A0 c0 l _ HR0.out).mono ?_; rw [HCF.out]; rintro e w1 ⟨vc, rfl, hv, hb⟩; obtain ⟨Ac, cc, rfl, _, _⟩ := Kd.R_reads hv; refine ⟨_, rfl, ?_⟩; have HV1 := Aside0.mk (Kd.R_reads' hv).2.2; have HB1 := Aside0.mk hb; clear hv hb) | ((with_reducible refine gate_callee (f := 23) rfl ?_); refine goesL_ (some 30) rfl rfl Try.func23 (by kernel_rfl) rfl #[.slice A0 l.length c0] rfl (by (try simp only [List.map_toArray, List.map_cons, List.map_nil]); first | done | rfl) ?_; refine (newL A0 c0 l w1 (Kd.C_below HR0.out HB1.out) HIS.out HMD.out).mono ?_; rintro e w2 ⟨g, Y, rfl, hd, hb⟩; refine ⟨_, rfl, ?_⟩; have HD2 := Aside0.mk hd; have HB12 := Aside0.mk hb; have HB2 := Aside0.mk (below_step HB1.out hb); clear hd hb) | ((with_reducible refine gate_callee (f := 24) rfl ?_); refine goesL_ (some 35) rfl rfl Try.func24 (by kernel_rfl) rfl #[.slice A0 l.length c0] rfl (by (try simp only [List.map_toArray, List.map_cons, List.map_nil]); first | done | rfl) ?_; refine (refNew A0 c0 l w2 (Kd.C_below HR0.out HB2.out) HC0.out HIS.out HMD.out).mono ?_; rintro e w3 ⟨x, rfl, hx, hb⟩; refine ⟨_, rfl, ?_⟩; have HB3 := Aside0.mk (below_step HB2.out hb); have HB13 := Aside0.mk (below_step HB12.out hb); have HD3 := Aside0.mk (HD2.out.below hb); clear hx hb) | ((with_reducible refine gate_callee (f := 16) rfl ?_); refine goesL_ (some 56) rfl rfl Try.func16 (by kernel_rfl) rfl #[] rfl (by (try simp only [List.map_toArray, List.map_cons, List.map_nil]); first | done | rfl) ?_; refine (rubricatorlaw3_known.calls kk true _ HK.out).mono ?_; rintro e w5 ⟨rfl, hb⟩; refine ⟨_, rfl, ?_⟩; have HB5 := Aside0.mk (below_step HB3.out hb); clear hb))
    go_ret
    exact ⟨rfl, HB5.out⟩
  have d3 : ((l.length : Int) == 0) = false := by
    rw [beq_eq_false_iff_ne]
    omega
  have d4 : (((l.length : Int)) != (l.length : Int)) = false := by simp
  have d5 : (((outL l).length : Int) != (l.length : Int)) = false := by rw [hol]; exact d4
  have hl0 : ¬ ((l.length : Int) = 0) := by omega
  have HL0 := Aside0.mk (show 0 < l.length by omega)
  clear hl hm hr0 hc0 hr1 h1 h2 h0 hol
  go_enter Try.func9, Try.ntmps9
  go_wp2_with (first | ((with_reducible refine gate_callee (f := 13) rfl ?_); refine goesL_ (some 25) rfl rfl Try.func13 (by kernel_rfl) rfl #[.slice A0 l.length c0] rfl (by (try simp only [List.map_toArray, List.map_cons, List.map_nil]); first | done | rfl) ?_; refine (Coin.codes A0 c0 l _ HR0.out).mono ?_; rw [HCF.out]; rintro e w1 ⟨vc, rfl, hv, hb⟩; obtain ⟨Ac, cc, rfl, _, _⟩ := Kd.R_reads hv; refine ⟨_, rfl, ?_⟩; have HV1 := Aside0.mk (Kd.R_reads' hv).2.2; have HB1 := Aside0.mk hb; clear hv hb) | ((with_reducible refine gate_callee (f := 23) rfl ?_); refine goesL_ (some 30) rfl rfl Try.func23 (by kernel_rfl) rfl #[.slice A0 l.length c0] rfl (by (try simp only [List.map_toArray, List.map_cons, List.map_nil]); first | done | rfl) ?_; refine (newL A0 c0 l w1 (Kd.C_below HR0.out HB1.out) HIS.out HMD.out).mono ?_; rintro e w2 ⟨g, Y, rfl, hd, hb⟩; refine ⟨_, rfl, ?_⟩; have HD2 := Aside0.mk hd; have HB12 := Aside0.mk hb; have HB2 := Aside0.mk (below_step HB1.out hb); clear hd hb) | ((with_reducible refine gate_callee (f := 24) rfl ?_); refine goesL_ (some 35) rfl rfl Try.func24 (by kernel_rfl) rfl #[.slice A0 l.length c0] rfl (by (try simp only [List.map_toArray, List.map_cons, List.map_nil]); first | done | rfl) ?_; refine (refNew A0 c0 l w2 (Kd.C_below HR0.out HB2.out) HC0.out HIS.out HMD.out).mono ?_; rintro e w3 ⟨x, rfl, hx, hb⟩; refine ⟨_, rfl, ?_⟩; have HB3 := Aside0.mk (below_step HB2.out hb); have HB13 := Aside0.mk (below_step HB12.out hb); have HD3 := Aside0.mk (HD2.out.below hb); clear hx hb))
  have H0 := Aside0.mk (And.intro HD3.out (And.intro HB3.out HB13.out))
  clear d1 d2 d3 d4 d5 HD3 HB3 HB13 HD2 HB2
  go_loopg [11] b.length (fun gg v11 wr => ∃ (i : Nat), i ≤ b.length ∧ b.length - i ≤ gg ∧ v11 = .int .i64 i ∧ Aside0 (DecL wr w1.heap.size g l Y 0 0) ∧ Aside0 (Below w.heap.size w wr ∧ Below w1.heap.size w1 wr))
  case atStart => exact ⟨0, Nat.zero_le _, by omega, rfl, ⟨H0.out.1⟩, ⟨H0.out.2⟩⟩
  case round =>
    clear H0
    obtain ⟨i, hi, hgg, rfl, HD, HB⟩ := hrel
    by_cases hlt : i < b.length
    case neg =>
      have hke : i = b.length := by omega
      subst hke
      have dlt : decide ((b.length : Int) < (b.length : Int)) = false := decide_eq_false (by omega)
      clear hi hgg hlt
      go_wp2_with (first | ((with_reducible refine gate_callee (f := 16) rfl ?_); refine goesL_ (some 114) rfl rfl Try.func16 (by kernel_rfl) rfl #[] rfl (by (try simp only [List.map_toArray, List.map_cons, List.map_nil]); first | done | rfl) ?_; refine (rubricatorlaw3_known.calls kk true _ HK.out).mono ?_; rintro e w5 ⟨rfl, hb⟩; refine ⟨_, rfl, ?_⟩; have HB5 := Aside0.mk (below_step HB.out.1 hb); clear hb))
      go_ret
      exact ⟨rfl, HB5.out⟩
    have dlt : decide ((i : Int) < (b.length : Int)) = true := decide_eq_true (by omega)
    have hiz : (i : Int) < (b.length : Int) := by omega
    obtain ⟨ad, e, hcell0⟩ := at_i HR1.out i hlt
    cases e
    have hcell := (HB.out.1.cell (World.block_lt_of_cell? w _ hcell0)).trans hcell0
    generalize b.getD i 0 = z at hcell
    obtain ⟨k, hkl, hkz⟩ : ∃ k : Nat, k < l.length ∧ Int.tmod (Go.bits .and .i64 z 65535) (l.length : Int) = (k : Int) := by
      obtain ⟨a0, a1⟩ := and65535 z
      obtain ⟨q, hq⟩ := Int.eq_ofNat_of_zero_le a0
      refine ⟨q % l.length, Nat.mod_lt _ HL0.out, ?_⟩
      rw [hq]
      rfl
    have HKL := Aside0.mk hkl
    have hkzl : (k : Int) < (l.length : Int) := by omega
    obtain ⟨ad2, e2, hcellk0⟩ := at_i HR0.out k hkl
    cases e2
    have hcellk := (HB.out.1.cell (World.block_lt_of_cell? w _ hcellk0)).trans hcellk0
    have ha := isL_at HIS.out k hkl
    obtain ⟨L, hL⟩ := Int.eq_ofNat_of_zero_le ha.1
    rw [hL] at hcellk
    have hwL : wrap64 ((L : Int) - 1) = (L : Int) - 1 := w64 (x := (L : Int) - 1) (by omega) (by omega)
    have hw2 : wrap64 ((i : Int) + 1) = ((i + 1 : Nat) : Int) := w64 (x := (i : Int) + 1) (by omega) (by have := HBL.out; clear hwL; omega)
    have HW2 := Aside0.mk hw2
    have HXI := Aside0.mk (And.intro hlt hgg)
    have HLL := Aside0.mk (And.intro hL (show L ≤ 15 by clear hwL hw2; omega))
    clear hcell0 hcellk0 hlt hgg hi hL ha hw2 hkl
    go_wp2
    have HDs := Aside0.mk (show DecL wr w1.heap.size g l Y (stt l k L).1 (stt l k L).2 from by
      have := stt_full l HIS.out HMF.out k HKL.out
      rw [HLL.out.1, Int.toNat_natCast] at this
      rw [this]
      exact HD.out)
    have HBs := HB
    rw [hwL]
    clear hcell hcellk hkz hwL HD HB
    go_loopg [13] L (fun gg v13 wr => ∃ (r : Nat), r ≤ L ∧ r ≤ gg ∧ v13 = .int .i64 ((r : Int) - 1) ∧ Aside0 (DecL wr w1.heap.size g l Y (stt l k r).1 (stt l k r).2) ∧ Aside0 (Below w.heap.size w wr ∧ Below w1.heap.size w1 wr))
    case atStart => exact ⟨L, Nat.le_refl _, Nat.le_refl _, rfl, HDs, HBs⟩
    case round =>
      clear HDs HBs
      obtain ⟨r, hr, hgg, rfl, HD, HB⟩ := hrel
      cases r with
      | zero =>
        have dge : decide (((0 : Nat) : Int) - 1 ≥ 0) = false := decide_eq_false (by omega)
        have dge' : decide ((-1 : Int) ≥ 0) = false := by decide
        clear hr hgg
        go_wp2
        go_roundg (b.length - (i + 1))
        case rel => exact ⟨i + 1, by have := HXI.out; omega, Nat.le_refl _, by first | rfl | rw [HW2.out], HD, HB⟩
        case measure => have := HXI.out; omega
      | succ m =>
        have em : (((m + 1 : Nat)) : Int) - 1 = (m : Int) := by omega
        rw [em]
        have dge : decide ((m : Int) ≥ 0) = true := decide_eq_true (by omega)
        have dg0 : decide ((0 : Int) ≤ (m : Int)) = true := decide_eq_true (by omega)
        have HMR := Aside0.mk (show m + 1 ≤ (l.getD k 0).toNat by have := HLL.out; omega)
        have hm15 : m ≤ 14 := by have := HLL.out; omega
        have hcp := code_small l HIS.out k HKL.out
        have hk0 : 0 < l.getD k 0 := by have := HMR.out; omega
        obtain ⟨ad3, e3, hcc0⟩ := at_i HV1.out k (by rw [outL_len]; exact HKL.out)
        cases e3
        have hcc := (HB.out.2.cell (World.block_lt_of_cell? w1 _ hcc0)).trans hcc0
        rw [show (outL l).getD k 0 = code l k from out_at l k HKL.out hk0] at hcc
        have hko : (k : Int) < ((outL l).length : Int) := by rw [HOL.out]; exact hkzl
        have hum : IntKind.u64.wrap (m : Int) = (m : Int) := by show (m : Int) % 18446744073709551616 = (m : Int); omega
        have hum2 : (m : Int) % 18446744073709551616 = (m : Int) := hum
        obtain ⟨bit, hbit⟩ : ∃ bit, bit = code l k / 2 ^ m % 2 := ⟨_, rfl⟩
        have hb0 : 0 ≤ code l k / 2 ^ m ∧ code l k / 2 ^ m ≤ 60000000 := ⟨Int.ediv_nonneg hcp.1 (Int.le_of_lt (Int.pow_pos (by decide))), Int.le_trans (Int.ediv_le_self _ hcp.1) hcp.2⟩
        have hand := and1 (code l k / 2 ^ m) hb0.1 (by omega)
        rw [← hbit] at hand
        have hmin : min m 64 = m := by omega
        have hand2 : Go.bits .and .i64 (code l k / 2 ^ min m 64) 1 = bit := by rw [hmin]; exact hand
        have HBIT := Aside0.mk hbit
        have hwm : wrap64 ((m : Int) - 1) = (m : Int) - 1 := w64 (x := (m : Int) - 1) (by omega) (by clear hand hand2 hum hum2; omega)
        have HW3 := Aside0.mk hwm
        have HXS := Aside0.mk (And.intro hr hgg)
        clear hcc0 hcp hk0 hb0 hmin hbit hwm hr hgg
        by_cases hm0 : m = 0
        · have f1 : (if m = 0 then (k : Int) else -1) = (k : Int) := if_pos hm0
          have f2 : decide ((m : Int) > 0) = false := decide_eq_false (by clear hand hand2 hum hum2; omega)
          have f3 : ((m : Int) == 0) = true := by rw [beq_iff_eq]; clear hand hand2 hum hum2; omega
          have f4 : ((k : Int) != (k : Int)) = false := by simp
          clear hm0 em
          go_wp2_with (first | ((with_reducible refine gate_callee (f := 25) rfl ?_); refine goesL_ (some 98) rfl rfl Try.func25 (by kernel_rfl) rfl #[.pointer (some ⟨g, 0, none⟩), .int .i64 bit] rfl (by (try simp only [List.map_toArray, List.map_cons, List.map_nil]); first | done | rfl) ?_; refine (backC _ w1.heap.size g l Y HIS.out k HKL.out m HMR.out HD.out bit HBIT.out).mono ?_; rw [f1]; rintro e w6 ⟨rfl, hd6, ht6⟩; refine ⟨_, rfl, ?_⟩; have HD6 := Aside0.mk hd6; have HB6 := Aside0.mk (show Below w.heap.size w w6 ∧ Below w1.heap.size w1 w6 from ⟨HB.out.1.trans (ht6.below.mono HB1.out.size), HB.out.2.trans ht6.below⟩); clear hd6 ht6))
          go_roundg m
          case rel => exact ⟨m, by have := HXS.out; omega, Nat.le_refl _, by first | rfl | rw [HW3.out], HD6, HB6⟩
          case measure => have := HXS.out; omega
        · have f1 : (if m = 0 then (k : Int) else -1) = -1 := if_neg hm0
          have f2 : decide ((m : Int) > 0) = true := decide_eq_true (by clear hand hand2 hum hum2; omega)
          have f3 : ((m : Int) == 0) = false := by rw [beq_eq_false_iff_ne]; clear hand hand2 hum hum2; omega
          clear hm0 em
          go_wp2_with (first | ((with_reducible refine gate_callee (f := 25) rfl ?_); refine goesL_ (some 98) rfl rfl Try.func25 (by kernel_rfl) rfl #[.pointer (some ⟨g, 0, none⟩), .int .i64 bit] rfl (by (try simp only [List.map_toArray, List.map_cons, List.map_nil]); first | done | rfl) ?_; refine (backC _ w1.heap.size g l Y HIS.out k HKL.out m HMR.out HD.out bit HBIT.out).mono ?_; rw [f1]; rintro e w6 ⟨rfl, hd6, ht6⟩; refine ⟨_, rfl, ?_⟩; have HD6 := Aside0.mk hd6; have HB6 := Aside0.mk (show Below w.heap.size w w6 ∧ Below w1.heap.size w1 w6 from ⟨HB.out.1.trans (ht6.below.mono HB1.out.size), HB.out.2.trans ht6.below⟩); clear hd6 ht6))
          go_roundg m
          case rel => exact ⟨m, by have := HXS.out; omega, Nat.le_refl _, by first | rfl | rw [HW3.out], HD6, HB6⟩
          case measure => have := HXS.out; omega
theorem rubricatorlaw3_HuffBack.walk (A0 : Option Addr) (c0 : Nat) (l : List Int) (A1 : Option Addr) (c1 : Nat) (b : List Int) (w : World) (hr0 : Kd.C (Kd.int .i64) w A0 l.length l) (hc0 : l.length ≤ c0) (_ : l.length ≤ maxLen) (_ : l.length * 8 ≤ 140737488351232) (_ : ∀ x ∈ l, (Lit.int .i64 x).wf = true) (hr1 : Kd.C (Kd.int .i64) w A1 b.length b) (_ : b.length ≤ c1) (_ : b.length ≤ maxLen) (_ : b.length * 8 ≤ 140737488351232) (_ : ∀ x ∈ b, (Lit.int .i64 x).wf = true) :
    Calls Try.prog 9 #[.slice A0 l.length c0, .slice A1 b.length c1] w fun e w' => e = .returned (.bool true) ∧ Below w.heap.size w w' := by
  by_cases h1 : l.length ≤ 320
  case neg =>
    have d1 : decide ((l.length : Int) > 320) = true := decide_eq_true (by omega)
    clear h1 hr0 hc0 hr1
    generalize l.length = n at d1 ⊢
    generalize b.length = m
    go_enter Try.func9, Try.ntmps9
    go_wp2
    go_ret
    exact ⟨rfl, Below.refl _ _⟩
  by_cases h2 : b.length ≤ 60
  case neg =>
    have d1 : decide ((l.length : Int) > 320) = false := decide_eq_false (by omega)
    have d2 : decide ((b.length : Int) > 60) = true := decide_eq_true (by omega)
    clear h1 h2 hr0 hc0 hr1
    generalize l.length = n at d1 ⊢
    generalize b.length = m at d2 ⊢
    go_enter Try.func9, Try.ntmps9
    go_wp2
    go_ret
    exact ⟨rfl, Below.refl _ _⟩
  by_cases hl : isL l = true
  case neg =>
    have hl := Bool.eq_false_iff.2 hl
    exact back_no A0 c0 l A1 c1 b w hr0 hc0 hr1 h1 h2 1 (by decide) (by decide) (by decide) (fun A c W h => new_bad A c l W h hl) (fun W h => refNew_bad A0 c0 l W h hc0 hl)
  by_cases hm : mayD l = true
  case neg =>
    have hm := Bool.eq_false_iff.2 hm
    exact back_no A0 c0 l A1 c1 b w hr0 hc0 hr1 h1 h2 21 (by decide) (by decide) (by decide) (fun A c W h => new_no A c l W h hl hm) (fun W h => refNew_no A0 c0 l W h hc0 hl hm)
  exact back_yes A0 c0 l A1 c1 b w hr0 hc0 hr1 h1 h2 hl hm
end Go.Proofs.Ytachnclfgjdglaa.PA
