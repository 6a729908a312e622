/- The walk of HuffWhole: lengths that are made are a decoder's, and each symbol's code is read as it. No conditions beside those that each theorem says. -/
import Derived.Test.YtachnclfgjdglaaBackP
import Derived.Test.YtachnclfgjdglaaMayP
namespace Go.Proofs.Ytachnclfgjdglaa.PA
open Go.Proofs.YtachnclfgjdglaaAid Go.Proofs.Ytachnclfgjdglaa.Coin Go.Proofs.Ytachnclfgjdglaa.Known Go.Proofs.Ytachnclfgjdglaa.Next Go.Proofs.Ytachnclfgjdglaa.Pure Go.RowKit Go.Proofs.YtachnclfgjdglaaW.PrintWords Go.Proofs.YtachnclfgjdglaaW.PrintLast Go.Proofs.YtachnclfgjdglaaW.PrintMore
set_option linter.unusedVariables false
set_option linter.unusedSimpArgs false

theorem made_mayD {o : List Int} {most : Int} {S : List Pack.It} {L : List Int} (hs : sgl o o.length = some S) (M : Pack.Made o most S L) : mayD L = true := by
  obtain ⟨h1, h2⟩ := Pack.made_fill M o.length S (Nat.le_refl _) hs
  rw [M.sum] at h1
  unfold mayD
  rw [M.len]
  simp only [Bool.or_eq_true, Bool.and_eq_true, decide_eq_true_eq]
  rw [h1, h2]
  by_cases c0 : S.length = 0
  · right; left; omega
  · by_cases c1 : S.length = 1
    · right; right
      rw [if_neg c0, if_pos c1]
      omega
    · left
      rw [if_neg c0, if_neg c1]
set_option maxHeartbeats 4000000 in
set_option maxRecDepth 100000 in
theorem whole_yes (A0 : Option Addr) (c0 : Nat) (o : List Int) (w : World) (hr0 : Kd.C (Kd.int .i64) w A0 o.length o) (hc0 : o.length ≤ c0) (h1 : o.length ≤ 320) (hm : Pack.May o 15) :
    Calls Try.prog 11 #[.slice A0 o.length c0] w fun e w' => e = .returned (.bool true) ∧ Below w.heap.size w w' := by
  obtain ⟨S, l, hs, _, hlf, M⟩ := Pack.lensF_may o 15 hm
  have hrange := (Pack.sgl_sg o.length S hs).range
  have hl : isL l = true := Pack.made_isL M h1 (by decide) (by decide) hrange
  have hmd : mayD l = true := made_mayD hs M
  have HR0 := Aside0.mk hr0
  have HC0 := Aside0.mk hc0
  have d1 : decide ((o.length : Int) > 320) = false := decide_eq_false (by omega)
  have HOL0 := Aside0.mk h1
  obtain ⟨kk, hkk⟩ := known_ev.rounds
  have HK := Aside0.mk hkk
  obtain ⟨km, hkm⟩ := (Pack.may_ev o 15 true ⟨fun _ => hm, fun _ => rfl⟩).rounds
  have HMY := Aside0.mk hkm
  have HOW := Aside0.mk (Pack.own_ev o (by omega))
  have HLF := Aside0.mk hlf
  have HIS := Aside0.mk hl
  have HMD := Aside0.mk hmd
  have HCF := Aside0.mk (show codesF l = (outL l, 0) from mayD_full hl hmd)
  have HMF := Aside0.mk (mayD_fill hl hmd)
  have hol : (outL l).length = l.length := outL_len l
  have hle : l.length = o.length := M.len
  have HOL := Aside0.mk hol
  have HLE := Aside0.mk hle
  have d5 : (((outL l).length : Int) != (o.length : Int)) = false := by rw [hol, hle]; simp
  clear hkk hkm hl hmd hr0 hc0 h1 hm hs hlf hrange M hol hle
  go_enter Try.func11, Try.ntmps11
  go_wp2_with (first | ((with_reducible refine gate_callee (f := 17) rfl ?_); refine gate_guard (by rfl) ?_; dsimp only; refine goesL_ (some 17) rfl rfl Try.func17 (by kernel_rfl) rfl #[.slice A0 o.length c0, .int .i64 15] rfl (by (try simp only [List.map_toArray, List.map_cons, List.map_nil]); first | done | rfl) ?_; refine (rubricatorref3_May.calls km A0 c0 o 15 true _ HR0.out HC0.out HMY.out).mono ?_; rintro e w1 ⟨rfl, hd⟩; refine ⟨_, rfl, ?_⟩; have HB1 := Aside0.mk hd.below; clear hd) | ((with_reducible refine gate_callee (f := 12) rfl ?_); refine goesL_ (some 22) rfl rfl Try.func12 (by kernel_rfl) rfl #[.slice A0 o.length c0] rfl (by (try simp only [List.map_toArray, List.map_cons, List.map_nil]); first | done | rfl) ?_; refine (rubricatorlaw3_own.calls A0 c0 o o _ (Kd.C_below HR0.out HB1.out) HC0.out HOW.out).mono ?_; rintro e w2 ⟨vm, rfl, hv, hb⟩; obtain ⟨Am, cm, rfl, _, _⟩ := Kd.R_reads hv; refine ⟨_, rfl, ?_⟩; have HM2 := Aside0.mk (Kd.R_reads' hv); have HB2 := Aside0.mk (below_step HB1.out hb); clear hv hb) | ((with_reducible refine gate_callee (f := 18) rfl ?_); refine goesL_ (some 23) rfl rfl Try.func18 (by kernel_rfl) rfl #[.slice Am o.length cm, .int .i64 15] rfl (by (try simp only [List.map_toArray, List.map_cons, List.map_nil]); first | done | rfl) ?_; refine (lengths Am cm o 15 l 0 w2 HM2.out.2.2 HLF.out).mono ?_; rintro e w3 ⟨vl, rfl, hv, hb⟩; obtain ⟨Al, cl, rfl, _, _⟩ := Kd.R_reads hv; refine ⟨_, rfl, ?_⟩; have HL3 := Aside0.mk (Kd.R_reads' hv).2.2; have HB3 := Aside0.mk (below_step HB2.out hb); clear hv hb) | ((with_reducible refine gate_callee (f := 23) rfl ?_); refine goesL_ (some 28) rfl rfl Try.func23 (by kernel_rfl) rfl #[.slice Al l.length cl] rfl (by (try simp only [List.map_toArray, List.map_cons, List.map_nil]); first | done | rfl) ?_; refine (newL Al cl l w3 HL3.out HIS.out HMD.out).mono ?_; rintro e w4 ⟨g, Y, rfl, hd, hb⟩; refine ⟨_, rfl, ?_⟩; have HD4 := Aside0.mk hd; have HB34 := Aside0.mk hb; have HB4 := Aside0.mk (below_step HB3.out hb); clear hd hb) | ((with_reducible refine gate_callee (f := 13) rfl ?_); refine goesL_ (some 33) rfl rfl Try.func13 (by kernel_rfl) rfl #[.slice Al l.length cl] rfl (by (try simp only [List.map_toArray, List.map_cons, List.map_nil]); first | done | rfl) ?_; refine (Coin.codes Al cl l w4 (Kd.C_below HL3.out HB34.out)).mono ?_; rw [HCF.out]; rintro e w5 ⟨vc, rfl, hv, hb⟩; obtain ⟨Ac, cc, rfl, _, _⟩ := Kd.R_reads hv; refine ⟨_, rfl, ?_⟩; have HV5 := Aside0.mk hv; have HB5 := Aside0.mk (below_step HB4.out hb); have HB35 := Aside0.mk (below_step HB34.out hb); have HD5 := Aside0.mk (HD4.out.below hb); clear hv hb))
  have H0 := Aside0.mk (And.intro HD5.out (And.intro HB5.out (And.intro HB35.out (Kd.R_mono (Kd.R_bound HV5.out) (fun k hk => show k ≠ g by have := HD4.out.dec.lt; have := hk.2.1; omega)))))
  clear d1 d5 HD5 HB5 HB35 HV5
  go_loopg [9] l.length (fun gg v9 wr => ∃ (k : Nat), k ≤ l.length ∧ l.length - k ≤ gg ∧ v9 = .int .i64 k ∧ Aside0 (DecL wr w3.heap.size g l Y 0 0) ∧ Aside0 (Below w.heap.size w wr ∧ Below w3.heap.size w3 wr ∧ Kd.R (Kd.int .i64) 3 wr w4.heap.size (fun k => k ≠ g) (.slice Ac (outL l).length cc) (outL l)))
  case atStart => exact ⟨0, Nat.zero_le _, by omega, rfl, ⟨H0.out.1⟩, ⟨H0.out.2⟩⟩
  case round =>
    clear H0
    obtain ⟨k, hi, hgg, rfl, HD, HB⟩ := hrel
    by_cases hlt : k < l.length
    case neg =>
      have hke : k = l.length := by omega
      subst hke
      have dlt : decide ((l.length : Int) < (l.length : Int)) = false := decide_eq_false (by omega)
      clear hi hgg hlt
      go_wp2_with (first | ((with_reducible refine gate_callee (f := 16) rfl ?_); refine goesL_ (some 96) rfl rfl Try.func16 (by kernel_rfl) rfl #[] rfl (by (try simp only [List.map_toArray, List.map_cons, List.map_nil]); first | done | rfl) ?_; refine (rubricatorlaw3_known.calls kk true _ HK.out).mono ?_; rintro e w9 ⟨rfl, hb⟩; refine ⟨_, rfl, ?_⟩; have HB9 := Aside0.mk (below_step HB.out.1 hb); clear hb))
      go_ret
      exact ⟨rfl, HB9.out⟩
    have dlt : decide ((k : Int) < (l.length : Int)) = true := decide_eq_true (by omega)
    have hiz : (k : Int) < (l.length : Int) := by omega
    have HKL := Aside0.mk hlt
    obtain ⟨ad2, e2, hcellk0⟩ := at_i HL3.out k hlt
    cases e2
    have hcellk := (HB.out.2.1.cell (World.block_lt_of_cell? w3 _ hcellk0)).trans hcellk0
    have ha := isL_at HIS.out k hlt
    obtain ⟨L, hL⟩ := Int.eq_ofNat_of_zero_le ha.1
    rw [hL] at hcellk
    have hwL : wrap64 ((L : Int) - 1) = (L : Int) - 1 := w64 (x := (L : Int) - 1) (by omega) (by omega)
    have hw2 : wrap64 ((k : Int) + 1) = ((k + 1 : Nat) : Int) := w64 (x := (k : Int) + 1) (by omega) (by have := HOL0.out; have := HLE.out; clear hwL; omega)
    have HW2 := Aside0.mk hw2
    have HXI := Aside0.mk (And.intro hlt hgg)
    have HLL := Aside0.mk (And.intro hL (show L ≤ 15 by clear hwL hw2; omega))
    clear hcellk0 hlt hgg hi hL ha hw2
    go_wp2
    have HDs := Aside0.mk (show DecL wr w3.heap.size g l Y (stt l k L).1 (stt l k L).2 from by
      have := stt_full l HIS.out HMF.out k HKL.out
      rw [HLL.out.1, Int.toNat_natCast] at this
      rw [this]
      exact HD.out)
    have HBs := HB
    rw [hwL]
    clear hcellk hwL HD HB
    go_loopg [10] L (fun gg v13 wr => ∃ (r : Nat), r ≤ L ∧ r ≤ gg ∧ v13 = .int .i64 ((r : Int) - 1) ∧ Aside0 (DecL wr w3.heap.size g l Y (stt l k r).1 (stt l k r).2) ∧ Aside0 (Below w.heap.size w wr ∧ Below w3.heap.size w3 wr ∧ Kd.R (Kd.int .i64) 3 wr w4.heap.size (fun k => k ≠ g) (.slice Ac (outL l).length cc) (outL l)))
    case atStart => exact ⟨L, Nat.le_refl _, Nat.le_refl _, rfl, HDs, HBs⟩
    case round =>
      clear HDs HBs
      obtain ⟨r, hr, hgg, rfl, HD, HB⟩ := hrel
      cases r with
      | zero =>
        have dge : decide (((0 : Nat) : Int) - 1 ≥ 0) = false := decide_eq_false (by omega)
        have dge' : decide ((-1 : Int) ≥ 0) = false := by decide
        clear hr hgg
        go_wp2
        go_roundg (l.length - (k + 1))
        case rel => exact ⟨k + 1, by have := HXI.out; omega, Nat.le_refl _, by first | rfl | rw [HW2.out], HD, HB⟩
        case measure => have := HXI.out; omega
      | succ m =>
        have em : (((m + 1 : Nat)) : Int) - 1 = (m : Int) := by omega
        rw [em]
        have dge : decide ((m : Int) ≥ 0) = true := decide_eq_true (by omega)
        have dg0 : decide ((0 : Int) ≤ (m : Int)) = true := decide_eq_true (by omega)
        have HMR := Aside0.mk (show m + 1 ≤ (l.getD k 0).toNat by have := HLL.out; omega)
        have hm15 : m ≤ 14 := by have := HLL.out; omega
        have hcp := code_small l HIS.out k HKL.out
        have hk0 : 0 < l.getD k 0 := by have := HMR.out; omega
        obtain ⟨ad3, e3, hcc⟩ := at_i (Kd.R_reads' HB.out.2.2).2.2 k (by rw [outL_len]; exact HKL.out)
        cases e3
        rw [show (outL l).getD k 0 = code l k from out_at l k HKL.out hk0] at hcc
        have hko : (k : Int) < ((outL l).length : Int) := by rw [HOL.out]; exact hiz
        have hum : IntKind.u64.wrap (m : Int) = (m : Int) := by show (m : Int) % 18446744073709551616 = (m : Int); omega
        have hum2 : (m : Int) % 18446744073709551616 = (m : Int) := hum
        obtain ⟨bit, hbit⟩ : ∃ bit, bit = code l k / 2 ^ m % 2 := ⟨_, rfl⟩
        have hb0 : 0 ≤ code l k / 2 ^ m ∧ code l k / 2 ^ m ≤ 60000000 := ⟨Int.ediv_nonneg hcp.1 (Int.le_of_lt (Int.pow_pos (by decide))), Int.le_trans (Int.ediv_le_self _ hcp.1) hcp.2⟩
        have hand := and1 (code l k / 2 ^ m) hb0.1 (by omega)
        rw [← hbit] at hand
        have hmin : min m 64 = m := by omega
        have hand2 : Go.bits .and .i64 (code l k / 2 ^ min m 64) 1 = bit := by rw [hmin]; exact hand
        have HBIT := Aside0.mk hbit
        have hwm : wrap64 ((m : Int) - 1) = (m : Int) - 1 := w64 (x := (m : Int) - 1) (by omega) (by clear hand hand2 hum hum2; omega)
        have HW3 := Aside0.mk hwm
        have HXS := Aside0.mk (And.intro hr hgg)
        clear hcp hk0 hb0 hmin hbit hwm hr hgg
        by_cases hm0 : m = 0
        · have f1 : (if m = 0 then (k : Int) else -1) = (k : Int) := if_pos hm0
          have f2 : decide ((m : Int) > 0) = false := decide_eq_false (by clear hand hand2 hum hum2; omega)
          have f3 : ((m : Int) == 0) = true := by rw [beq_iff_eq]; clear hand hand2 hum hum2; omega
          have f4 : ((k : Int) == (k : Int)) = true := by simp
          clear hm0 em
          go_wp2_with (first | ((with_reducible refine gate_callee (f := 25) rfl ?_); refine goesL_ (some 81) rfl rfl Try.func25 (by kernel_rfl) rfl #[.pointer (some ⟨g, 0, none⟩), .int .i64 bit] rfl (by (try simp only [List.map_toArray, List.map_cons, List.map_nil]); first | done | rfl) ?_; refine (backC _ w3.heap.size g l Y HIS.out k HKL.out m HMR.out HD.out bit HBIT.out).mono ?_; rw [f1]; rintro e w6 ⟨rfl, hd6, ht6⟩; refine ⟨_, rfl, ?_⟩; have HD6 := Aside0.mk hd6; have HB6 := Aside0.mk (And.intro (HB.out.1.trans (ht6.below.mono HB3.out.size)) (And.intro (HB.out.2.1.trans ht6.below) (Kd.R_keep HB.out.2.2 ht6.keep (fun _ h => h)))); clear hd6 ht6))
          go_roundg m
          case rel => exact ⟨m, by have := HXS.out; omega, Nat.le_refl _, by first | rfl | rw [HW3.out], HD6, HB6⟩
          case measure => have := HXS.out; omega
        · have f1 : (if m = 0 then (k : Int) else -1) = -1 := if_neg hm0
          have f2 : decide ((m : Int) > 0) = true := decide_eq_true (by clear hand hand2 hum hum2; omega)
          have f3 : ((m : Int) == 0) = false := by rw [beq_eq_false_iff_ne]; clear hand hand2 hum hum2; omega
          have f4 : ((-1 : Int) == (k : Int)) = false := by rw [beq_eq_false_iff_ne]; clear hand hand2 hum hum2; omega
          clear hm0 em
          go_wp2_with (first | ((with_reducible refine gate_callee (f := 25) rfl ?_); refine goesL_ (some 81) rfl rfl Try.func25 (by kernel_rfl) rfl #[.pointer (some ⟨g, 0, none⟩), .int .i64 bit] rfl (by (try simp only [List.map_toArray, List.map_cons, List.map_nil]); first | done | rfl) ?_; refine (backC _ w3.heap.size g l Y HIS.out k HKL.out m HMR.out HD.out bit HBIT.out).mono ?_; rw [f1]; rintro e w6 ⟨rfl, hd6, ht6⟩; refine ⟨_, rfl, ?_⟩; have HD6 := Aside0.mk hd6; have HB6 := Aside0.mk (And.intro (HB.out.1.trans (ht6.below.mono HB3.out.size)) (And.intro (HB.out.2.1.trans ht6.below) (Kd.R_keep HB.out.2.2 ht6.keep (fun _ h => h)))); clear hd6 ht6))
          go_roundg m
          case rel => exact ⟨m, by have := HXS.out; omega, Nat.le_refl _, by first | rfl | rw [HW3.out], HD6, HB6⟩
          case measure => have := HXS.out; omega
theorem rubricatorlaw3_HuffWhole.walk (A0 : Option Addr) (c0 : Nat) (o : List Int) (w : World) (hr0 : Kd.C (Kd.int .i64) w A0 o.length o) (hc0 : o.length ≤ c0) (_ : o.length ≤ maxLen) (_ : o.length * 8 ≤ 140737488351232) (_ : ∀ x ∈ o, (Lit.int .i64 x).wf = true) :
    Calls Try.prog 11 #[.slice A0 o.length c0] w fun e w' => e = .returned (.bool true) ∧ Below w.heap.size w w' := by
  by_cases h1 : o.length ≤ 320
  case neg =>
    have d1 : decide ((o.length : Int) > 320) = true := decide_eq_true (by omega)
    clear h1 hr0 hc0
    generalize o.length = n at d1 ⊢
    go_enter Try.func11, Try.ntmps11
    go_wp2
    go_ret
    exact ⟨rfl, Below.refl _ _⟩
  by_cases hm : Pack.May o 15
  case neg =>
    have d1 : decide ((o.length : Int) > 320) = false := decide_eq_false (by omega)
    obtain ⟨km, hkm⟩ := (Pack.may_ev o 15 false ⟨fun h => (by cases h), fun h => absurd h hm⟩).rounds
    have HMY := Aside0.mk hkm
    have HR0 := Aside0.mk hr0
    have HC0 := Aside0.mk hc0
    clear h1 hr0 hc0 hkm hm
    go_enter Try.func11, Try.ntmps11
    go_wp2_with (first | ((with_reducible refine gate_callee (f := 17) rfl ?_); refine gate_guard (by rfl) ?_; dsimp only; refine goesL_ (some 17) rfl rfl Try.func17 (by kernel_rfl) rfl #[.slice A0 o.length c0, .int .i64 15] rfl (by (try simp only [List.map_toArray, List.map_cons, List.map_nil]); first | done | rfl) ?_; refine (rubricatorref3_May.calls km A0 c0 o 15 false _ HR0.out HC0.out HMY.out).mono ?_; rintro e w1 ⟨rfl, hd⟩; refine ⟨_, rfl, ?_⟩; have HB1 := Aside0.mk hd.below; clear hd))
    go_ret
    exact ⟨rfl, HB1.out⟩
  exact whole_yes A0 c0 o w hr0 hc0 h1 hm
end Go.Proofs.Ytachnclfgjdglaa.PA
