/- BitsParts: two Writers side by side, and why they hold the same. No conditions. -/
import Derived.Test.YtblneonbilbaiaaKnown
import Derived.Test.YtblneonbilbaiaaMath
import Derived.Test.YtblneonbilbaiaaSame
namespace Go.Proofs.Ytblneonbilbaiaa.PA
open Go.Proofs.Ytblneonbilbaiaa.Mat Go.RowKit Go.Proofs.YtblneonbilbaiaaW.PrintWords Go.Proofs.YtblneonbilbaiaaW.PrintLast Go.Proofs.YtblneonbilbaiaaW.PrintMore
set_option linter.unusedVariables false
set_option linter.unusedSimpArgs false
theorem wst_at {s0 : BW} {b0 : Nat} {w : World} {g : Nat} {u : Value} (e : s0 = ⟨[], 0, 0⟩) (h : Wst b0 w g [] 0 0 u) : Wst b0 w g s0.b s0.p s0.i u := by
  subst e
  exact h
theorem bits_Writer_Put.at_ (g : Nat) (s t : BW) (v n : Int) (u : Value) (w : World) (b0 : Nat) (hbw : b0 ≤ w.heap.size) (h : Wst b0 w g s.b s.p s.i u) (hs : s.ok 800000000) (hn : 0 ≤ n) (hn2 : n ≤ 24) (hf : bits_fits.f v n 24 = some true) (ht : putW n.toNat 0 s v = t) :
    Calls Try.prog 12 #[.pointer (some ⟨g, 0, none⟩), .int .i64 v, .int .i64 n] w fun e w' => e = .returned (.int .i64 0) ∧ ∃ u', Wst b0 w' g t.b t.p t.i u' ∧ Wto b0 w g u w' u' := by
  subst ht
  exact bits_Writer_Put.calls g s v n u w b0 hbw h hs hn hn2 hf
theorem parts_a {b : Nat} {w1 w2 w3 : World} {g : Nat} {u u1 : Value} (hz : w2.heap.size = w1.heap.size + 1) (h : Wto b w2 g u w3 u1) : w1.heap.size ≤ w3.heap.size := by
  have := h.kept.1
  omega
theorem foot_none {g k : Nat} (h : Foot g (.slice none 0 0) k) : k = g := by
  rcases h with h | h
  · exact h
  · cases h
theorem parts_b {s0 : BW} {w w1 w2 w3 : World} {u1 : Value} (h : Wst w1.heap.size w2 w1.heap.size s0.b s0.p s0.i (.slice none 0 0)) (hz : w1.heap.size = w.heap.size + 1) (ho : Wto w.heap.size w2 w.heap.size (.slice none 0 0) w3 u1) : Wst w1.heap.size w3 w1.heap.size s0.b s0.p s0.i (.slice none 0 0) :=
  h.apart ho.kept (fun hf => by have := foot_none hf; omega) (fun j hj => by cases hj)
theorem parts_c {b : List Int} {p i : Int} {w w1 w2 w3 w4 : World} {u1 u2 : Value} (h : Wst w.heap.size w3 w.heap.size b p i u1) (hz : w1.heap.size = w.heap.size + 1) (hz1 : w2.heap.size = w1.heap.size + 1) (ho : Wto w.heap.size w2 w.heap.size (.slice none 0 0) w3 u1) (hk : Wto w1.heap.size w3 w1.heap.size (.slice none 0 0) w4 u2) : Wst w.heap.size w4 w.heap.size b p i u1 :=
  h.apart hk.kept (fun hf => by have := foot_none hf; omega) (fun j hj hf => by
    have := foot_none hf
    rcases ho.own with e | ⟨k, e, hk⟩
    · rw [e] at hj; cases hj
    · rw [e] at hj
      obtain rfl := Option.some.inj hj
      omega)
theorem parts_d {b : List Int} {p i : Int} {w w1 w2 w3 w4 w5 : World} {u1 u2 u3 : Value} (h3 : Wst w.heap.size w3 w.heap.size b p i u1) (h : Wst w.heap.size w4 w.heap.size b p i u1) (hz : w1.heap.size = w.heap.size + 1) (hz1 : w2.heap.size = w1.heap.size + 1) (ho : Wto w.heap.size w2 w.heap.size (.slice none 0 0) w3 u1) (hk : Wto w1.heap.size w3 w1.heap.size (.slice none 0 0) w4 u2) (hk2 : Wto w1.heap.size w4 w1.heap.size u2 w5 u3) : Wst w.heap.size w5 w.heap.size b p i u1 := by
  have hs := ho.kept.1
  have own2 : ∀ k, u2.ownBlock = some k → w3.heap.size ≤ k := fun k hk2 => by
    rcases hk.own with e | ⟨k', e, hk'⟩
    · rw [e] at hk2; cases hk2
    · rw [e] at hk2
      obtain rfl := Option.some.inj hk2
      exact hk'
  have own1 : ∀ j, u1.ownBlock = some j → w2.heap.size ≤ j ∧ j < w3.heap.size := fun j hj => by
    refine ⟨?_, Kd.R_lt h3.row j hj⟩
    rcases ho.own with e | ⟨k, e, hk⟩
    · rw [e] at hj; cases hj
    · rw [e] at hj
      obtain rfl := Option.some.inj hj
      exact hk
  refine h.apart hk2.kept (fun hf => ?_) (fun j hj hf => ?_)
  · rcases hf with hf | hf
    · omega
    · have := own2 _ hf; omega
  · have := own1 j hj
    rcases hf with hf | hf
    · omega
    · have := own2 _ hf; omega
set_option maxHeartbeats 4000000 in
set_option maxRecDepth 100000 in
theorem parts_walk (v cut : Int) (L : List Int) (ks : Nat) (s0 s24 sx sy : BW) (w : World) (hv : 0 ≤ v) (hv2 : v < 16777216) (hc : 0 ≤ cut) (hc2 : cut ≤ 24)
    (es : s0 = ⟨[], 0, 0⟩) (e24 : putW (Int.toNat 24) 0 s0 v = s24) (ex : putW cut.toNat 0 s0 (Go.bits .and .i64 v (wrap64 (wrap64 (2 ^ cut.toNat) - 1))) = sx) (ey : putW (24 - cut).toNat 0 sx (v / 2 ^ cut.toNat) = sy)
    (f1 : bits_fits.f v 24 24 = some true) (fx : bits_fits.f (Go.bits .and .i64 v (wrap64 (wrap64 (2 ^ cut.toNat) - 1))) cut 24 = some true) (fy : bits_fits.f (v / 2 ^ cut.toNat) (24 - cut) 24 = some true) (hok : sx.ok 800000000)
    (hl1 : bytesW s24 = L) (hl2 : bytesW sy = L) (h3 : L.length = 3) (hlb : s24.b.length < 1000000000) (hlc : sy.b.length < 1000000000) (fs : rubricatorlaw1_same.f ks L L = some true) :
    Calls Try.prog 3 #[.int .i64 v, .int .i64 cut] w fun e w' => e = .returned (.bool true) ∧ Below w.heap.size w w' := by
  have d1 : decide (v < 0) = false := decide_eq_false (by omega)
  have d2 : decide (16777216 ≤ v) = false := decide_eq_false (by omega)
  have d3 : decide (cut < 0) = false := decide_eq_false (by omega)
  have d4 : decide (24 < cut) = false := decide_eq_false (by omega)
  have d5 : decide (0 ≤ cut) = true := decide_eq_true (by omega)
  have e5 : cut % 18446744073709551616 = cut := by omega
  have e6 : wrap64 (24 - cut) = 24 - cut := by unfold wrap64; omega
  have e7 : cut.toNat < 64 := by omega
  have ES := Aside0.mk es
  have E24 := Aside0.mk e24
  have EX := Aside0.mk ex
  have EY := Aside0.mk ey
  have H0 := Aside0.mk (show s0.ok 800000000 by rw [es]; exact ⟨by decide, by decide, by simp⟩)
  have HC2 := Aside0.mk (show 0 ≤ 24 - cut ∧ 24 - cut ≤ 24 by omega)
  clear es e24 ex ey
  have F1 := Aside0.mk f1
  have FX := Aside0.mk fx
  have FY := Aside0.mk fy
  have HOK := Aside0.mk hok
  have HL1 := Aside0.mk hl1
  have HL2 := Aside0.mk hl2
  have HLB := Aside0.mk hlb
  have HLC := Aside0.mk hlc
  have FS := Aside0.mk fs
  have HC := Aside0.mk (And.intro hc hc2)
  have dL : ((L.length : Int) == 3) = true := by rw [h3]; rfl
  clear hv hv2 hc hc2 f1 fx fy hok hl1 hl2 hlb hlc fs h3
  go_enter Try.func3, Try.ntmps3
  go_wp2_with (first | (go_at_call 11; refine (bits_New.made w).mono ?_; rintro e w1 ⟨rfl, h1, h2, h3⟩; replace h1 := wst_at ES.out h1; have HU0 := Aside0.mk h1; have HB0 := Aside0.mk h2; have HZ := Aside0.mk h3; clear h1 h2 h3) | (go_at_call 11; refine (bits_New.made w1).mono ?_; rintro e w2 ⟨rfl, h1, h2, h3⟩; replace h1 := wst_at ES.out h1; have HV0 := Aside0.mk h1; have HU1 := Aside0.mk (HU0.out.below h2); have HB1 := Aside0.mk (HB0.out.trans (h2.mono HB0.out.size)); have HZ1 := Aside0.mk h3; clear h1 h2 h3) | ((with_reducible refine gate_callee (f := 12) rfl ?_); refine gate_guard (by rfl) ?_; dsimp only; refine goesL_ (some 35) rfl rfl Try.func12 (by kernel_rfl) rfl #[.pointer (some ⟨w.heap.size, 0, none⟩), .int .i64 v, .int .i64 24] rfl (by (try simp only [List.map_toArray, List.map_cons, List.map_nil]); first | done | rfl) ?_; refine (bits_Writer_Put.at_ w.heap.size s0 s24 v 24 _ _ w.heap.size HB1.out.size HU1.out H0.out (by decide) (by decide) F1.out E24.out).mono ?_; rintro e w3 ⟨rfl, u1, h1, h2⟩; refine ⟨_, rfl, ?_⟩; have HU2 := Aside0.mk h1; have HO2 := Aside0.mk h2; have HB2 := Aside0.mk (HB1.out.trans h2.below); clear h1 h2) | ((with_reducible refine gate_callee (f := 12) rfl ?_); refine goesL_ (some 46) rfl rfl Try.func12 (by kernel_rfl) rfl #[.pointer (some ⟨w1.heap.size, 0, none⟩), .int .i64 (Go.bits .and .i64 v (wrap64 (wrap64 (2 ^ cut.toNat) - 1))), .int .i64 cut] rfl (by (try simp only [List.map_toArray, List.map_cons, List.map_nil]); first | done | rfl) ?_; refine (bits_Writer_Put.at_ w1.heap.size s0 sx (Go.bits .and .i64 v (wrap64 (wrap64 (2 ^ cut.toNat) - 1))) cut (.slice none 0 0) w3 w1.heap.size (parts_a HZ1.out HO2.out) (parts_b HV0.out HZ.out HO2.out) H0.out HC.out.1 HC.out.2 FX.out EX.out).mono ?_; rintro e w4 ⟨rfl, u2, h1, h2⟩; refine ⟨_, rfl, ?_⟩; have HV2 := Aside0.mk h1; have HO3 := Aside0.mk h2; have HU3 := Aside0.mk (parts_c HU2.out HZ.out HZ1.out HO2.out h2); have HB3 := Aside0.mk (HB2.out.trans (h2.below.mono HB0.out.size)); clear h1 h2) | ((with_reducible refine gate_callee (f := 12) rfl ?_); refine goesL_ (some 54) rfl rfl Try.func12 (by kernel_rfl) rfl #[.pointer (some ⟨w1.heap.size, 0, none⟩), .int .i64 (v / 2 ^ cut.toNat), .int .i64 (24 - cut)] rfl (by (try simp only [List.map_toArray, List.map_cons, List.map_nil]); first | done | rfl) ?_; refine (bits_Writer_Put.at_ w1.heap.size sx sy (v / 2 ^ cut.toNat) (24 - cut) u2 w4 w1.heap.size (Nat.le_trans (parts_a HZ1.out HO2.out) HO3.out.kept.1) HV2.out HOK.out HC2.out.1 HC2.out.2 FY.out EY.out).mono ?_; rintro e w5 ⟨rfl, u3, h1, h2⟩; refine ⟨_, rfl, ?_⟩; have HV3 := Aside0.mk h1; have HU4 := Aside0.mk (parts_d HU2.out HU3.out HZ.out HZ1.out HO2.out HO3.out h2); have HB4 := Aside0.mk (HB3.out.trans (h2.below.mono HB0.out.size)); clear h1 h2) | ((with_reducible refine gate_callee (f := 14) rfl ?_); refine gate_guard (by rfl) ?_; dsimp only; refine goesL_ (some 63) rfl rfl Try.func14 (by kernel_rfl) rfl #[.pointer (some ⟨w.heap.size, 0, none⟩)] rfl (by (try simp only [List.map_toArray, List.map_cons, List.map_nil]); first | done | rfl) ?_; refine (bits_Writer_Bytes.calls w.heap.size s24 _ _ w.heap.size HU4.out HLB.out).mono ?_; rintro e w6 ⟨v6, rfl, h1, h2⟩; refine ⟨_, rfl, ?_⟩; rw [HL1.out] at h1; obtain ⟨A6, c6, e6⟩ := Kd.R_slice h1; subst e6; have HO6 := Aside0.mk h1; have HU5 := Aside0.mk (HU4.out.below h2); have HV4 := Aside0.mk (HV3.out.below h2); have HB5 := Aside0.mk (HB4.out.trans (h2.mono HB4.out.size)); clear h1 h2) | ((with_reducible refine gate_callee (f := 14) rfl ?_); refine gate_guard (by rfl) ?_; dsimp only; refine goesL_ (some 65) rfl rfl Try.func14 (by kernel_rfl) rfl #[.pointer (some ⟨w1.heap.size, 0, none⟩)] rfl (by (try simp only [List.map_toArray, List.map_cons, List.map_nil]); first | done | rfl) ?_; refine (bits_Writer_Bytes.calls w1.heap.size sy _ _ w1.heap.size HV4.out HLC.out).mono ?_; rintro e w7 ⟨v7, rfl, h1, h2⟩; refine ⟨_, rfl, ?_⟩; rw [HL2.out] at h1; obtain ⟨A7, c7, e7_⟩ := Kd.R_slice h1; subst e7_; have HO7 := Aside0.mk h1; have HO67 := Aside0.mk (Kd.R_below HO6.out h2); have HU6 := Aside0.mk (HU5.out.below h2); have HB6 := Aside0.mk (HB5.out.trans (h2.mono HB5.out.size)); clear h1 h2) | ((with_reducible refine gate_callee (f := 13) rfl ?_); refine gate_guard (by rfl) ?_; dsimp only; refine goesL_ (some 66) rfl rfl Try.func13 (by kernel_rfl) rfl #[.slice A6 L.length c6, .slice A7 L.length c7] rfl (by (try simp only [List.map_toArray, List.map_cons, List.map_nil]); first | done | rfl) ?_; refine (rubricatorlaw1_same.calls ks A6 c6 L A7 c7 L true _ (Kd.R_reads' HO67.out).2.2 (Kd.R_reads' HO67.out).2.1 (Kd.R_reads' HO7.out).2.2 (Kd.R_reads' HO7.out).2.1 FS.out).mono ?_; rintro e w8 ⟨rfl, hd⟩; refine ⟨_, rfl, ?_⟩; have HU7 := Aside0.mk (HU6.out.below hd.below); have HB7 := Aside0.mk (HB6.out.trans (hd.below.mono HB6.out.size)); clear hd) | ((with_reducible refine gate_callee (f := 14) rfl ?_); refine gate_guard (by rfl) ?_; dsimp only; refine goesL_ (some 70) rfl rfl Try.func14 (by kernel_rfl) rfl #[.pointer (some ⟨w.heap.size, 0, none⟩)] rfl (by (try simp only [List.map_toArray, List.map_cons, List.map_nil]); first | done | rfl) ?_; refine (bits_Writer_Bytes.calls w.heap.size s24 _ _ w.heap.size HU7.out HLB.out).mono ?_; rintro e w9 ⟨v9, rfl, h1, h2⟩; refine ⟨_, rfl, ?_⟩; rw [HL1.out] at h1; obtain ⟨A9, c9, e9⟩ := Kd.R_slice h1; subst e9; have HB8 := Aside0.mk (HB7.out.trans (h2.mono HB7.out.size)); clear h1 h2) | ((with_reducible refine gate_callee (f := 10) rfl ?_); refine gate_guard (by rfl) ?_; dsimp only; refine goesL_ (some 75) rfl rfl Try.func10 (by kernel_rfl) rfl #[] rfl (by (try simp only [List.map_toArray, List.map_cons, List.map_nil]); first | done | rfl) ?_; refine (rubricatorlaw1_known.calls _).mono ?_; rintro e wA ⟨rfl, hd⟩; refine ⟨_, rfl, ?_⟩; have HB9 := Aside0.mk (HB8.out.trans (hd.mono HB8.out.size)); clear hd) | (go_at_call 10; refine (rubricatorlaw1_known.calls _).mono ?_; rintro e wA ⟨rfl, hd⟩; have HB9 := Aside0.mk (HB8.out.trans (hd.mono HB8.out.size)); clear hd))
  go_ret
  exact ⟨rfl, HB9.out⟩
set_option maxHeartbeats 4000000 in
set_option maxRecDepth 100000 in
theorem parts_out (v cut : Int) (w : World) (h : v < 0 ∨ 16777216 ≤ v ∨ cut < 0 ∨ 24 < cut) :
    Calls Try.prog 3 #[.int .i64 v, .int .i64 cut] w fun e w' => e = .returned (.bool true) ∧ Below w.heap.size w w' := by
  by_cases h1 : v < 0
  · have d1 : decide (v < 0) = true := decide_eq_true (by omega)
    clear h h1
    go_enter Try.func3, Try.ntmps3
    go_wp2_with (go_at_call 10; refine (rubricatorlaw1_known.calls _).mono ?_; rintro e wA ⟨rfl, hd⟩; have HB9 := Aside0.mk hd; clear hd)
    go_ret
    exact ⟨rfl, HB9.out⟩
  · by_cases h2 : 16777216 ≤ v
    · have d1 : decide (v < 0) = false := decide_eq_false (by omega)
      have d2 : decide (16777216 ≤ v) = true := decide_eq_true (by omega)
      clear h h1 h2
      go_enter Try.func3, Try.ntmps3
      go_wp2_with (go_at_call 10; refine (rubricatorlaw1_known.calls _).mono ?_; rintro e wA ⟨rfl, hd⟩; have HB9 := Aside0.mk hd; clear hd)
      go_ret
      exact ⟨rfl, HB9.out⟩
    · by_cases h3 : cut < 0
      · have d1 : decide (v < 0) = false := decide_eq_false (by omega)
        have d2 : decide (16777216 ≤ v) = false := decide_eq_false (by omega)
        have d3 : decide (cut < 0) = true := decide_eq_true (by omega)
        clear h h1 h2 h3
        go_enter Try.func3, Try.ntmps3
        go_wp2_with (go_at_call 10; refine (rubricatorlaw1_known.calls _).mono ?_; rintro e wA ⟨rfl, hd⟩; have HB9 := Aside0.mk hd; clear hd)
        go_ret
        exact ⟨rfl, HB9.out⟩
      · have d1 : decide (v < 0) = false := decide_eq_false (by omega)
        have d2 : decide (16777216 ≤ v) = false := decide_eq_false (by omega)
        have d3 : decide (cut < 0) = false := decide_eq_false (by omega)
        have d4 : decide (24 < cut) = true := decide_eq_true (by omega)
        clear h h1 h2 h3
        go_enter Try.func3, Try.ntmps3
        go_wp2_with (go_at_call 10; refine (rubricatorlaw1_known.calls _).mono ?_; rintro e wA ⟨rfl, hd⟩; have HB9 := Aside0.mk hd; clear hd)
        go_ret
        exact ⟨rfl, HB9.out⟩
theorem shl_pow (n : Nat) (h : n ≤ 24) : shl .i64 1 (n : Int) = 2 ^ n := by
  have : n = 0 ∨ n = 1 ∨ n = 2 ∨ n = 3 ∨ n = 4 ∨ n = 5 ∨ n = 6 ∨ n = 7 ∨ n = 8 ∨ n = 9 ∨ n = 10 ∨ n = 11 ∨ n = 12 ∨ n = 13 ∨ n = 14 ∨ n = 15 ∨ n = 16 ∨ n = 17 ∨ n = 18 ∨ n = 19 ∨ n = 20 ∨ n = 21 ∨ n = 22 ∨ n = 23 ∨ n = 24 := by omega
  rcases this with rfl | rfl | rfl | rfl | rfl | rfl | rfl | rfl | rfl | rfl | rfl | rfl | rfl | rfl | rfl | rfl | rfl | rfl | rfl | rfl | rfl | rfl | rfl | rfl | rfl <;> decide
theorem fits_ev (v : Int) (n m : Nat) (hn : n ≤ m) (hm : m ≤ 24) (h0 : 0 ≤ v) (h1 : v < 2 ^ n) : bits_fits.f v (n : Int) (m : Int) = some true := by
  unfold bits_fits.f
  rw [if_pos (by omega), if_pos (by omega), if_pos (by omega), if_pos (by omega), shl_pow n (by omega), decide_eq_true h1]
theorem mask_eq (v : Int) (n : Nat) (hn : n ≤ 24) (h0 : 0 ≤ v) (h1 : v < 9223372036854775808) : Go.bits .and .i64 v (wrap64 (wrap64 (2 ^ n) - 1)) = v % 2 ^ n := by
  obtain ⟨V, rfl⟩ := Int.eq_ofNat_of_zero_le h0
  have hp : (2 : Nat) ^ n ≤ 2 ^ 24 := Nat.pow_le_pow_right (by decide) hn
  have hp0 : 0 < (2 : Nat) ^ n := Nat.pow_pos (by decide)
  have e : wrap64 (wrap64 (2 ^ n) - 1) = ((2 ^ n - 1 : Nat) : Int) := by
    have e1 : ((2 : Int) ^ n) = ((2 ^ n : Nat) : Int) := by rw [Int.natCast_pow]; rfl
    rw [e1]
    unfold wrap64
    omega
  rw [e, i64_and V (2 ^ n - 1) (by omega) (by omega), Nat.and_two_pow_sub_one_eq_mod, Int.natCast_emod, Int.natCast_pow]
  rfl
theorem parts_walk2 (v : Int) (c : Nat) (w : World) (hv : 0 ≤ v) (hv2 : v < 16777216) (hc2 : c ≤ 24) :
    Calls Try.prog 3 #[.int .i64 v, .int .i64 (c : Int)] w fun e w' => e = .returned (.bool true) ∧ Below w.heap.size w w' := by
  have hv3 : v < 9223372036854775808 := by omega
  have em : Go.bits .and .i64 v (wrap64 (wrap64 (2 ^ (c : Int).toNat) - 1)) = v % 2 ^ c := mask_eq v c hc2 hv hv3
  have hp : (0 : Int) < 2 ^ c := Int.pow_pos (by decide)
  have hx0 := Int.emod_nonneg v (Int.ne_of_gt hp)
  have hx1 := Int.emod_lt_of_pos v hp
  have hy := div_range v c hv hv3
  have hle : v % 2 ^ c ≤ v := by
    have k1 := Int.emod_add_mul_ediv v (2 ^ c)
    have k2 := Int.mul_nonneg (Int.le_of_lt hp) hy.1
    omega
  obtain ⟨a1, a2, a3⟩ := putW_wf v hv hv3 24 0 _ wf0
  obtain ⟨b1, b2, b3⟩ := putW_wf (v % 2 ^ c) hx0 (by omega) c 0 _ wf0
  obtain ⟨c1, c2, c3⟩ := putW_wf (v / 2 ^ c) hy.1 hy.2 (24 - c) 0 _ b1
  have e24 : (2 : Int) ^ c * 2 ^ (24 - c) = 16777216 := by
    rw [← Int.pow_add, show c + (24 - c) = 24 by omega]
    rfl
  have hym : v / 2 ^ c < 2 ^ (24 - c) := by
    refine Int.ediv_lt_of_lt_mul hp ?_
    rw [Int.mul_comm, e24]
    exact hv2
  have n1 : BW.N (putW 24 0 ⟨[], 0, 0⟩ v) = v := by
    rw [a2, N0, T0, Int.pow_zero, Int.ediv_one, Int.mul_one, Int.zero_add]
    exact Int.emod_eq_of_lt hv hv2
  have n2 : BW.N (putW (24 - c) 0 (putW c 0 ⟨[], 0, 0⟩ (v % 2 ^ c)) (v / 2 ^ c)) = v := by
    rw [c2, b2, b3, N0, T0, Int.pow_zero, Int.ediv_one, Int.ediv_one, Int.mul_one, Int.zero_add, Nat.zero_add, Int.emod_emod_of_dvd v (Int.dvd_refl _), Int.emod_eq_of_lt hy.1 hym, Int.mul_comm]
    exact Int.emod_add_mul_ediv v (2 ^ c)
  have t1 : BW.T (putW 24 0 ⟨[], 0, 0⟩ v) = 24 := by rw [a3, T0]
  have t2 : BW.T (putW (24 - c) 0 (putW c 0 ⟨[], 0, 0⟩ (v % 2 ^ c)) (v / 2 ^ c)) = 24 := by rw [c3, b3, T0]; omega
  have eb := bytes_eq a1 c1 (n1.trans n2.symm) (t1.trans t2.symm)
  have hl : (bytesW (putW 24 0 ⟨[], 0, 0⟩ v)).length = 3 := by rw [(bytesW_wf a1).2.2, t1]
  obtain ⟨ks, hks⟩ := (Go.Proofs.Ytblneonbilbaiaa.Same.same_ev (bytesW (putW 24 0 ⟨[], 0, 0⟩ v)) (bytesW (putW 24 0 ⟨[], 0, 0⟩ v)) (by omega)).rounds
  rw [decide_eq_true rfl] at hks
  have l1 := len_le (putW 24 0 ⟨[], 0, 0⟩ v)
  have l2 := len_le (putW (24 - c) 0 (putW c 0 ⟨[], 0, 0⟩ (v % 2 ^ c)) (v / 2 ^ c))
  have l3 := len_le (putW c 0 ⟨[], 0, 0⟩ (v % 2 ^ c))
  refine parts_walk v c (bytesW (putW 24 0 ⟨[], 0, 0⟩ v)) ks ⟨[], 0, 0⟩ (putW 24 0 ⟨[], 0, 0⟩ v) (putW c 0 ⟨[], 0, 0⟩ (v % 2 ^ c)) (putW (24 - c) 0 (putW c 0 ⟨[], 0, 0⟩ (v % 2 ^ c)) (v / 2 ^ c)) w hv hv2 (by omega) (by omega) rfl rfl ?_ ?_ ?_ ?_ ?_ ?_ rfl eb.symm hl (by omega) (by omega) hks
  · rw [em]; rfl
  · rw [show (24 - (c : Int)).toNat = 24 - c by omega]; rfl
  · exact fits_ev v 24 24 (by decide) (by decide) hv hv2
  · rw [em]; exact fits_ev _ c 24 hc2 (by decide) hx0 hx1
  · have := fits_ev (v / 2 ^ c) (24 - c) 24 (by omega) (by decide) hy.1 hym
    rw [show ((24 - c : Nat) : Int) = 24 - (c : Int) by omega] at this
    exact this
  · refine ⟨b1.i0, b1.i8, ?_⟩
    rw [b3, T0] at l3
    omega
theorem rubricatorlaw1_BitsParts.walk (v cut : Int) (w : World) (_ : (Lit.int .i64 v).wf = true) (_ : (Lit.int .i64 cut).wf = true) :
    Calls Try.prog 3 #[.int .i64 v, .int .i64 cut] w fun e w' => e = .returned (.bool true) ∧ Below w.heap.size w w' := by
  by_cases h : v < 0 ∨ 16777216 ≤ v ∨ cut < 0 ∨ 24 < cut
  · exact parts_out v cut w h
  · obtain ⟨c, rfl⟩ := Int.eq_ofNat_of_zero_le (show 0 ≤ cut by omega)
    exact parts_walk2 v c w (by omega) (by omega) (by omega)
end Go.Proofs.Ytblneonbilbaiaa.PA
