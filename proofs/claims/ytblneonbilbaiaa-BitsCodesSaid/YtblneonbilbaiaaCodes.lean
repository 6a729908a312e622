/- BitsCodes: a code is laid and read bit by bit. No conditions. -/
import Derived.Test.YtblneonbilbaiaaKnown
import Derived.Test.YtblneonbilbaiaaNothing
import Derived.Test.YtblneonbilbaiaaReadMath
namespace Go.Proofs.Ytblneonbilbaiaa.PA
open Go.Proofs.Ytblneonbilbaiaa.Mat Go.RowKit Go.Proofs.YtblneonbilbaiaaW.PrintWords Go.Proofs.YtblneonbilbaiaaW.PrintLast Go.Proofs.YtblneonbilbaiaaW.PrintMore
set_option linter.unusedVariables false
set_option linter.unusedSimpArgs false
theorem bits_Reader_Get.at_ (g : Nat) (b : List Int) (p : Nat) (n r : Int) (u : Value) (w : World) (b0 : Nat) (hbw : b0 ≤ w.heap.size) (h : Rst b0 w g b p u) (hp2 : p ≤ 8000000000) (hl : b.length < 1000000000)
    (hn : 0 ≤ n) (hn2 : n ≤ 24) (hnl : n ≤ b.length * 8 - p) (hr : getR b p n.toNat 0 0 = r) :
    Calls Try.prog 28 #[.pointer (some ⟨g, 0, none⟩), .int .i64 n] w fun e w' => e = .returned (.tuple #[.int .i64 r, .int .i64 0]) ∧ Rst b0 w' g b ((p + n.toNat : Nat) : Int) u ∧ Rto b0 w g w' := by
  subst hr
  exact bits_Reader_Get.calls g b p n u w b0 hbw h hp2 hl hn hn2 hnl
set_option maxHeartbeats 4000000 in
set_option maxRecDepth 100000 in
theorem codes_no (v n : Int) (w : World) (hf : bits_fits.f v n 15 = some false) (hd : decide (n < 0) = true ∨ (decide (n < 0) = false ∧ decide (15 < n) = true) ∨ (decide (n < 0) = false ∧ decide (15 < n) = false ∧ decide (v < 0) = true) ∨ (decide (n < 0) = false ∧ decide (15 < n) = false ∧ decide (v < 0) = false ∧ n % 18446744073709551616 = n ∧ n.toNat < 64 ∧ decide (0 ≤ n) = true ∧ decide (wrap64 (2 ^ n.toNat) ≤ v) = true)) :
    Calls Try.prog 6 #[.int .i64 v, .int .i64 n] w fun e w' => e = .returned (.bool true) ∧ Below w.heap.size w w' := by
  have HF := Aside0.mk hf
  clear hf
  rcases hd with d1 | ⟨d1, d2⟩ | ⟨d1, d2, d3⟩ | ⟨d1, d2, d3, d4, d5, d6, d7⟩
  all_goals
    go_enter Try.func6, Try.ntmps6
    go_wp2_with (first | (go_at_call 11; refine (bits_New.made w).mono ?_; rintro e w1 ⟨rfl, h1, h2, h3⟩; have HU1 := Aside0.mk h1; have HB1 := Aside0.mk h2; clear h1 h2 h3) | ((with_reducible refine gate_callee (f := 17) rfl ?_); refine gate_guard (by rfl) ?_; dsimp only; refine goesL_ (some 36) rfl rfl Try.func17 (by kernel_rfl) rfl #[.pointer (some ⟨w.heap.size, 0, none⟩), .int .i64 v, .int .i64 n] rfl (by (try simp only [List.map_toArray, List.map_cons, List.map_nil]); first | done | rfl) ?_; refine (bits_Writer_Code.refuses w.heap.size v n _ HF.out).mono ?_; rintro e w2 ⟨rfl, hd⟩; refine ⟨_, rfl, ?_⟩; have HU2 := Aside0.mk (HU1.out.below hd.below); have HB2 := Aside0.mk (HB1.out.trans (hd.below.mono HB1.out.size)); clear hd) | ((with_reducible refine gate_callee (f := 14) rfl ?_); refine gate_guard (by rfl) ?_; dsimp only; refine goesL_ (some 41) rfl rfl Try.func14 (by kernel_rfl) rfl #[.pointer (some ⟨w.heap.size, 0, none⟩)] rfl (by (try simp only [List.map_toArray, List.map_cons, List.map_nil]); first | done | rfl) ?_; refine (bits_Writer_Bytes.calls w.heap.size ⟨[], 0, 0⟩ _ _ w.heap.size HU2.out (by decide)).mono ?_; rintro e w3 ⟨v3, rfl, h1, h2⟩; refine ⟨_, rfl, ?_⟩; rw [show bytesW ⟨[], 0, 0⟩ = [] from rfl] at h1; obtain ⟨A3, c3, e3⟩ := Kd.R_slice h1; subst e3; have HB3 := Aside0.mk (HB2.out.trans (h2.mono HB2.out.size)); clear h1 h2) | ((with_reducible refine gate_callee (f := 10) rfl ?_); refine gate_guard (by rfl) ?_; dsimp only; refine goesL_ (some 46) rfl rfl Try.func10 (by kernel_rfl) rfl #[] rfl (by (try simp only [List.map_toArray, List.map_cons, List.map_nil]); first | done | rfl) ?_; refine (rubricatorlaw1_known.calls _).mono ?_; rintro e wA ⟨rfl, hd⟩; refine ⟨_, rfl, ?_⟩; have HBA := Aside0.mk (HB3.out.trans (hd.mono HB3.out.size)); clear hd) | (go_at_call 10; refine (rubricatorlaw1_known.calls _).mono ?_; rintro e wA ⟨rfl, hd⟩; have HBA := Aside0.mk (HB3.out.trans (hd.mono HB3.out.size)); clear hd))
    go_ret
    exact ⟨rfl, HBA.out⟩
set_option maxHeartbeats 4000000 in
set_option maxRecDepth 100000 in
theorem codes_yes (v n : Int) (s : BW) (L : List Int) (w : World) (hs : codeW n.toNat ⟨[], 0, 0⟩ v = s) (hn : 0 ≤ n) (hn2 : n ≤ 15) (hf : bits_fits.f v n 15 = some true) (d3 : decide (v < 0) = false) (d7 : decide (wrap64 (2 ^ n.toNat) ≤ v) = false)
    (hl : s.b.length < 1000000000 ∧ bytesW s = L ∧ L.length < 140737488355328 ∧ L.length < 1000000000) (hg : ∀ i : Nat, (i : Int) < n → getR L i (Int.toNat 1) 0 0 = v / 2 ^ (n.toNat - 1 - i) % 2 ∧ 1 ≤ (L.length : Int) * 8 - i) (hv : 0 ≤ v ∧ v < 32768) (hv2 : v / 2 ^ n.toNat = 0) :
    Calls Try.prog 6 #[.int .i64 v, .int .i64 n] w fun e w' => e = .returned (.bool true) ∧ Below w.heap.size w w' := by
  have HF := Aside0.mk hf
  have HS := Aside0.mk hs
  have HL := Aside0.mk hl
  have HG0 := Aside0.mk hg
  have HN := Aside0.mk (And.intro hn hn2)
  have HV := Aside0.mk (And.intro hv hv2)
  have d1 : decide (n < 0) = false := decide_eq_false (by omega)
  have d2 : decide (15 < n) = false := decide_eq_false (by omega)
  have d4 : n % 18446744073709551616 = n := by omega
  have d5 : n.toNat < 64 := by omega
  have d6 : decide (0 ≤ n) = true := decide_eq_true hn
  clear hf hs hl hg hn hn2 hv hv2
  go_enter Try.func6, Try.ntmps6
  go_wp2_with (first | (go_at_call 11; refine (bits_New.made w).mono ?_; rintro e w1 ⟨rfl, h1, h2, h3⟩; have HU1 := Aside0.mk h1; have HB1 := Aside0.mk h2; clear h1 h2 h3) | ((with_reducible refine gate_callee (f := 17) rfl ?_); refine gate_guard (by rfl) ?_; dsimp only; refine goesL_ (some 55) rfl rfl Try.func17 (by kernel_rfl) rfl #[.pointer (some ⟨w.heap.size, 0, none⟩), .int .i64 v, .int .i64 n] rfl (by (try simp only [List.map_toArray, List.map_cons, List.map_nil]); first | done | rfl) ?_; refine (bits_Writer_Code.calls w.heap.size ⟨[], 0, 0⟩ v n _ _ w.heap.size HB1.out.size HU1.out ⟨by decide, by decide, by simp⟩ HN.out.1 HN.out.2 HF.out).mono ?_; rintro e w2 ⟨rfl, u2, h1, h2⟩; refine ⟨_, rfl, ?_⟩; rw [HS.out] at h1; have HU2 := Aside0.mk h1; have HB2 := Aside0.mk (HB1.out.trans h2.below); clear h1 h2) | ((with_reducible refine gate_callee (f := 14) rfl ?_); refine goesL_ (some 59) rfl rfl Try.func14 (by kernel_rfl) rfl #[.pointer (some ⟨w.heap.size, 0, none⟩)] rfl (by (try simp only [List.map_toArray, List.map_cons, List.map_nil]); first | done | rfl) ?_; refine (bits_Writer_Bytes.calls w.heap.size s _ _ w.heap.size HU2.out HL.out.1).mono ?_; rintro e w3 ⟨v3, rfl, h1, h2⟩; refine ⟨_, rfl, ?_⟩; rw [HL.out.2.1] at h1; obtain ⟨A3, c3, e3⟩ := Kd.R_slice h1; subst e3; have HO3 := Aside0.mk h1; have HB3 := Aside0.mk (HB2.out.trans (h2.mono HB2.out.size)); clear h1 h2) | ((with_reducible refine gate_callee (f := 27) rfl ?_); refine goesL_ (some 60) rfl rfl Try.func27 (by kernel_rfl) rfl #[.slice A3 L.length c3] rfl (by (try simp only [List.map_toArray, List.map_cons, List.map_nil]); first | done | rfl) ?_; refine (bits_Of.calls A3 c3 L _ (Kd.R_reads' HO3.out).2.2 (Kd.R_reads' HO3.out).2.1 HL.out.2.2.1).mono ?_; rintro e w4 ⟨g, uR, rfl, h1, h2, h3⟩; refine ⟨_, rfl, ?_⟩; have HR4 := Aside0.mk h1; have HB4 := Aside0.mk (HB3.out.trans (h2.mono HB3.out.size)); have HS4 := Aside0.mk h2.size; clear h1 h2 h3))
  have H4 := Aside0.mk (Rto.refl (b0 := w3.heap.size) (w := w4) (g := g))
  go_loopw [8, 9] (fun v8 v9 wr => ∃ (i : Nat) (x : Int), v8 = .int .i64 x ∧ v9 = .int .i64 (i : Int) ∧ (i : Int) ≤ n ∧ Aside0 (x = v / 2 ^ (n.toNat - i)) ∧ Aside0 (Rst w3.heap.size wr g L (i : Int) uR) ∧ Aside0 (Rto w3.heap.size w4 g wr)) (fun _ v9 _ => n.toNat - (intOf v9).toNat)
  case atStart =>
    refine ⟨0, 0, rfl, rfl, HN.out.1, ⟨?_⟩, HR4, H4⟩
    exact HV.out.2.symm
  case round =>
    clear HR4 H4
    obtain ⟨i, x, rfl, rfl, hin, HX, HU, HO⟩ := hrel
    by_cases hlt : (i : Int) < n
    · have dlt : decide ((i : Int) < n) = true := decide_eq_true hlt
      have hg := HG0.out i hlt
      have HG := Aside0.mk hg.1
      have HLi := Aside0.mk hg.2
      have HI := Aside0.mk hlt
      clear hg hlt
      go_wp2_with ((with_reducible refine gate_callee (f := 28) rfl ?_); refine goesL_ (some 68) rfl rfl Try.func28 (by kernel_rfl) rfl #[.pointer (some ⟨g, 0, none⟩), .int .i64 1] rfl (by (try simp only [List.map_toArray, List.map_cons, List.map_nil]); first | done | rfl) ?_; refine (bits_Reader_Get.at_ g L i 1 (v / 2 ^ (n.toNat - 1 - i) % 2) uR _ w3.heap.size (Nat.le_trans HS4.out HO.out.kept.1) HU.out (by omega) HL.out.2.2.2 (by decide) (by decide) HLi.out HG.out).mono ?_; rintro e w5 ⟨rfl, h1, h2⟩; refine ⟨_, rfl, ?_⟩; have HU5 := Aside0.mk h1; have HO5 := Aside0.mk (HO.out.trans h2); clear h1 h2)
      go_roundw
      case rel =>
        have hi := HI.out
        obtain ⟨⟨v0, v1⟩, v2⟩ := HV.out
        have e : wrap64 (wrap64 (2 * x) + v / 2 ^ (n.toNat - 1 - i) % 2) = v / 2 ^ (n.toNat - (i + 1)) := by
          have e1 : v / 2 ^ (n.toNat - i) = v / 2 ^ (n.toNat - 1 - i) / 2 := by
            rw [div_div]
            congr 2
            omega
          have hr := div_range v (n.toNat - 1 - i) v0 (by omega)
          have hr2 : v / 2 ^ (n.toNat - 1 - i) ≤ v := Int.ediv_le_self _ v0
          rw [HX.out, e1, show n.toNat - (i + 1) = n.toNat - 1 - i by omega]
          unfold wrap64
          omega
        exact ⟨i + 1, _, rfl, rfl, by omega, ⟨e⟩, HU5, HO5⟩
      case measure =>
        have := HI.out
        simp [intOf]
        omega
    · have dlt : decide ((i : Int) < n) = false := decide_eq_false hlt
      have hi : i = n.toNat := by omega
      have ex : x = v := by
        rw [HX.out, hi, Nat.sub_self, Int.pow_zero, Int.ediv_one]
      clear HX hi hin hlt
      subst ex
      have HBr := Aside0.mk (HB4.out.trans (HO.out.below.mono HB3.out.size))
      go_wp2_with (first | ((with_reducible refine gate_callee (f := 10) rfl ?_); refine gate_guard (by rfl) ?_; dsimp only; refine goesL_ (some 81) rfl rfl Try.func10 (by kernel_rfl) rfl #[] rfl (by (try simp only [List.map_toArray, List.map_cons, List.map_nil]); first | done | rfl) ?_; refine (rubricatorlaw1_known.calls _).mono ?_; rintro e wA ⟨rfl, hd⟩; refine ⟨_, rfl, ?_⟩; have HBA := Aside0.mk (HBr.out.trans (hd.mono HBr.out.size)); clear hd) | (go_at_call 10; refine (rubricatorlaw1_known.calls _).mono ?_; rintro e wA ⟨rfl, hd⟩; have HBA := Aside0.mk (HBr.out.trans (hd.mono HBr.out.size)); clear hd))
      go_ret
      exact ⟨rfl, HBA.out⟩
theorem rubricatorlaw1_BitsCodes.walk (v n : Int) (w : World) (_ : (Lit.int .i64 v).wf = true) (_ : (Lit.int .i64 n).wf = true) :
    Calls Try.prog 6 #[.int .i64 v, .int .i64 n] w fun e w' => e = .returned (.bool true) ∧ Below w.heap.size w w' := by
  have hw : ∀ k : Nat, k ≤ 15 → wrap64 (2 ^ k) = 2 ^ k := fun k hk => by
    have := pow_le23 k (by omega)
    unfold wrap64
    omega
  by_cases h1 : n < 0
  · exact codes_no v n w (fits_no v n 15 (by decide) (.inl h1)) (.inl (decide_eq_true h1))
  by_cases h2 : 15 < n
  · exact codes_no v n w (fits_no v n 15 (by decide) (.inr (.inl h2))) (.inr (.inl ⟨decide_eq_false h1, decide_eq_true h2⟩))
  by_cases h3 : v < 0
  · exact codes_no v n w (fits_no v n 15 (by decide) (.inr (.inr (.inl h3)))) (.inr (.inr (.inl ⟨decide_eq_false h1, decide_eq_false h2, decide_eq_true h3⟩)))
  have hwn := hw n.toNat (by omega)
  by_cases h4 : 2 ^ n.toNat ≤ v
  · exact codes_no v n w (fits_no v n 15 (by decide) (.inr (.inr (.inr h4)))) (.inr (.inr (.inr ⟨decide_eq_false h1, decide_eq_false h2, decide_eq_false h3, by omega, by omega, decide_eq_true (by omega), decide_eq_true (by rw [hwn]; exact h4)⟩)))
  have hv : 0 ≤ v := by omega
  have hp := pow_le23 n.toNat (by omega)
  have hp15 : (2 : Int) ^ n.toNat ≤ 32768 := by
    have h : (2 : Nat) ^ n.toNat ≤ 2 ^ 15 := Nat.pow_le_pow_right (by decide) (by omega)
    have e : ((2 ^ n.toNat : Nat) : Int) = (2 : Int) ^ n.toNat := by rw [Int.natCast_pow]; rfl
    rw [← e]
    omega
  have hv3 : v < 9223372036854775808 := by omega
  obtain ⟨a1, a2, a3⟩ := codeW_wf v hv hv3 n.toNat _ wf0
  obtain ⟨b1, b2, b3⟩ := bytesW_wf a1
  rw [T0, Nat.zero_add] at a3
  rw [N0, T0, Int.pow_zero, Int.mul_one, Int.zero_add] at a2
  rw [a2] at b2
  rw [a3] at b3
  have hl := len_le (codeW n.toNat ⟨[], 0, 0⟩ v)
  refine codes_yes v n _ _ w rfl (by omega) (by omega) ?_ (decide_eq_false h3) (decide_eq_false (by rw [hwn]; exact h4)) ⟨by omega, rfl, by omega, by omega⟩ ?_ ⟨hv, by omega⟩ (Int.ediv_eq_zero_of_lt hv (by omega))
  · have hf := fits_yes v n.toNat 15 (by omega) (by decide) hv (by omega)
    rw [show ((n.toNat : Nat) : Int) = n by omega] at hf
    exact hf
  · intro i hi
    refine ⟨?_, by omega⟩
    rw [show Int.toNat 1 = 1 from rfl, get_eq _ b1 i 1 (by decide) (by omega), b2, Int.pow_one]
    exact rev_bit n.toNat i v (by omega)
end Go.Proofs.Ytblneonbilbaiaa.PA
