/- utf8.Valid of a row of bytes: the walk, over the two tables as they are laid. No conditions. -/
import Derived.Test.YtekkkohncfmmfaaDoorVal
import Derived.Shelf.Unicode.DecodeAny
namespace Go.Proofs.YtekkkohncfmmfaaDoor.PA
open Go.Proofs.YtekkkohncfmmfaaDoor.Rune Go.RowKit Go.Proofs.YtekkkohncfmmfaaDoorW.PrintWords Go.Proofs.YtekkkohncfmmfaaDoorW.PrintLast Go.Proofs.YtekkkohncfmmfaaDoorW.PrintMore
set_option linter.unusedVariables false
set_option linter.unusedSimpArgs false
theorem cut_all (A : Option Addr) (n c : Nat) (hc : n ≤ c) (W : World) : (Instr.slice 22 (.slice A n c) none (some (.int .i64 (n : Int))) (some (.int .i64 (n : Int)))).run Tryd.prog W = .ok (.slice A n n) W := by
  obtain ⟨i, hi, hs⟩ := infoS
  have hel : Tryd.prog.elem 22 = 5 := by simp [Program.elem, Tryd.underlying22]
  have hu : Tryd.prog.underlying 22 = some (.slice (Tryd.prog.elem 22)) := by rw [hel]; exact Tryd.underlying22
  have ha : (A.map fun x => x.add 0) = A := by cases A <;> simp [Addr.add]
  rw [run_slice_hm W 22 A n c hu .i64 .i64 (n : Int) (n : Int) (by omega) (by omega) (by omega), hel]
  simp [sizeOf, typeInfo, hi, hs, sliced, Result.andThen, ha]
def lenOf : Value → Nat | .slice _ n _ => n | _ => 0
theorem Rem.cap {w : World} {A : Option Addr} {n c : Nat} {t : ByteArray} (h : Rem w A n c t) : Rem w A n n t := ⟨h.cs, h.sz, Nat.le_refl _⟩
theorem Tabs.below {w w1 : World} (h : Lib.Utf8Tabs 0 1 w) (hb : Below w.heap.size w w1) : Lib.Utf8Tabs 0 1 w1 := Utf8Tabs_below h hb
theorem Rem.drawn {w w1 : World} {A : Option Addr} {n c : Nat} {t : ByteArray} (h : Rem w A n c t) (hd : Drawn0 w w1) : Rem w1 A n c t := h.below hd.below
set_option maxHeartbeats 4000000 in
set_option maxRecDepth 100000 in
theorem utf8_Valid.calls (A : Option Addr) (c : Nat) (s : ByteArray) (n : Nat) (w : World) (hR : Rem w A n c s) (hT : Lib.Utf8Tabs 0 1 w) (r : Bool) (hv : V s = r) :
    Calls Tryd.prog 20 #[.slice A n c] w fun e w' => e = .returned (.bool r) ∧ Below w.heap.size w w' := by
  have HT := Aside0.mk hT
  have h0 := cut_all A n c hR.le
  have HR := Aside0.mk hR.cap
  have HV := Aside0.mk hv
  clear hR hT hv
  go_enter Tryd.func20, Tryd.ntmps20
  go_wp2
  clear h0
  go_loopw [0] (fun v0 wr => ∃ (A : Option Addr) (n c : Nat) (t : ByteArray), v0 = .slice A n c ∧ Aside0 (Rem wr A n c t) ∧ Aside0 (V t = r) ∧ n ≤ n ∧ Aside0 (Below w.heap.size w wr)) (fun v0 _ => lenOf v0)
  case atStart => exact ⟨A, n, n, s, rfl, HR, HV, Nat.le_refl _, ⟨Below.refl _ _⟩⟩
  case round =>
    clear HR HV
    obtain ⟨A, n, c, t, rfl, HRB, HV, _, HBB⟩ := hrel
    have hsz := HRB.out.sz
    by_cases h0 : n = 0
    · have d0 : decide (0 < (n : Int)) = false := decide_eq_false (by omega)
      have d0n : decide (0 < n) = false := decide_eq_false (by omega)
      have hv := V_nil (t := t) (by omega)
      rw [HV.out] at hv
      subst hv
      clear h0 hsz
      go_wp2
      go_ret
      exact ⟨rfl, HBB.out⟩
    · have d0 : decide (0 < (n : Int)) = true := decide_eq_true (by omega)
      have d0n : decide (0 < n) = true := decide_eq_true (by omega)
      obtain ⟨ad, ea, x0⟩ := HRB.out.at_ 0 (by omega)
      subst ea
      rw [Addr.add_zero'] at x0
      obtain ⟨b0, hb0⟩ : ∃ y, (t.get! 0).toNat = y := ⟨_, rfl⟩
      have hl0 : b0 < 256 := hb0 ▸ (t.get! 0).toNat_lt
      rw [hb0] at x0
      have p0 : (0 ≤ (0 : Int)) = True := eq_true (by omega)
      have q0 : ((0 : Int) < (n : Int)) = True := eq_true (by omega)
      have r0 : (0 < n) = True := eq_true (by omega)
      by_cases ha : b0 < 128
      · as_aux_lemma =>
        have da : decide ((b0 : Int) < 128) = true := decide_eq_true (by omega)
        have v1 := V_one (t := t) (by omega) (by omega)
        obtain ⟨A1, hs1, hd1⟩ := Rem.drop HRB.out 1 (by omega) 1 rfl
        obtain ⟨n1, hn1⟩ : ∃ y, n - 1 = y := ⟨_, rfl⟩
        obtain ⟨c1, hc1⟩ : ∃ y, c - 1 = y := ⟨_, rfl⟩
        obtain ⟨t1, ht1⟩ : ∃ y, t.extract 1 t.size = y := ⟨_, rfl⟩
        rw [hn1, hc1] at hs1 hd1
        rw [ht1] at hd1
        have HV1 := Aside0.mk (show V t1 = r by rw [← ht1, v1]; exact HV.out)
        have HRB := Aside0.mk (hd1 _ HRB.out)
        have z1 := HRB.out.sz
        clear v1 ht1 hd1
        by_cases k8 : 8 < n1
        · have d8 : decide (8 < (n1 : Int)) = true := decide_eq_true (by omega)
          obtain ⟨a1, ha1⟩ : ∃ y, Wd t1 = y := ⟨_, rfl⟩
          obtain ⟨y1, hy1⟩ : ∃ y, a1 &&& 9259542123273814144 = y := ⟨_, rfl⟩
          have b1 := and_at (ha1 ▸ Wd_lt t1) hy1
          have HA1 := Aside0.mk ha1
          by_cases hz1 : y1 = 0
          · have e1 : ((y1 : Int) == 0) = true := by simp [hz1]
            have v2 := V_skip (asc_of t1 (by omega) (by rw [ha1, hy1, hz1]))
            obtain ⟨A2, hs2, hd2⟩ := Rem.drop HRB.out 8 (by omega) 8 rfl
            obtain ⟨n2, hn2⟩ : ∃ y, n1 - 8 = y := ⟨_, rfl⟩
            obtain ⟨c2, hc2⟩ : ∃ y, c1 - 8 = y := ⟨_, rfl⟩
            obtain ⟨t2, ht2⟩ : ∃ y, t1.extract 8 t1.size = y := ⟨_, rfl⟩
            rw [hn2, hc2] at hs2 hd2
            rw [ht2] at hd2
            have HV2 := Aside0.mk (show V t2 = r by rw [← ht2, v2]; exact HV1.out)
            have HD2 := Aside0.mk hd2
            clear v2 ht2 hd2 hz1 hy1 ha1
            go_wp2_with ((with_reducible refine gate_callee (f := 23) rfl ?_); refine gate_guard (by rfl) ?_; dsimp only; refine goesL_ (some 28) rfl rfl Tryd.func23 (by kernel_rfl) rfl #[.slice A1 n1 c1] rfl (by (try simp only [List.map_toArray, List.map_cons, List.map_nil]); first | done | rfl) ?_; refine (word_at HRB.out (by omega) a1 HA1.out).mono ?_; rintro e w1 ⟨rfl, hd⟩; refine ⟨_, rfl, ?_⟩; have HR1 := Aside0.mk (HRB.out.drawn hd); have HB1 := Aside0.mk (HBB.out.trans (hd.below.mono HBB.out.size)); clear hd)
            have HRB := Aside0.mk (HD2.out _ HR1.out)
            have HBB := HB1
            have z2 := HRB.out.sz
            clear HD2 HR1 HB1
            by_cases k16 : 16 < n2
            · have d16 : decide (16 < (n2 : Int)) = true := decide_eq_true (by omega)
              obtain ⟨A3, hs3, hd3⟩ := Rem.drop HRB.out 8 (by omega) 8 rfl
              obtain ⟨n3, hn3⟩ : ∃ y, n2 - 8 = y := ⟨_, rfl⟩
              obtain ⟨c3, hc3⟩ : ∃ y, c2 - 8 = y := ⟨_, rfl⟩
              obtain ⟨t3, ht3⟩ : ∃ y, t2.extract 8 t2.size = y := ⟨_, rfl⟩
              rw [hn3, hc3] at hs3 hd3
              rw [ht3] at hd3
              obtain ⟨a2, ha2⟩ : ∃ y, Wd t2 = y := ⟨_, rfl⟩
              obtain ⟨a3, ha3⟩ : ∃ y, Wd t3 = y := ⟨_, rfl⟩
              obtain ⟨o2, ho2⟩ : ∃ y, a2 ||| a3 = y := ⟨_, rfl⟩
              obtain ⟨b2, lo2⟩ := or_at (ha2 ▸ Wd_lt t2) (ha3 ▸ Wd_lt t3) ho2
              obtain ⟨y2, hy2⟩ : ∃ y, o2 &&& 9259542123273814144 = y := ⟨_, rfl⟩
              have b3 := and_at lo2 hy2
              have HA2 := Aside0.mk ha2
              have HA3 := Aside0.mk ha3
              have HD3 := Aside0.mk (hd3 _ HRB.out)
              by_cases hz2 : y2 = 0
              · have e2 : ((y2 : Int) == 0) = true := by simp [hz2]
                have v3 := V_skip (asc16 t2 (by omega) (by rw [ht3, ha2, ha3, ho2, hy2, hz2]))
                obtain ⟨A4, hs4, hd4⟩ := Rem.drop HRB.out 16 (by omega) 16 rfl
                obtain ⟨n4, hn4⟩ : ∃ y, n2 - 16 = y := ⟨_, rfl⟩
                obtain ⟨c4, hc4⟩ : ∃ y, c2 - 16 = y := ⟨_, rfl⟩
                obtain ⟨t4, ht4⟩ : ∃ y, t2.extract 16 t2.size = y := ⟨_, rfl⟩
                rw [hn4, hc4] at hs4 hd4
                rw [ht4] at hd4
                have HV4 := Aside0.mk (show V t4 = r by rw [← ht4, v3]; exact HV2.out)
                have HR4 := Aside0.mk (hd4 _ HRB.out)
                clear v3 ht4 hd4 hz2 hy2 ha2 ha3 ho2 ht3 hd3 lo2
                go_quiet (first | (go_at_call 23; (with_reducible refine (word_at (HRB.out.drawn ⟨⟨_, rfl⟩⟩) (by omega) _ HA2.out).mono ?_); rintro e w' ⟨rfl, ⟨nd, rfl⟩⟩; (try first | exact ⟨rfl, _, World.drewN_drewN _ _ _⟩ | exact ⟨rfl, _, Eq.trans (World.drewN_drewN _ _ _) (congrArg (World.drewN _) (Nat.add_assoc _ _ _))⟩)) | (go_at_call 23; (with_reducible refine (word_at (HD3.out.drawn ⟨⟨_, rfl⟩⟩) (by omega) _ HA3.out).mono ?_); rintro e w' ⟨rfl, ⟨nd, rfl⟩⟩; (try first | exact ⟨rfl, _, World.drewN_drewN _ _ _⟩ | exact ⟨rfl, _, Eq.trans (World.drewN_drewN _ _ _) (congrArg (World.drewN _) (Nat.add_assoc _ _ _))⟩)))
                have HBQ := Aside0.mk (pw_below_drewN HBB.out nq)
                replace HR4 := Aside0.mk (HR4.out.drawn ⟨⟨nq, rfl⟩⟩)
                go_wp2
                go_loopw [0] (fun v0 wr => ∃ (A : Option Addr) (n c : Nat) (t : ByteArray), v0 = .slice A n c ∧ Aside0 (Rem wr A n c t) ∧ Aside0 (V t = r) ∧ n ≤ n4 ∧ Aside0 (Below w.heap.size w wr)) (fun v0 _ => lenOf v0)
                case atStart => exact ⟨A4, n4, c4, t4, rfl, HR4, HV4, Nat.le_refl _, HBQ⟩
                case round =>
                  clear HR4 HBQ HRB HBB HV4
                  obtain ⟨A, n, c, t, rfl, HRB, HV, hn4, HBB⟩ := hrel
                  have hsz := HRB.out.sz
                  by_cases k32 : 32 < n
                  · have d32 : decide (32 < (n : Int)) = true := decide_eq_true (by omega)
                    have d32n : decide (32 < n) = true := decide_eq_true (by omega)
                    obtain ⟨A5, hs5, hd5⟩ := Rem.drop HRB.out 8 (by omega) 8 rfl
                    obtain ⟨n5, hn5⟩ : ∃ y, n - 8 = y := ⟨_, rfl⟩
                    obtain ⟨c5, hc5⟩ : ∃ y, c - 8 = y := ⟨_, rfl⟩
                    obtain ⟨t5, ht5⟩ : ∃ y, t.extract 8 t.size = y := ⟨_, rfl⟩
                    rw [hn5, hc5] at hs5 hd5
                    rw [ht5] at hd5
                    obtain ⟨A6, hs6, hd6⟩ := Rem.drop HRB.out 16 (by omega) 16 rfl
                    obtain ⟨n6, hn6⟩ : ∃ y, n - 16 = y := ⟨_, rfl⟩
                    obtain ⟨c6, hc6⟩ : ∃ y, c - 16 = y := ⟨_, rfl⟩
                    obtain ⟨t6, ht6⟩ : ∃ y, t.extract 16 t.size = y := ⟨_, rfl⟩
                    rw [hn6, hc6] at hs6 hd6
                    rw [ht6] at hd6
                    obtain ⟨A7, hs7, hd7⟩ := Rem.drop HRB.out 24 (by omega) 24 rfl
                    obtain ⟨n7, hn7⟩ : ∃ y, n - 24 = y := ⟨_, rfl⟩
                    obtain ⟨c7, hc7⟩ : ∃ y, c - 24 = y := ⟨_, rfl⟩
                    obtain ⟨t7, ht7⟩ : ∃ y, t.extract 24 t.size = y := ⟨_, rfl⟩
                    rw [hn7, hc7] at hs7 hd7
                    rw [ht7] at hd7
                    obtain ⟨x1, hx1⟩ : ∃ y, Wd t = y := ⟨_, rfl⟩
                    obtain ⟨x2, hx2⟩ : ∃ y, Wd t5 = y := ⟨_, rfl⟩
                    obtain ⟨x3, hx3⟩ : ∃ y, Wd t6 = y := ⟨_, rfl⟩
                    obtain ⟨x4, hx4⟩ : ∃ y, Wd t7 = y := ⟨_, rfl⟩
                    obtain ⟨x5, hx5⟩ : ∃ y, x1 ||| x2 = y := ⟨_, rfl⟩
                    obtain ⟨x6, hx6⟩ : ∃ y, x3 ||| x4 = y := ⟨_, rfl⟩
                    obtain ⟨x7, hx7⟩ : ∃ y, x5 ||| x6 = y := ⟨_, rfl⟩
                    obtain ⟨x8, hx8⟩ : ∃ y, x7 &&& 9259542123273814144 = y := ⟨_, rfl⟩
                    obtain ⟨g5, l5⟩ := or_at (hx1 ▸ Wd_lt t) (hx2 ▸ Wd_lt t5) hx5
                    obtain ⟨g6, l6⟩ := or_at (hx3 ▸ Wd_lt t6) (hx4 ▸ Wd_lt t7) hx6
                    obtain ⟨g7, l7⟩ := or_at l5 l6 hx7
                    have g8 := and_at l7 hx8
                    have HX1 := Aside0.mk hx1
                    have HX2 := Aside0.mk hx2
                    have HX3 := Aside0.mk hx3
                    have HX4 := Aside0.mk hx4
                    have HD5 := Aside0.mk (hd5 _ HRB.out)
                    have HD6 := Aside0.mk (hd6 _ HRB.out)
                    have HD7 := Aside0.mk (hd7 _ HRB.out)
                    by_cases hz : x8 = 0
                    · have ez : ((x8 : Int) == 0) = true := by simp [hz]
                      have v8 := V_skip (asc32 t (by omega) (by rw [ht5, ht6, ht7, hx1, hx2, hx3, hx4, hx5, hx6, hx7, hx8, hz]))
                      obtain ⟨A8, hs8, hd8⟩ := Rem.drop HRB.out 32 (by omega) 32 rfl
                      obtain ⟨n8, hn8⟩ : ∃ y, n - 32 = y := ⟨_, rfl⟩
                      obtain ⟨c8, hc8⟩ : ∃ y, c - 32 = y := ⟨_, rfl⟩
                      obtain ⟨t8, ht8⟩ : ∃ y, t.extract 32 t.size = y := ⟨_, rfl⟩
                      rw [hn8, hc8] at hs8 hd8
                      rw [ht8] at hd8
                      have HV8 := Aside0.mk (show V t8 = r by rw [← ht8, v8]; exact HV.out)
                      have HR8 := Aside0.mk (hd8 _ HRB.out)
                      clear v8 ht8 hd8 hz hx1 hx2 hx3 hx4 hx5 hx6 hx7 hx8 ht5 hd5 ht6 hd6 ht7 hd7 l5 l6 l7
                      go_wp2
                      go_quiet (first | (go_at_call 23; (with_reducible refine (word_at (HRB.out.drawn ⟨⟨_, rfl⟩⟩) (by omega) _ HX1.out).mono ?_); rintro e w' ⟨rfl, ⟨nd, rfl⟩⟩; (try first | exact ⟨rfl, _, World.drewN_drewN _ _ _⟩ | exact ⟨rfl, _, Eq.trans (World.drewN_drewN _ _ _) (congrArg (World.drewN _) (Nat.add_assoc _ _ _))⟩)) | (go_at_call 23; (with_reducible refine (word_at (HD5.out.drawn ⟨⟨_, rfl⟩⟩) (by omega) _ HX2.out).mono ?_); rintro e w' ⟨rfl, ⟨nd, rfl⟩⟩; (try first | exact ⟨rfl, _, World.drewN_drewN _ _ _⟩ | exact ⟨rfl, _, Eq.trans (World.drewN_drewN _ _ _) (congrArg (World.drewN _) (Nat.add_assoc _ _ _))⟩)) | (go_at_call 23; (with_reducible refine (word_at (HD6.out.drawn ⟨⟨_, rfl⟩⟩) (by omega) _ HX3.out).mono ?_); rintro e w' ⟨rfl, ⟨nd, rfl⟩⟩; (try first | exact ⟨rfl, _, World.drewN_drewN _ _ _⟩ | exact ⟨rfl, _, Eq.trans (World.drewN_drewN _ _ _) (congrArg (World.drewN _) (Nat.add_assoc _ _ _))⟩)) | (go_at_call 23; (with_reducible refine (word_at (HD7.out.drawn ⟨⟨_, rfl⟩⟩) (by omega) _ HX4.out).mono ?_); rintro e w' ⟨rfl, ⟨nd, rfl⟩⟩; (try first | exact ⟨rfl, _, World.drewN_drewN _ _ _⟩ | exact ⟨rfl, _, Eq.trans (World.drewN_drewN _ _ _) (congrArg (World.drewN _) (Nat.add_assoc _ _ _))⟩)))
                      go_wp2
                      go_roundw
                      case rel => exact ⟨A8, n8, c8, t8, rfl, ⟨HR8.out.drawn ⟨⟨_, rfl⟩⟩⟩, HV8, by omega, ⟨pw_below_drewN HBB.out _⟩⟩
                      case measure => simp only [lenOf]; omega
                    · have ez : ((x8 : Int) == 0) = false := by simp; omega
                      clear hz hx1 hx2 hx3 hx4 hx5 hx6 hx7 hx8 ht5 hd5 ht6 hd6 ht7 hd7 l5 l6 l7
                      go_wp2
                      go_quiet (first | (go_at_call 23; (with_reducible refine (word_at (HRB.out.drawn ⟨⟨_, rfl⟩⟩) (by omega) _ HX1.out).mono ?_); rintro e w' ⟨rfl, ⟨nd, rfl⟩⟩; (try first | exact ⟨rfl, _, World.drewN_drewN _ _ _⟩ | exact ⟨rfl, _, Eq.trans (World.drewN_drewN _ _ _) (congrArg (World.drewN _) (Nat.add_assoc _ _ _))⟩)) | (go_at_call 23; (with_reducible refine (word_at (HD5.out.drawn ⟨⟨_, rfl⟩⟩) (by omega) _ HX2.out).mono ?_); rintro e w' ⟨rfl, ⟨nd, rfl⟩⟩; (try first | exact ⟨rfl, _, World.drewN_drewN _ _ _⟩ | exact ⟨rfl, _, Eq.trans (World.drewN_drewN _ _ _) (congrArg (World.drewN _) (Nat.add_assoc _ _ _))⟩)) | (go_at_call 23; (with_reducible refine (word_at (HD6.out.drawn ⟨⟨_, rfl⟩⟩) (by omega) _ HX3.out).mono ?_); rintro e w' ⟨rfl, ⟨nd, rfl⟩⟩; (try first | exact ⟨rfl, _, World.drewN_drewN _ _ _⟩ | exact ⟨rfl, _, Eq.trans (World.drewN_drewN _ _ _) (congrArg (World.drewN _) (Nat.add_assoc _ _ _))⟩)) | (go_at_call 23; (with_reducible refine (word_at (HD7.out.drawn ⟨⟨_, rfl⟩⟩) (by omega) _ HX4.out).mono ?_); rintro e w' ⟨rfl, ⟨nd, rfl⟩⟩; (try first | exact ⟨rfl, _, World.drewN_drewN _ _ _⟩ | exact ⟨rfl, _, Eq.trans (World.drewN_drewN _ _ _) (congrArg (World.drewN _) (Nat.add_assoc _ _ _))⟩)))
                      go_wp2
                      go_roundw
                      case rel => exact ⟨A, n, c, t, rfl, ⟨HRB.out.drawn ⟨⟨_, rfl⟩⟩⟩, HV, by omega, ⟨pw_below_drewN HBB.out _⟩⟩
                      case measure => simp only [lenOf]; omega
                  · have d32 : decide (32 < (n : Int)) = false := decide_eq_false (by omega)
                    have d32n : decide (32 < n) = false := decide_eq_false (by omega)
                    go_wp2
                    go_quiet (fail)
                    go_wp2
                    go_roundw
                    case rel => exact ⟨A, n, c, t, rfl, ⟨HRB.out.drawn ⟨⟨_, rfl⟩⟩⟩, HV, by omega, ⟨pw_below_drewN HBB.out _⟩⟩
                    case measure => simp only [lenOf]; omega
              · have e2 : ((y2 : Int) == 0) = false := by simp; omega
                clear hz2 hy2 ha2 ha3 ho2 ht3 hd3 lo2
                go_quiet (first | (go_at_call 23; (with_reducible refine (word_at (HRB.out.drawn ⟨⟨_, rfl⟩⟩) (by omega) _ HA2.out).mono ?_); rintro e w' ⟨rfl, ⟨nd, rfl⟩⟩; (try first | exact ⟨rfl, _, World.drewN_drewN _ _ _⟩ | exact ⟨rfl, _, Eq.trans (World.drewN_drewN _ _ _) (congrArg (World.drewN _) (Nat.add_assoc _ _ _))⟩)) | (go_at_call 23; (with_reducible refine (word_at (HD3.out.drawn ⟨⟨_, rfl⟩⟩) (by omega) _ HA3.out).mono ?_); rintro e w' ⟨rfl, ⟨nd, rfl⟩⟩; (try first | exact ⟨rfl, _, World.drewN_drewN _ _ _⟩ | exact ⟨rfl, _, Eq.trans (World.drewN_drewN _ _ _) (congrArg (World.drewN _) (Nat.add_assoc _ _ _))⟩)))
                go_wp2
                go_roundw
                case rel => exact ⟨A2, n2, c2, t2, rfl, ⟨HRB.out.drawn ⟨⟨_, rfl⟩⟩⟩, HV2, by omega, ⟨pw_below_drewN HBB.out _⟩⟩
                case measure => simp only [lenOf]; omega
            · have d16 : decide (16 < (n2 : Int)) = false := decide_eq_false (by omega)
              have d16n : decide (16 < n2) = false := decide_eq_false (by omega)
              go_quiet (fail)
              go_wp2
              go_roundw
              case rel => exact ⟨A2, n2, c2, t2, rfl, ⟨HRB.out.drawn ⟨⟨_, rfl⟩⟩⟩, HV2, by omega, ⟨pw_below_drewN HBB.out _⟩⟩
              case measure => simp only [lenOf]; omega
          · have e1 : ((y1 : Int) == 0) = false := by simp; omega
            clear hz1 hy1 ha1
            go_wp2_with ((with_reducible refine gate_callee (f := 23) rfl ?_); refine gate_guard (by rfl) ?_; dsimp only; refine goesL_ (some 28) rfl rfl Tryd.func23 (by kernel_rfl) rfl #[.slice A1 n1 c1] rfl (by (try simp only [List.map_toArray, List.map_cons, List.map_nil]); first | done | rfl) ?_; refine (word_at HRB.out (by omega) a1 HA1.out).mono ?_; rintro e w1 ⟨rfl, hd⟩; refine ⟨_, rfl, ?_⟩; have HR1 := Aside0.mk (HRB.out.drawn hd); have HB1 := Aside0.mk (HBB.out.trans (hd.below.mono HBB.out.size)); clear hd)
            go_wp2
            go_roundw
            case rel => exact ⟨A1, n1, c1, t1, rfl, ⟨HR1.out⟩, HV1, by omega, ⟨HB1.out⟩⟩
            case measure => simp only [lenOf]; omega
        · have d8 : decide (8 < (n1 : Int)) = false := decide_eq_false (by omega)
          have d8n : decide (8 < n1) = false := decide_eq_false (by omega)
          go_wp2
          go_roundw
          case rel => exact ⟨A1, n1, c1, t1, rfl, ⟨HRB.out⟩, HV1, by omega, ⟨HBB.out⟩⟩
          case measure => simp only [lenOf]; omega
      · as_aux_lemma =>
        have da : decide ((b0 : Int) < 128) = false := decide_eq_false (by omega)
        have hlead := V_lead (t := t) (by omega) (by omega)
        obtain ⟨m1, hm1⟩ : ∃ y, (t.get! 1).toNat = y := ⟨_, rfl⟩
        obtain ⟨m2, hm2⟩ : ∃ y, (t.get! 2).toNat = y := ⟨_, rfl⟩
        obtain ⟨m3, hm3⟩ : ∃ y, (t.get! 3).toNat = y := ⟨_, rfl⟩
        rw [hb0, hm1, hm2, hm3, hsz, HV.out] at hlead
        have HTr := Tabs.below HT.out HBB.out
        have hc0 := HTr.1 b0 hl0
        have hXc : b0 < 128 → False := fun h => ha h
        obtain ⟨X, hX⟩ : ∃ y, Lib.firstT b0 = y := ⟨_, rfl⟩
        rw [hX] at hc0 hlead
        have hXl : X < 256 := hX ▸ firstT_lt b0
        have h7 := and7 ⟨X, hXl⟩
        simp only at h7
        have ha0 : wr.cell? ⟨1, X / 16 * 2, none⟩ = some (.int .u8 (Lib.accLo (X / 16))) := by rw [Nat.mul_comm]; exact (HTr.2 (X / 16) (by omega)).1
        have ha1 : wr.cell? ⟨1, X / 16 * 2 + 1, none⟩ = some (.int .u8 (Lib.accHi (X / 16))) := by rw [Nat.mul_comm]; exact (HTr.2 (X / 16) (by omega)).2
        obtain ⟨LO, hLO⟩ : ∃ y, Lib.accLo (X / 16) = y := ⟨_, rfl⟩
        obtain ⟨HI, hHI⟩ : ∃ y, Lib.accHi (X / 16) = y := ⟨_, rfl⟩
        rw [hLO] at ha0 hlead
        rw [hHI] at ha1 hlead
        obtain ⟨SZ, hSZ⟩ : ∃ y, X % 8 = y := ⟨_, rfl⟩
        have hS : SZ = 0 ∨ SZ = 1 ∨ SZ = 2 ∨ SZ = 3 ∨ SZ = 4 := by rcases Lib.firstT_cases b0 with h | h | h | h | h | h | h | h | h <;> omega
        rw [hSZ] at h7 hlead
        have HA := Aside0.mk (show Rem (wr.alloc (.cells #[.int .u8 (LO : Int), .int .u8 (HI : Int)] 51)) (some ad) n c t ∧ Below w.heap.size w (wr.alloc (.cells #[.int .u8 (LO : Int), .int .u8 (HI : Int)] 51)) ∧ (wr.alloc (.cells #[.int .u8 (LO : Int), .int .u8 (HI : Int)] 51)).heap[wr.heap.size]? = some (.cells #[.int .u8 (LO : Int), .int .u8 (HI : Int)] 51 (0, 0)) from
          ⟨HRB.out.below (below_alloc (Below.refl _ _) _), HBB.out.trans ((below_alloc (Below.refl _ _) _).mono HBB.out.size), blk_new wr _⟩)
        clear hXc hX HTr hLO hHI HV HRB
        rcases hS with rfl | rfl | rfl | rfl | rfl
        · as_aux_lemma =>
          have hSZz : (X : Int) % 8 = 0 := by omega
          have hr : r = false := by rw [hlead]; rfl
          subst hr
          clear hSZ hlead
          go_wp2
          go_ret
          exact ⟨rfl, HA.out.2.1⟩
        · as_aux_lemma =>
          have hSZz : (X : Int) % 8 = 1 := by omega
          have hr : r = false := by rw [hlead]; rfl
          subst hr
          clear hSZ hlead
          go_wp2
          go_ret
          exact ⟨rfl, HA.out.2.1⟩
        · as_aux_lemma =>
          have hSZz : (X : Int) % 8 = 2 := by omega
          have hK : (if n < 2 ∨ m1 < LO ∨ HI < m1 then false else V (t.extract 2 n)) = r := by
            rw [hlead]
            show _ = (match (if n < 2 ∨ m1 < LO ∨ HI < m1 then none else some 2 : Option Nat) with | none => false | some k => V (t.extract k n))
            by_cases h : n < 2 ∨ m1 < LO ∨ HI < m1
            · rw [if_pos h, if_pos h]
            · rw [if_neg h, if_neg h]
          clear hlead hSZ
          go_wp2
          obtain ⟨b, hb⟩ : ∃ b, b = wr.heap.size := ⟨_, rfl⟩
          rw [← hb] at HA ⊢
          generalize (wr.alloc (.cells #[.int .u8 (LO : Int), .int .u8 (HI : Int)] 51)) = wx at HA ⊢
          clear hb ha0 ha1 hc0 x0 HBB
          have cl : wx.cell? ⟨b, 0, none⟩ = some (.int .u8 (LO : Int)) := blk_cell HA.out.2.2 0
          have ch : wx.cell? ⟨b, 1, none⟩ = some (.int .u8 (HI : Int)) := blk_cell HA.out.2.2 1
          by_cases k0 : n < 2
          · have d0z : decide ((n : Int) < 2) = true := decide_eq_true (by omega)
            have d0n : decide (n < 2) = true := decide_eq_true (by omega)
            rw [if_pos (by omega)] at hK
            subst hK
            go_quiet (fail)
            go_wp2
            go_ret
            exact ⟨rfl, pw_below_drewN HA.out.2.1 _⟩
          · have d0z : decide ((n : Int) < 2) = false := decide_eq_false (by omega)
            have d0n : decide (n < 2) = false := decide_eq_false (by omega)
            obtain ⟨ad1, ea1, cx1⟩ := HA.out.1.at_ 1 (by omega)
            obtain rfl : ad = ad1 := by injection ea1
            rw [hm1] at cx1
            (try simp only [Nat.reduceMul, Nat.reduceEqDiff, Go.Addr.add, ↓reduceIte] at cx1)
            have pp1 : (0 ≤ (1 : Int)) = True := eq_true (by omega)
            have pq1 : ((1 : Int) < (n : Int)) = True := eq_true (by omega)
            have pr1 : (1 < n) = True := eq_true (by omega)
            by_cases k1 : m1 < LO
            · have d1z : decide ((m1 : Int) < (LO : Int)) = true := decide_eq_true (by omega)
              have d1n : decide (m1 < LO) = true := decide_eq_true (by omega)
              rw [if_pos (by omega)] at hK
              subst hK
              go_quiet (fail)
              go_wp2
              go_ret
              exact ⟨rfl, pw_below_drewN HA.out.2.1 _⟩
            · have d1z : decide ((m1 : Int) < (LO : Int)) = false := decide_eq_false (by omega)
              have d1n : decide (m1 < LO) = false := decide_eq_false (by omega)
              by_cases k2 : HI < m1
              · have d2z : decide ((HI : Int) < (m1 : Int)) = true := decide_eq_true (by omega)
                have d2n : decide (HI < m1) = true := decide_eq_true (by omega)
                rw [if_pos (by omega)] at hK
                subst hK
                go_quiet (fail)
                go_wp2
                go_ret
                exact ⟨rfl, pw_below_drewN HA.out.2.1 _⟩
              · have d2z : decide ((HI : Int) < (m1 : Int)) = false := decide_eq_false (by omega)
                have d2n : decide (HI < m1) = false := decide_eq_false (by omega)
                rw [if_neg (by omega)] at hK
                obtain ⟨A9, hs9, hd9⟩ := Rem.drop HA.out.1 2 (by omega) 2 rfl
                obtain ⟨n9, hn9⟩ : ∃ y, n - 2 = y := ⟨_, rfl⟩
                obtain ⟨c9, hc9⟩ : ∃ y, c - 2 = y := ⟨_, rfl⟩
                obtain ⟨t9, ht9⟩ : ∃ y, t.extract 2 t.size = y := ⟨_, rfl⟩
                rw [hn9, hc9] at hs9 hd9
                rw [ht9] at hd9
                rw [← hsz, ht9] at hK
                have HV9 := Aside0.mk hK
                have HR9 := Aside0.mk (hd9 _ HA.out.1)
                clear hd9 ht9
                go_quiet (fail)
                go_wp2
                go_roundw
                case rel => exact ⟨A9, n9, c9, t9, rfl, ⟨HR9.out.drawn ⟨⟨_, rfl⟩⟩⟩, HV9, by omega, ⟨pw_below_drewN HA.out.2.1 _⟩⟩
                case measure => simp only [lenOf]; omega
        · as_aux_lemma =>
          have hSZz : (X : Int) % 8 = 3 := by omega
          have hK : (if n < 3 ∨ m1 < LO ∨ HI < m1 ∨ m2 < 128 ∨ 191 < m2 then false else V (t.extract 3 n)) = r := by
            rw [hlead]
            show _ = (match (if n < 3 ∨ m1 < LO ∨ HI < m1 ∨ m2 < 128 ∨ 191 < m2 then none else some 3 : Option Nat) with | none => false | some k => V (t.extract k n))
            by_cases h : n < 3 ∨ m1 < LO ∨ HI < m1 ∨ m2 < 128 ∨ 191 < m2
            · rw [if_pos h, if_pos h]
            · rw [if_neg h, if_neg h]
          clear hlead hSZ
          go_wp2
          obtain ⟨b, hb⟩ : ∃ b, b = wr.heap.size := ⟨_, rfl⟩
          rw [← hb] at HA ⊢
          generalize (wr.alloc (.cells #[.int .u8 (LO : Int), .int .u8 (HI : Int)] 51)) = wx at HA ⊢
          clear hb ha0 ha1 hc0 x0 HBB
          have cl : wx.cell? ⟨b, 0, none⟩ = some (.int .u8 (LO : Int)) := blk_cell HA.out.2.2 0
          have ch : wx.cell? ⟨b, 1, none⟩ = some (.int .u8 (HI : Int)) := blk_cell HA.out.2.2 1
          by_cases k0 : n < 3
          · have d0z : decide ((n : Int) < 3) = true := decide_eq_true (by omega)
            have d0n : decide (n < 3) = true := decide_eq_true (by omega)
            rw [if_pos (by omega)] at hK
            subst hK
            go_quiet (fail)
            go_wp2
            go_ret
            exact ⟨rfl, pw_below_drewN HA.out.2.1 _⟩
          · have d0z : decide ((n : Int) < 3) = false := decide_eq_false (by omega)
            have d0n : decide (n < 3) = false := decide_eq_false (by omega)
            obtain ⟨ad1, ea1, cx1⟩ := HA.out.1.at_ 1 (by omega)
            obtain rfl : ad = ad1 := by injection ea1
            rw [hm1] at cx1
            (try simp only [Nat.reduceMul, Nat.reduceEqDiff, Go.Addr.add, ↓reduceIte] at cx1)
            have pp1 : (0 ≤ (1 : Int)) = True := eq_true (by omega)
            have pq1 : ((1 : Int) < (n : Int)) = True := eq_true (by omega)
            have pr1 : (1 < n) = True := eq_true (by omega)
            by_cases k1 : m1 < LO
            · have d1z : decide ((m1 : Int) < (LO : Int)) = true := decide_eq_true (by omega)
              have d1n : decide (m1 < LO) = true := decide_eq_true (by omega)
              rw [if_pos (by omega)] at hK
              subst hK
              go_quiet (fail)
              go_wp2
              go_ret
              exact ⟨rfl, pw_below_drewN HA.out.2.1 _⟩
            · have d1z : decide ((m1 : Int) < (LO : Int)) = false := decide_eq_false (by omega)
              have d1n : decide (m1 < LO) = false := decide_eq_false (by omega)
              by_cases k2 : HI < m1
              · have d2z : decide ((HI : Int) < (m1 : Int)) = true := decide_eq_true (by omega)
                have d2n : decide (HI < m1) = true := decide_eq_true (by omega)
                rw [if_pos (by omega)] at hK
                subst hK
                go_quiet (fail)
                go_wp2
                go_ret
                exact ⟨rfl, pw_below_drewN HA.out.2.1 _⟩
              · have d2z : decide ((HI : Int) < (m1 : Int)) = false := decide_eq_false (by omega)
                have d2n : decide (HI < m1) = false := decide_eq_false (by omega)
                obtain ⟨ad2, ea2, cx2⟩ := HA.out.1.at_ 2 (by omega)
                obtain rfl : ad = ad2 := by injection ea2
                rw [hm2] at cx2
                (try simp only [Nat.reduceMul, Nat.reduceEqDiff, Go.Addr.add, ↓reduceIte] at cx2)
                have pp2 : (0 ≤ (2 : Int)) = True := eq_true (by omega)
                have pq2 : ((2 : Int) < (n : Int)) = True := eq_true (by omega)
                have pr2 : (2 < n) = True := eq_true (by omega)
                by_cases k3 : m2 < 128
                · have d3z : decide ((m2 : Int) < 128) = true := decide_eq_true (by omega)
                  have d3n : decide (m2 < 128) = true := decide_eq_true (by omega)
                  rw [if_pos (by omega)] at hK
                  subst hK
                  go_quiet (fail)
                  go_wp2
                  go_ret
                  exact ⟨rfl, pw_below_drewN HA.out.2.1 _⟩
                · have d3z : decide ((m2 : Int) < 128) = false := decide_eq_false (by omega)
                  have d3n : decide (m2 < 128) = false := decide_eq_false (by omega)
                  by_cases k4 : 191 < m2
                  · have d4z : decide (191 < (m2 : Int)) = true := decide_eq_true (by omega)
                    have d4n : decide (191 < m2) = true := decide_eq_true (by omega)
                    rw [if_pos (by omega)] at hK
                    subst hK
                    go_quiet (fail)
                    go_wp2
                    go_ret
                    exact ⟨rfl, pw_below_drewN HA.out.2.1 _⟩
                  · have d4z : decide (191 < (m2 : Int)) = false := decide_eq_false (by omega)
                    have d4n : decide (191 < m2) = false := decide_eq_false (by omega)
                    rw [if_neg (by omega)] at hK
                    obtain ⟨A9, hs9, hd9⟩ := Rem.drop HA.out.1 3 (by omega) 3 rfl
                    obtain ⟨n9, hn9⟩ : ∃ y, n - 3 = y := ⟨_, rfl⟩
                    obtain ⟨c9, hc9⟩ : ∃ y, c - 3 = y := ⟨_, rfl⟩
                    obtain ⟨t9, ht9⟩ : ∃ y, t.extract 3 t.size = y := ⟨_, rfl⟩
                    rw [hn9, hc9] at hs9 hd9
                    rw [ht9] at hd9
                    rw [← hsz, ht9] at hK
                    have HV9 := Aside0.mk hK
                    have HR9 := Aside0.mk (hd9 _ HA.out.1)
                    clear hd9 ht9
                    go_quiet (fail)
                    go_wp2
                    go_roundw
                    case rel => exact ⟨A9, n9, c9, t9, rfl, ⟨HR9.out.drawn ⟨⟨_, rfl⟩⟩⟩, HV9, by omega, ⟨pw_below_drewN HA.out.2.1 _⟩⟩
                    case measure => simp only [lenOf]; omega
        · as_aux_lemma =>
          have hSZz : (X : Int) % 8 = 4 := by omega
          have hK : (if n < 4 ∨ m1 < LO ∨ HI < m1 ∨ m2 < 128 ∨ 191 < m2 ∨ m3 < 128 ∨ 191 < m3 then false else V (t.extract 4 n)) = r := by
            rw [hlead]
            show _ = (match (if n < 4 ∨ m1 < LO ∨ HI < m1 ∨ m2 < 128 ∨ 191 < m2 ∨ m3 < 128 ∨ 191 < m3 then none else some 4 : Option Nat) with | none => false | some k => V (t.extract k n))
            by_cases h : n < 4 ∨ m1 < LO ∨ HI < m1 ∨ m2 < 128 ∨ 191 < m2 ∨ m3 < 128 ∨ 191 < m3
            · rw [if_pos h, if_pos h]
            · rw [if_neg h, if_neg h]
          clear hlead hSZ
          go_wp2
          obtain ⟨b, hb⟩ : ∃ b, b = wr.heap.size := ⟨_, rfl⟩
          rw [← hb] at HA ⊢
          generalize (wr.alloc (.cells #[.int .u8 (LO : Int), .int .u8 (HI : Int)] 51)) = wx at HA ⊢
          clear hb ha0 ha1 hc0 x0 HBB
          have cl : wx.cell? ⟨b, 0, none⟩ = some (.int .u8 (LO : Int)) := blk_cell HA.out.2.2 0
          have ch : wx.cell? ⟨b, 1, none⟩ = some (.int .u8 (HI : Int)) := blk_cell HA.out.2.2 1
          by_cases k0 : n < 4
          · have d0z : decide ((n : Int) < 4) = true := decide_eq_true (by omega)
            have d0n : decide (n < 4) = true := decide_eq_true (by omega)
            rw [if_pos (by omega)] at hK
            subst hK
            go_quiet (fail)
            go_wp2
            go_ret
            exact ⟨rfl, pw_below_drewN HA.out.2.1 _⟩
          · have d0z : decide ((n : Int) < 4) = false := decide_eq_false (by omega)
            have d0n : decide (n < 4) = false := decide_eq_false (by omega)
            obtain ⟨ad1, ea1, cx1⟩ := HA.out.1.at_ 1 (by omega)
            obtain rfl : ad = ad1 := by injection ea1
            rw [hm1] at cx1
            (try simp only [Nat.reduceMul, Nat.reduceEqDiff, Go.Addr.add, ↓reduceIte] at cx1)
            have pp1 : (0 ≤ (1 : Int)) = True := eq_true (by omega)
            have pq1 : ((1 : Int) < (n : Int)) = True := eq_true (by omega)
            have pr1 : (1 < n) = True := eq_true (by omega)
            by_cases k1 : m1 < LO
            · have d1z : decide ((m1 : Int) < (LO : Int)) = true := decide_eq_true (by omega)
              have d1n : decide (m1 < LO) = true := decide_eq_true (by omega)
              rw [if_pos (by omega)] at hK
              subst hK
              go_quiet (fail)
              go_wp2
              go_ret
              exact ⟨rfl, pw_below_drewN HA.out.2.1 _⟩
            · have d1z : decide ((m1 : Int) < (LO : Int)) = false := decide_eq_false (by omega)
              have d1n : decide (m1 < LO) = false := decide_eq_false (by omega)
              by_cases k2 : HI < m1
              · have d2z : decide ((HI : Int) < (m1 : Int)) = true := decide_eq_true (by omega)
                have d2n : decide (HI < m1) = true := decide_eq_true (by omega)
                rw [if_pos (by omega)] at hK
                subst hK
                go_quiet (fail)
                go_wp2
                go_ret
                exact ⟨rfl, pw_below_drewN HA.out.2.1 _⟩
              · have d2z : decide ((HI : Int) < (m1 : Int)) = false := decide_eq_false (by omega)
                have d2n : decide (HI < m1) = false := decide_eq_false (by omega)
                obtain ⟨ad2, ea2, cx2⟩ := HA.out.1.at_ 2 (by omega)
                obtain rfl : ad = ad2 := by injection ea2
                rw [hm2] at cx2
                (try simp only [Nat.reduceMul, Nat.reduceEqDiff, Go.Addr.add, ↓reduceIte] at cx2)
                have pp2 : (0 ≤ (2 : Int)) = True := eq_true (by omega)
                have pq2 : ((2 : Int) < (n : Int)) = True := eq_true (by omega)
                have pr2 : (2 < n) = True := eq_true (by omega)
                by_cases k3 : m2 < 128
                · have d3z : decide ((m2 : Int) < 128) = true := decide_eq_true (by omega)
                  have d3n : decide (m2 < 128) = true := decide_eq_true (by omega)
                  rw [if_pos (by omega)] at hK
                  subst hK
                  go_quiet (fail)
                  go_wp2
                  go_ret
                  exact ⟨rfl, pw_below_drewN HA.out.2.1 _⟩
                · have d3z : decide ((m2 : Int) < 128) = false := decide_eq_false (by omega)
                  have d3n : decide (m2 < 128) = false := decide_eq_false (by omega)
                  by_cases k4 : 191 < m2
                  · have d4z : decide (191 < (m2 : Int)) = true := decide_eq_true (by omega)
                    have d4n : decide (191 < m2) = true := decide_eq_true (by omega)
                    rw [if_pos (by omega)] at hK
                    subst hK
                    go_quiet (fail)
                    go_wp2
                    go_ret
                    exact ⟨rfl, pw_below_drewN HA.out.2.1 _⟩
                  · have d4z : decide (191 < (m2 : Int)) = false := decide_eq_false (by omega)
                    have d4n : decide (191 < m2) = false := decide_eq_false (by omega)
                    obtain ⟨ad3, ea3, cx3⟩ := HA.out.1.at_ 3 (by omega)
                    obtain rfl : ad = ad3 := by injection ea3
                    rw [hm3] at cx3
                    (try simp only [Nat.reduceMul, Nat.reduceEqDiff, Go.Addr.add, ↓reduceIte] at cx3)
                    have pp3 : (0 ≤ (3 : Int)) = True := eq_true (by omega)
                    have pq3 : ((3 : Int) < (n : Int)) = True := eq_true (by omega)
                    have pr3 : (3 < n) = True := eq_true (by omega)
                    by_cases k5 : m3 < 128
                    · have d5z : decide ((m3 : Int) < 128) = true := decide_eq_true (by omega)
                      have d5n : decide (m3 < 128) = true := decide_eq_true (by omega)
                      rw [if_pos (by omega)] at hK
                      subst hK
                      go_quiet (fail)
                      go_wp2
                      go_ret
                      exact ⟨rfl, pw_below_drewN HA.out.2.1 _⟩
                    · have d5z : decide ((m3 : Int) < 128) = false := decide_eq_false (by omega)
                      have d5n : decide (m3 < 128) = false := decide_eq_false (by omega)
                      by_cases k6 : 191 < m3
                      · have d6z : decide (191 < (m3 : Int)) = true := decide_eq_true (by omega)
                        have d6n : decide (191 < m3) = true := decide_eq_true (by omega)
                        rw [if_pos (by omega)] at hK
                        subst hK
                        go_quiet (fail)
                        go_wp2
                        go_ret
                        exact ⟨rfl, pw_below_drewN HA.out.2.1 _⟩
                      · have d6z : decide (191 < (m3 : Int)) = false := decide_eq_false (by omega)
                        have d6n : decide (191 < m3) = false := decide_eq_false (by omega)
                        rw [if_neg (by omega)] at hK
                        obtain ⟨A9, hs9, hd9⟩ := Rem.drop HA.out.1 4 (by omega) 4 rfl
                        obtain ⟨n9, hn9⟩ : ∃ y, n - 4 = y := ⟨_, rfl⟩
                        obtain ⟨c9, hc9⟩ : ∃ y, c - 4 = y := ⟨_, rfl⟩
                        obtain ⟨t9, ht9⟩ : ∃ y, t.extract 4 t.size = y := ⟨_, rfl⟩
                        rw [hn9, hc9] at hs9 hd9
                        rw [ht9] at hd9
                        rw [← hsz, ht9] at hK
                        have HV9 := Aside0.mk hK
                        have HR9 := Aside0.mk (hd9 _ HA.out.1)
                        clear hd9 ht9
                        go_quiet (fail)
                        go_wp2
                        go_roundw
                        case rel => exact ⟨A9, n9, c9, t9, rfl, ⟨HR9.out.drawn ⟨⟨_, rfl⟩⟩⟩, HV9, by omega, ⟨pw_below_drewN HA.out.2.1 _⟩⟩
                        case measure => simp only [lenOf]; omega
end Go.Proofs.YtekkkohncfmmfaaDoor.PA
