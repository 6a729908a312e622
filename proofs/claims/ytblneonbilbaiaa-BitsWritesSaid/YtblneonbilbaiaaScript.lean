/- BitsReads: a script of a Reader, played beside the document one. No conditions. -/
import Derived.Test.YtblneonbilbaiaaReads
import Derived.Test.YtblneonbilbaiaaOpen
namespace Go.Proofs.Ytblneonbilbaiaa.PA
open Go.Proofs.Ytblneonbilbaiaa.Mat Go.Proofs.YtblneonbilbaiaaAid Go.RowKit Go.Proofs.YtblneonbilbaiaaW.PrintWords Go.Proofs.YtblneonbilbaiaaW.PrintLast Go.Proofs.YtblneonbilbaiaaW.PrintMore
set_option linter.unusedVariables false
set_option linter.unusedSimpArgs false
/-- The Reader and the document's one, side by side. -/
structure Two (w0 w4 W : World) (b3 g x : Nat) (A : Option Addr) (c : Nat) (l : List Int) (u : Value) (p q : Nat) : Prop where
  rs : Rst b3 W g l p u
  xs : Xst w0 W x A c l q
  kp : Kept w4 W (fun k => k = g ∨ k = x)
  bl : Below w0.heap.size w0 W
section
variable {w0 w4 W W1 : World} {b3 g x : Nat} {A : Option Addr} {c : Nat} {l : List Int} {u : Value} {p q : Nat}
theorem Two.below (h : Two w0 w4 W b3 g x A c l u p q) (hb : Below W.heap.size W W1) : Two w0 w4 W1 b3 g x A c l u p q :=
  ⟨h.rs.below hb, h.xs.below hb, h.kp.below hb, h.bl.trans (hb.mono h.bl.size)⟩
theorem Rst.apart {b : Nat} {P : Int} {S : Nat → Prop} (h : Rst b W g l P u) (hk : Kept W W1 S) (hg : ¬ S g) (hu : ∀ j, u.ownBlock = some j → ¬ S j) : Rst b W1 g l P u :=
  ⟨blk_kept h.blk hk hg, Kd.R_mono (Kd.R_kept (R_tight h.row) hk hu) h.row.1, h.base⟩
theorem Two.onR {p2 : Nat} (h : Two w0 w4 W b3 g x A c l u p q) (h1 : Rst b3 W1 g l p2 u) (ho : Rto b3 W g W1) (hne : x ≠ g) (h3 : w0.heap.size ≤ b3) : Two w0 w4 W1 b3 g x A c l u p2 q :=
  ⟨h1, ⟨blk_kept h.xs.blk ho.kept hne, h.xs.base⟩, h.kp.then_ ho.kept (fun k hk => .inl (.inl hk)), h.bl.trans (ho.below.mono h3)⟩
theorem Two.onX {q2 : Nat} (h : Two w0 w4 W b3 g x A c l u p q) (h1 : Xst w0 W1 x A c l q2) (ho : Rto w0.heap.size W x W1) (hne : x ≠ g) (hu : ∀ j, u.ownBlock = some j → j ≠ x) : Two w0 w4 W1 b3 g x A c l u p q2 :=
  ⟨h.rs.apart ho.kept (fun e => hne e.symm) hu, h1, h.kp.then_ ho.kept (fun k hk => .inl (.inr hk)), h.bl.trans ho.below⟩
theorem Two.far {S : Nat → Prop} (h : Two w0 w4 W b3 g x A c l u p q) (hk : Kept W W1 S) (hS : ∀ k, S k → w4.heap.size ≤ k) (hg : g < w4.heap.size) (hx : x < w4.heap.size) (hu : ∀ j, u.ownBlock = some j → j < w4.heap.size) (hb : Below w0.heap.size w0 W1) : Two w0 w4 W1 b3 g x A c l u p q :=
  ⟨h.rs.apart hk (fun e => by have := hS g e; omega) (fun j hj e => by have := hS j e; have := hu j hj; omega), ⟨blk_kept h.xs.blk hk (fun e => by have := hS x e; omega), h.xs.base⟩, h.kp.then_ hk (fun k hs => .inr (hS k hs)), hb⟩
end
theorem same_true (l : List Int) (hl : l.length ≤ 1099511627776) : ∃ k, rubricatorlaw1_same.f k l l = some true := by
  have h := (Go.Proofs.Ytblneonbilbaiaa.Same.same_ev l l hl).rounds
  rw [decide_eq_true rfl] at h
  exact h
theorem R_off {k : IntKind} {e base : Nat} {w w1 : World} {ok S : Nat → Prop} {v : Value} {xs : List Int} (h : Kd.R (Kd.int k) e w base ok v xs) (hk : Kept w w1 S) (hu : ∀ j, v.ownBlock = some j → ¬ S j) : Kd.R (Kd.int k) e w1 base ok v xs :=
  Kd.R_mono (Kd.R_kept (R_tight h) hk hu) h.1
theorem stands_at (k : Nat) (A0 : Option Addr) (c0 : Nat) (l0 : List Int) (A1 : Option Addr) (c1 : Nat) (l1 : List Int) (w : World) (m : Nat) (hm : l0.length = m) (hr0 : Kd.C (Kd.int .u8) w A0 l0.length l0) (hc0 : l0.length ≤ c0) (hr1 : Kd.C (Kd.int .u8) w A1 l1.length l1) (hc1 : l1.length ≤ c1) (h : rubricatorlaw1_stands.f k l0 l1 = some true) :
    Calls Try.prog 24 #[.slice A0 m c0, .slice A1 l1.length c1] w fun e w' => e = .returned (.bool true) ∧ Drawn0 w w' := by
  subst hm
  exact rubricatorlaw1_stands.calls k A0 c0 l0 A1 c1 l1 true w hr0 hc0 hr1 hc1 h
theorem stands_true (l : List Int) (hl : l.length ≤ 2000) : ∃ k, rubricatorlaw1_stands.f k (l ++ [171]) l = some true := by
  have h := (Go.Proofs.Ytblneonbilbaiaa.Same.stands_ev (l ++ [171]) l (by simp; omega) (by omega)).rounds
  rw [decide_eq_true rfl] at h
  exact h
theorem roomy_take {l : List Int} {w : World} {b0 : Nat} {Ap : Option Addr} {cp : Nat} (h : Kd.R (Kd.int .u8) 5 w b0 (fun _ => True) (.slice Ap (l ++ [171]).length cp) (l ++ [171])) : l.length ≤ cp ∧ Kd.C (Kd.int .u8) w Ap l.length l := by
  obtain ⟨_, h2, h3⟩ := Kd.R_reads' h
  obtain ⟨i09, hi09, _, hsz9, _⟩ := info_parts info5
  obtain ⟨_, hA, _⟩ := print_take_of (P := Try.prog) (Value.int .u8) 0 29 5 .i64 Try.underlying29 hi09 hsz9 Ap cp (l ++ [171]) (l.length : Int) (by omega) (by simp; omega) h2
  have e : (l ++ [171]).take (l.length : Int).toNat = l := by simp
  have h4 := hA w (Kd.reads_of_C h3)
  rw [e] at h4
  exact ⟨by simp at h2; omega, Kd.C_of_reads (h1 := fun _ => rfl) h4⟩
set_option maxHeartbeats 4000000 in
set_option maxRecDepth 100000 in
theorem reads_walk (A : Option Addr) (c : Nat) (l : List Int) (A1 : Option Addr) (ca : Nat) (acts : List S38) (w : World) (hC : Kd.C (Kd.int .u8) w A l.length l) (hc : l.length ≤ c) (hl : l.length ≤ 2000) (hC1 : Kd.C k38 w A1 acts.length acts) :
    Calls Try.prog 7 #[.slice A l.length c, .slice A1 acts.length ca] w fun e w' => e = .returned (.bool true) ∧ Below w.heap.size w w' := by
  have HC := Aside0.mk hC
  have HC1 := Aside0.mk hC1
  have HL := Aside0.mk (show l.length ≤ c ∧ l.length ≤ 2000 ∧ l.length < 140737488355328 from ⟨hc, hl, by omega⟩)
  have HRO := Aside0.mk (Go.Proofs.Ytblneonbilbaiaa.Same.roomy_eq l (by omega))
  have d1 : decide (2000 < (l.length : Int)) = false := decide_eq_false (by omega)
  clear hC hC1 hc hl
  go_enter Try.func7, Try.ntmps7
  go_wp2_with (first | ((with_reducible refine gate_callee (f := 21) rfl ?_); refine goesL_ (some 23) rfl rfl Try.func21 (by kernel_rfl) rfl #[.slice A l.length c] rfl (by (try simp only [List.map_toArray, List.map_cons, List.map_nil]); first | done | rfl) ?_; refine (rubricatorlaw1_roomy.calls A c l (l ++ [171]) w HC.out HL.out.1 HRO.out).mono ?_; rintro e w1 ⟨v1, rfl, h1, h2⟩; refine ⟨_, rfl, ?_⟩; obtain ⟨Ap, cp, ep⟩ := Kd.R_slice h1; subst ep; obtain ⟨hcp, HCp0⟩ := roomy_take h1; have HCp := Aside0.mk HCp0; have HP1 := Aside0.mk h1; have HB1 := Aside0.mk h2; have HCP := Aside0.mk hcp; have k1 : ((l.length : Int) ≤ (cp : Int)) = True := eq_true (by omega); have k2 : (l.length ≤ cp) = True := eq_true hcp; clear h1 h2 HCp0 hcp) | ((with_reducible refine gate_callee (f := 27) rfl ?_); refine goesL_ (some 28) rfl rfl Try.func27 (by kernel_rfl) rfl #[.slice Ap l.length cp] rfl (by (try simp only [List.map_toArray, List.map_cons, List.map_nil]); first | done | rfl) ?_; refine (bits_Of.calls Ap cp l w1 HCp.out HCP.out HL.out.2.2).mono ?_; rintro e w2 ⟨g, uQ, rfl, h1, h2, h3⟩; refine ⟨_, rfl, ?_⟩; have HR2 := Aside0.mk h1; have HB2 := Aside0.mk (HB1.out.trans (h2.mono HB1.out.size)); have HS2 := Aside0.mk h2; have HG2 := Aside0.mk h3; clear h1 h2 h3))
  obtain ⟨x, hx⟩ : ∃ x, x = w2.heap.size := ⟨_, rfl⟩
  have hgx : x ≠ g := by have := HG2.out; omega
  have hux : ∀ j, uQ.ownBlock = some j → j ≠ x := fun j hj => by have := Kd.R_lt HR2.out.row j hj; omega
  have hlen := HL.out
  have ha : Below w2.heap.size w2 (w2.alloc (.cells #[.slice A l.length c, .int .i64 0] 53)) := below_alloc (Below.refl _ _) _
  have H4 := Aside0.mk (show Two w (w2.alloc (.cells #[.slice A l.length c, .int .i64 0] 53)) (w2.alloc (.cells #[.slice A l.length c, .int .i64 0] 53)) w1.heap.size g x A c l uQ 0 0 from ⟨HR2.out.below ha, ⟨hx ▸ blk_new w2 _, by have := HB2.out.size; omega⟩, Kept.refl _ _, HB2.out.trans (ha.mono HB2.out.size)⟩)
  have HQ := Aside0.mk (show x ≠ g ∧ (∀ j, uQ.ownBlock = some j → j ≠ x) ∧ w.heap.size ≤ w1.heap.size ∧ w1.heap.size ≤ (w2.alloc (.cells #[.slice A l.length c, .int .i64 0] 53)).heap.size ∧ g < (w2.alloc (.cells #[.slice A l.length c, .int .i64 0] 53)).heap.size ∧ x < (w2.alloc (.cells #[.slice A l.length c, .int .i64 0] 53)).heap.size ∧ (∀ j, uQ.ownBlock = some j → j < (w2.alloc (.cells #[.slice A l.length c, .int .i64 0] 53)).heap.size) from
    ⟨hgx, hux, HB1.out.size, Nat.le_trans HS2.out.size ha.size, Nat.lt_of_lt_of_le HG2.out ha.size, by rw [hx]; simp, fun j hj => Nat.lt_of_lt_of_le (Kd.R_lt HR2.out.row j hj) ha.size⟩)
  have HPr := Aside0.mk (show Kd.R (Kd.int .u8) 5 (w2.alloc (.cells #[.slice A l.length c, .int .i64 0] 53)) w.heap.size (fun k => k ≠ g ∧ k ≠ x) (.slice Ap (l ++ [171]).length cp) (l ++ [171]) from by
    refine ⟨fun j hj => ?_, (Kd.R_below HP1.out (HS2.out.trans (ha.mono HS2.out.size))).2.imp_ (fun _ _ hp => hp)⟩
    have h1 := Kd.R_lt HP1.out j hj
    have h2 := HR2.out.base
    have h3 := HS2.out.size
    omega)
  rw [← hx]
  clear ha hgx hux hlen HR2 HB2 HS2 HG2 HP1 HB1 HCp HCP k1 k2 hx
  generalize w2.alloc (.cells #[.slice A l.length c, .int .i64 0] 53) = w4 at H4 HQ HPr ⊢
  go_loopw [8] (fun v8 wr => ∃ (i p : Nat) (ii : Int), v8 = .int .i64 ii ∧ ii = (i : Int) ∧ i ≤ acts.length ∧ i ≤ 200 ∧ Aside0 (p ≤ 8 * l.length) ∧ Aside0 (Two w w4 wr w1.heap.size g x A c l uQ p p)) (fun v8 _ => 200 - (intOf v8).toNat)
  case atStart =>
    exact ⟨0, 0, 0, rfl, rfl, Nat.zero_le _, by omega, ⟨Nat.zero_le _⟩, H4⟩
  case round =>
    clear H4
    obtain ⟨i, p, ii, rfl, hii, hi1, hi2, HPp, HT⟩ := hrel
    by_cases hll : ii < (acts.length : Int) ∧ ii < 200
    · obtain ⟨hl1, hl2⟩ := hll
      have dl1 : decide (ii < (acts.length : Int)) = true := decide_eq_true hl1
      have dl2 : decide (ii < 200) = true := decide_eq_true hl2
      have p0 : 0 ≤ ii := by omega
      have dl0 : decide (0 ≤ ii) = true := decide_eq_true p0
      obtain ⟨ad, A3, c3, A4, c4, ea, hx0, hx1, hx2, hx3, hx4, _, _, _, _⟩ := at_T38 (Kd.C_below HC1.out HT.out.bl) ii p0 hl1
      cases ea
      obtain ⟨kd, hkd⟩ : ∃ k, (rd_T38 acts ii).f0 = k := ⟨_, rfl⟩
      obtain ⟨vv, hvv⟩ : ∃ k, (rd_T38 acts ii).f1 = k := ⟨_, rfl⟩
      obtain ⟨nn, hnn⟩ : ∃ k, (rd_T38 acts ii).f2 = k := ⟨_, rfl⟩
      obtain ⟨n3, hn3⟩ : ∃ k, (rd_T38 acts ii).f3.length = k := ⟨_, rfl⟩
      obtain ⟨n4, hn4⟩ : ∃ k, (rd_T38 acts ii).f4.length = k := ⟨_, rfl⟩
      rw [hkd] at hx0
      rw [hvv] at hx1
      rw [hnn] at hx2
      rw [hn3] at hx3
      rw [hn4] at hx4
      have t5 : wrap64 (ii + 1) = ii + 1 := by unfold wrap64; omega
      have HI := Aside0.mk (show ii = (i : Int) ∧ i < acts.length ∧ i < 200 by omega)
      have q0 := eq_true hl1
      have HWX := Aside0.mk (show Two w w4 (wr.alloc (.cells #[.int .i64 kd, .int .i64 vv, .int .i64 nn, .slice A3 n3 c3, .slice A4 n4 c4] 38)) w1.heap.size g x A c l uQ p p ∧ (wr.alloc (.cells #[.int .i64 kd, .int .i64 vv, .int .i64 nn, .slice A3 n3 c3, .slice A4 n4 c4] 38)).heap[wr.heap.size]? = some (.cells #[.int .i64 kd, .int .i64 vv, .int .i64 nn, .slice A3 n3 c3, .slice A4 n4 c4] 38 (0, 0)) ∧ wr.heap.size ≠ g ∧ wr.heap.size ≠ x ∧ w1.heap.size ≤ (wr.alloc (.cells #[.int .i64 kd, .int .i64 vv, .int .i64 nn, .slice A3 n3 c3, .slice A4 n4 c4] 38)).heap.size from
        ⟨HT.out.below (below_alloc (Below.refl _ _) _), blk_new wr _, (by have := blk_lt HT.out.rs.blk; omega), (by have := blk_lt HT.out.xs.blk; omega), by have h1 := HQ.out.2.2.2.1; have h2 := HT.out.kp.1; simp; omega⟩)
      clear hkd hvv hnn hn3 hn4 hl1 hl2 hii hi1 hi2
      replace p0 := eq_true p0
      by_cases k1 : kd = 1
      · have dk : (kd == 1) = true := beq_iff_eq.mpr k1
        clear k1
        obtain ⟨⟨r1, r2, p2⟩, hgp⟩ : ∃ y, getP l p nn = y := ⟨_, rfl⟩
        have HGP := Aside0.mk hgp
        have HP2 := Aside0.mk (getP_le HPp.out hgp)
        obtain ⟨ll, hll⟩ : ∃ y : Int, (l.length : Int) * 8 - p2 = y := ⟨_, rfl⟩
        have HLL := Aside0.mk hll
        have dll : (ll != ll) = false := by simp
        clear hgp hll
        go_wp2_with (first | ((with_reducible refine gate_callee (f := 28) rfl ?_); refine goesL_ (some 56) rfl rfl Try.func28 (by kernel_rfl) rfl #[.pointer (some ⟨g, 0, none⟩), .int .i64 nn] rfl (by (try simp only [List.map_toArray, List.map_cons, List.map_nil]); first | done | rfl) ?_; refine (bits_Reader_Get.all g l p nn uQ _ w1.heap.size HWX.out.2.2.2.2 HWX.out.1.rs HPp.out (by have := HL.out.2.1; omega) r1 r2 p2 HGP.out).mono ?_; rintro e w5 ⟨rfl, h1, h2⟩; refine ⟨_, rfl, ?_⟩; have HT5 := Aside0.mk (HWX.out.1.onR h1 h2 HQ.out.1 HQ.out.2.2.1); have s2 : w5.cell? ⟨wr.heap.size, 2, none⟩ = some (.int .i64 nn) := blk_cell (blk_kept HWX.out.2.1 h2.kept HWX.out.2.2.1) 2; clear h1 h2) | ((with_reducible refine gate_callee (f := 30) rfl ?_); refine goesL_ (some 63) rfl rfl Try.func30 (by kernel_rfl) rfl #[.pointer (some ⟨x, 0, none⟩), .int .i64 nn] rfl (by (try simp only [List.map_toArray, List.map_cons, List.map_nil]); first | done | rfl) ?_; refine (refGet x A c l p w _ HT5.out.xs HC.out HT5.out.bl (by have := HL.out.2.1; omega) HPp.out nn r1 r2 p2 HGP.out).mono ?_; rintro e w6 ⟨rfl, h1, h2⟩; refine ⟨_, rfl, ?_⟩; have HT6 := Aside0.mk (HT5.out.onX h1 h2 HQ.out.1 HQ.out.2.1); clear h1 h2) | ((with_reducible refine gate_callee (f := 29) rfl ?_); refine gate_guard (by rfl) ?_; dsimp only; refine goesL_ (some 111) rfl rfl Try.func29 (by kernel_rfl) rfl #[.pointer (some ⟨g, 0, none⟩)] rfl (by (try simp only [List.map_toArray, List.map_cons, List.map_nil]); first | done | rfl) ?_; refine (bits_Reader_Left.at_ g l p2 ll uQ _ w1.heap.size (Nat.le_trans HQ.out.2.2.2.1 HT6.out.kp.1) HT6.out.rs (by omega) (by have := HP2.out; have := HL.out.2.1; omega) (by have := HL.out.2.1; omega) HLL.out).mono ?_; rintro e wl ⟨rfl, hd⟩; refine ⟨_, rfl, ?_⟩; have HTl := Aside0.mk (HT6.out.below hd.below); clear hd) | ((with_reducible refine gate_callee (f := 35) rfl ?_); refine gate_guard (by rfl) ?_; dsimp only; refine goesL_ (some 113) rfl rfl Try.func35 (by kernel_rfl) rfl #[.pointer (some ⟨x, 0, none⟩)] rfl (by (try simp only [List.map_toArray, List.map_cons, List.map_nil]); first | done | rfl) ?_; refine (refLeft x A c l p2 w _ HTl.out.xs (by have := HL.out.2.1; omega) HP2.out ll HLL.out).mono ?_; rintro e wm ⟨rfl, hd⟩; refine ⟨_, rfl, ?_⟩; have HTm := Aside0.mk (HTl.out.below hd.below); clear hd))
        go_roundw
        case rel =>
          have := HI.out
          exact ⟨i + 1, p2, _, rfl, by rw [t5]; omega, by omega, by omega, HP2, HTm⟩
        case measure =>
          have := HI.out
          simp only [intOf, t5]
          omega
      by_cases k2 : kd = 2
      · have dk : (kd == 1) = false := beq_eq_false_iff_ne.mpr k1
        have dk2 : (kd == 2) = true := beq_iff_eq.mpr k2
        clear k1 k2
        obtain ⟨r1, hr1⟩ : ∃ y : Int, (((p + 7) / 8 : Nat) : Int) = y := ⟨_, rfl⟩
        obtain ⟨p2, hp2⟩ : ∃ y, (p + 7) / 8 * 8 = y := ⟨_, rfl⟩
        have HAL := Aside0.mk (And.intro hr1 hp2)
        have HP2 := Aside0.mk (show p2 ≤ 8 * l.length by have := HPp.out; omega)
        obtain ⟨ll, hll⟩ : ∃ y : Int, (l.length : Int) * 8 - p2 = y := ⟨_, rfl⟩
        have HLL := Aside0.mk hll
        have dll : (ll != ll) = false := by simp
        clear hr1 hp2 hll
        go_wp2_with (first | ((with_reducible refine gate_callee (f := 31) rfl ?_); refine goesL_ (some 77) rfl rfl Try.func31 (by kernel_rfl) rfl #[.pointer (some ⟨g, 0, none⟩)] rfl (by (try simp only [List.map_toArray, List.map_cons, List.map_nil]); first | done | rfl) ?_; refine (bits_Reader_Align.at_ g l p p2 r1 uQ _ w1.heap.size HWX.out.2.2.2.2 HWX.out.1.rs (by have := HPp.out; have := HL.out.2.1; omega) HAL.out.1 HAL.out.2).mono ?_; rintro e w5 ⟨rfl, h1, h2⟩; refine ⟨_, rfl, ?_⟩; have HT5 := Aside0.mk (HWX.out.1.onR h1 h2 HQ.out.1 HQ.out.2.2.1); clear h1 h2) | ((with_reducible refine gate_callee (f := 32) rfl ?_); refine goesL_ (some 79) rfl rfl Try.func32 (by kernel_rfl) rfl #[.pointer (some ⟨x, 0, none⟩)] rfl (by (try simp only [List.map_toArray, List.map_cons, List.map_nil]); first | done | rfl) ?_; refine (refAlign x A c l p w _ HT5.out.xs (by have := HL.out.2.1; omega) HPp.out r1 p2 HAL.out.1 HAL.out.2).mono ?_; rintro e w6 ⟨rfl, h1, h2⟩; refine ⟨_, rfl, ?_⟩; have HT6 := Aside0.mk (HT5.out.onX h1 h2 HQ.out.1 HQ.out.2.1); clear h1 h2) | ((with_reducible refine gate_callee (f := 29) rfl ?_); refine gate_guard (by rfl) ?_; dsimp only; refine goesL_ (some 111) rfl rfl Try.func29 (by kernel_rfl) rfl #[.pointer (some ⟨g, 0, none⟩)] rfl (by (try simp only [List.map_toArray, List.map_cons, List.map_nil]); first | done | rfl) ?_; refine (bits_Reader_Left.at_ g l p2 ll uQ _ w1.heap.size (Nat.le_trans HQ.out.2.2.2.1 HT6.out.kp.1) HT6.out.rs (by omega) (by have := HP2.out; have := HL.out.2.1; omega) (by have := HL.out.2.1; omega) HLL.out).mono ?_; rintro e wl ⟨rfl, hd⟩; refine ⟨_, rfl, ?_⟩; have HTl := Aside0.mk (HT6.out.below hd.below); clear hd) | ((with_reducible refine gate_callee (f := 35) rfl ?_); refine gate_guard (by rfl) ?_; dsimp only; refine goesL_ (some 113) rfl rfl Try.func35 (by kernel_rfl) rfl #[.pointer (some ⟨x, 0, none⟩)] rfl (by (try simp only [List.map_toArray, List.map_cons, List.map_nil]); first | done | rfl) ?_; refine (refLeft x A c l p2 w _ HTl.out.xs (by have := HL.out.2.1; omega) HP2.out ll HLL.out).mono ?_; rintro e wm ⟨rfl, hd⟩; refine ⟨_, rfl, ?_⟩; have HTm := Aside0.mk (HTl.out.below hd.below); clear hd))
        go_roundw
        case rel =>
          have := HI.out
          exact ⟨i + 1, p2, _, rfl, by rw [t5]; omega, by omega, by omega, HP2, HTm⟩
        case measure =>
          have := HI.out
          simp only [intOf, t5]
          omega
      by_cases k3 : kd = 3
      · have dk : (kd == 1) = false := beq_eq_false_iff_ne.mpr k1
        have dk2 : (kd == 2) = false := beq_eq_false_iff_ne.mpr k2
        have dk3 : (kd == 3) = true := beq_iff_eq.mpr k3
        clear k1 k2 k3
        obtain ⟨⟨r1, r2, p2⟩, hgp⟩ : ∃ y, rawP l p nn = y := ⟨_, rfl⟩
        have HGP := Aside0.mk hgp
        have hle := rawP_le HPp.out hgp
        have HP2 := Aside0.mk hle.1
        have HR1 := Aside0.mk hle.2
        obtain ⟨ks, hks⟩ := same_true r1 (by have := HL.out.2.1; omega)
        have HKS := Aside0.mk hks
        obtain ⟨ll, hll⟩ : ∃ y : Int, (l.length : Int) * 8 - p2 = y := ⟨_, rfl⟩
        have HLL := Aside0.mk hll
        have dll : (ll != ll) = false := by simp
        clear hgp hll hle hks
        go_wp2_with (first | ((with_reducible refine gate_callee (f := 33) rfl ?_); refine goesL_ (some 87) rfl rfl Try.func33 (by kernel_rfl) rfl #[.pointer (some ⟨g, 0, none⟩), .int .i64 nn] rfl (by (try simp only [List.map_toArray, List.map_cons, List.map_nil]); first | done | rfl) ?_; refine (bits_Reader_Raw.all g l p nn uQ _ w1.heap.size HWX.out.2.2.2.2 HWX.out.1.rs HPp.out (by have := HL.out.2.1; omega) r1 r2 p2 HGP.out).mono ?_; rintro e w5 ⟨v5, rfl, h0, h1, h2⟩; refine ⟨_, rfl, ?_⟩; obtain ⟨A5, c5, e5⟩ := Kd.R_slice h0; subst e5; have HV5 := Aside0.mk h0; have HT5 := Aside0.mk (HWX.out.1.onR h1 h2 HQ.out.1 HQ.out.2.2.1); have s2 : w5.cell? ⟨wr.heap.size, 2, none⟩ = some (.int .i64 nn) := blk_cell (blk_kept HWX.out.2.1 h2.kept HWX.out.2.2.1) 2; have HSZ5 := Aside0.mk h2.kept.1; clear h0 h1 h2) | ((with_reducible refine gate_callee (f := 34) rfl ?_); refine goesL_ (some 94) rfl rfl Try.func34 (by kernel_rfl) rfl #[.pointer (some ⟨x, 0, none⟩), .int .i64 nn] rfl (by (try simp only [List.map_toArray, List.map_cons, List.map_nil]); first | done | rfl) ?_; refine (refRaw x A c l p w _ HT5.out.xs HC.out HL.out.1 HT5.out.bl (by have := HL.out.2.1; omega) HPp.out nn r1 r2 p2 HGP.out).mono ?_; rintro e w6 ⟨v6, rfl, h0, h1, h2⟩; refine ⟨_, rfl, ?_⟩; obtain ⟨A6, c6, e6⟩ := Kd.R_slice h0; subst e6; have HV6 := Aside0.mk h0; have HV56 := Aside0.mk (R_off HV5.out h2.kept (fun j hj e => by have h3 := ((Kd.R_bound HV5.out).1 j hj).2.1; have h4 := blk_lt HWX.out.1.xs.blk; omega)); have HT6 := Aside0.mk (HT5.out.onX h1 h2 HQ.out.1 HQ.out.2.1); have HSZ6 := Aside0.mk (Nat.le_trans HSZ5.out h2.kept.1); clear h0 h1 h2) | ((with_reducible refine gate_callee (f := 13) rfl ?_); refine goesL_ (some 99) rfl rfl Try.func13 (by kernel_rfl) rfl #[.slice A5 r1.length c5, .slice A6 r1.length c6] rfl (by (try simp only [List.map_toArray, List.map_cons, List.map_nil]); first | done | rfl) ?_; refine (rubricatorlaw1_same.calls ks A5 c5 r1 A6 c6 r1 true _ (Kd.R_reads' HV56.out).2.2 (Kd.R_reads' HV56.out).2.1 (Kd.R_reads' HV6.out).2.2 (Kd.R_reads' HV6.out).2.1 HKS.out).mono ?_; rintro e w7 ⟨rfl, hd⟩; refine ⟨_, rfl, ?_⟩; have HT7 := Aside0.mk (HT6.out.below hd.below); have HV57 := Aside0.mk (Kd.R_below HV56.out hd.below); have HSZ := Aside0.mk (show (wr.alloc (.cells #[.int .i64 kd, .int .i64 vv, .int .i64 nn, .slice A3 n3 c3, .slice A4 n4 c4] 38)).heap.size ≤ w7.heap.size from Nat.le_trans HSZ6.out hd.below.size); clear hd) | ((with_reducible refine gate_callee (f := 25) rfl ?_); refine goesL_ (some 106) rfl rfl Try.func25 (by kernel_rfl) rfl #[.slice A5 r1.length c5] rfl (by (try simp only [List.map_toArray, List.map_cons, List.map_nil]); first | done | rfl) ?_; refine (rubricatorlaw1_spoil.calls A5 c5 r1 _ (wr.alloc (.cells #[.int .i64 kd, .int .i64 vv, .int .i64 nn, .slice A3 n3 c3, .slice A4 n4 c4] 38)).heap.size HSZ.out HV57.out (by have := HR1.out; have := HL.out.2.1; omega)).mono ?_; rintro e w8 ⟨rfl, h1, h2⟩; refine ⟨_, rfl, ?_⟩; have HT8 := Aside0.mk (HT7.out.far h1 (fun k hk => Nat.le_trans (Nat.le_trans HT.out.kp.1 (by simp)) ((Kd.R_bound HV57.out).1 k hk).2.1) HQ.out.2.2.2.2.1 HQ.out.2.2.2.2.2.1 HQ.out.2.2.2.2.2.2 (HT7.out.bl.trans (h2.mono HWX.out.1.bl.size))); clear h1 h2) | ((with_reducible refine gate_callee (f := 29) rfl ?_); refine gate_guard (by rfl) ?_; dsimp only; refine goesL_ (some 111) rfl rfl Try.func29 (by kernel_rfl) rfl #[.pointer (some ⟨g, 0, none⟩)] rfl (by (try simp only [List.map_toArray, List.map_cons, List.map_nil]); first | done | rfl) ?_; refine (bits_Reader_Left.at_ g l p2 ll uQ _ w1.heap.size (Nat.le_trans HQ.out.2.2.2.1 HT8.out.kp.1) HT8.out.rs (by omega) (by have := HP2.out; have := HL.out.2.1; omega) (by have := HL.out.2.1; omega) HLL.out).mono ?_; rintro e wl ⟨rfl, hd⟩; refine ⟨_, rfl, ?_⟩; have HTl := Aside0.mk (HT8.out.below hd.below); clear hd) | ((with_reducible refine gate_callee (f := 35) rfl ?_); refine gate_guard (by rfl) ?_; dsimp only; refine goesL_ (some 113) rfl rfl Try.func35 (by kernel_rfl) rfl #[.pointer (some ⟨x, 0, none⟩)] rfl (by (try simp only [List.map_toArray, List.map_cons, List.map_nil]); first | done | rfl) ?_; refine (refLeft x A c l p2 w _ HTl.out.xs (by have := HL.out.2.1; omega) HP2.out ll HLL.out).mono ?_; rintro e wm ⟨rfl, hd⟩; refine ⟨_, rfl, ?_⟩; have HTm := Aside0.mk (HTl.out.below hd.below); clear hd))
        go_roundw
        case rel =>
          have := HI.out
          exact ⟨i + 1, p2, _, rfl, by rw [t5]; omega, by omega, by omega, HP2, HTm⟩
        case measure =>
          have := HI.out
          simp only [intOf, t5]
          omega
      · have dk : (kd == 1) = false := beq_eq_false_iff_ne.mpr k1
        have dk2 : (kd == 2) = false := beq_eq_false_iff_ne.mpr k2
        have dk3 : (kd == 3) = false := beq_eq_false_iff_ne.mpr k3
        clear k1 k2 k3
        have HP2 := HPp
        obtain ⟨ll, hll⟩ : ∃ y : Int, (l.length : Int) * 8 - p = y := ⟨_, rfl⟩
        have HLL := Aside0.mk hll
        have dll : (ll != ll) = false := by simp
        have HTX := Aside0.mk HWX.out.1
        clear hll
        go_wp2_with (first | ((with_reducible refine gate_callee (f := 29) rfl ?_); refine gate_guard (by rfl) ?_; dsimp only; refine goesL_ (some 111) rfl rfl Try.func29 (by kernel_rfl) rfl #[.pointer (some ⟨g, 0, none⟩)] rfl (by (try simp only [List.map_toArray, List.map_cons, List.map_nil]); first | done | rfl) ?_; refine (bits_Reader_Left.at_ g l p ll uQ _ w1.heap.size (Nat.le_trans HQ.out.2.2.2.1 HTX.out.kp.1) HTX.out.rs (by omega) (by have := HP2.out; have := HL.out.2.1; omega) (by have := HL.out.2.1; omega) HLL.out).mono ?_; rintro e wl ⟨rfl, hd⟩; refine ⟨_, rfl, ?_⟩; have HTl := Aside0.mk (HTX.out.below hd.below); clear hd) | ((with_reducible refine gate_callee (f := 35) rfl ?_); refine gate_guard (by rfl) ?_; dsimp only; refine goesL_ (some 113) rfl rfl Try.func35 (by kernel_rfl) rfl #[.pointer (some ⟨x, 0, none⟩)] rfl (by (try simp only [List.map_toArray, List.map_cons, List.map_nil]); first | done | rfl) ?_; refine (refLeft x A c l p w _ HTl.out.xs (by have := HL.out.2.1; omega) HP2.out ll HLL.out).mono ?_; rintro e wm ⟨rfl, hd⟩; refine ⟨_, rfl, ?_⟩; have HTm := Aside0.mk (HTl.out.below hd.below); clear hd))
        go_roundw
        case rel =>
          have := HI.out
          exact ⟨i + 1, p, _, rfl, by rw [t5]; omega, by omega, by omega, HP2, HTm⟩
        case measure =>
          have := HI.out
          simp only [intOf, t5]
          omega
    · have hx : decide (ii < (acts.length : Int)) = false ∨ (decide (ii < (acts.length : Int)) = true ∧ decide (ii < 200) = false) := by
        by_cases hl1 : ii < (acts.length : Int)
        · exact .inr ⟨decide_eq_true hl1, decide_eq_false (fun hl2 => hll ⟨hl1, hl2⟩)⟩
        · exact .inl (decide_eq_false hl1)
      obtain ⟨ks, hks⟩ := stands_true l HL.out.2.1
      have HKS := Aside0.mk hks
      have HPR := Aside0.mk (Kd.R_reads' (Kd.R_kept HPr.out HT.out.kp (fun k hk hs => hs.elim hk.1 hk.2)))
      clear hll hii hi1 hi2 hks
      rcases hx with dl1 | ⟨dl1, dl2⟩
      all_goals
        go_wp2_with (first | ((with_reducible refine gate_callee (f := 24) rfl ?_); refine goesL_ (some 118) rfl rfl Try.func24 (by kernel_rfl) rfl #[.slice Ap (l.length + 1) cp, .slice A l.length c] rfl (by (try simp only [List.map_toArray, List.map_cons, List.map_nil]); first | done | rfl) ?_; refine (stands_at ks Ap cp (l ++ [171]) A c l _ (l.length + 1) (by simp) HPR.out.2.2 HPR.out.2.1 (Kd.C_below HC.out HT.out.bl) HL.out.1 HKS.out).mono ?_; rintro e wn ⟨rfl, hd⟩; refine ⟨_, rfl, ?_⟩; have HBn := Aside0.mk (HT.out.bl.trans (hd.below.mono HT.out.bl.size)); clear hd) | ((with_reducible refine gate_callee (f := 10) rfl ?_); refine gate_guard (by rfl) ?_; dsimp only; refine goesL_ (some 120) rfl rfl Try.func10 (by kernel_rfl) rfl #[] rfl (by (try simp only [List.map_toArray, List.map_cons, List.map_nil]); first | done | rfl) ?_; refine (rubricatorlaw1_known.calls _).mono ?_; rintro e wA ⟨rfl, hd⟩; refine ⟨_, rfl, ?_⟩; have HBA := Aside0.mk (HBn.out.trans (hd.mono HBn.out.size)); clear hd) | (go_at_call 10; refine (rubricatorlaw1_known.calls _).mono ?_; rintro e wA ⟨rfl, hd⟩; have HBA := Aside0.mk (HBn.out.trans (hd.mono HBn.out.size)); clear hd))
        go_ret
        exact ⟨rfl, HBA.out⟩
def rubricatorlaw1_BitsReads.W38 (x : S38) : Prop := ((Lit.int .i64 x.f0).wf = true) ∧ (((Lit.int .i64 x.f1).wf = true) ∧ (((Lit.int .i64 x.f2).wf = true) ∧ ((x.f3.length ≤ maxLen ∧ x.f3.length * 1 ≤ 140737488351232 ∧ ∀ y0_ ∈ x.f3, (Lit.int .u8 y0_).wf = true) ∧ (x.f4.length ≤ maxLen ∧ x.f4.length * 1 ≤ 140737488351232 ∧ ∀ y0_ ∈ x.f4, (Lit.int .u8 y0_).wf = true))))
theorem rubricatorlaw1_BitsReads.opens38 {H : Type} {enc : TypeId × Value → H} {W : World} : Go.Proofs.YtblneonbilbaiaaOpen.Opens Try.prog H enc W k38 38 rubricatorlaw1_BitsReads.W38 := by
  have h := Go.Proofs.YtblneonbilbaiaaOpen.opens_struct (H := H) (enc := enc) (W := W) Try.underlying38 (by kernel_rfl) (Go.Proofs.YtblneonbilbaiaaOpen.fields_cons (wf := (fun x => (Lit.int .i64 x).wf = true)) rfl (by kernel_rfl) (Go.Proofs.YtblneonbilbaiaaOpen.opens_int Try.underlying3) (Go.Proofs.YtblneonbilbaiaaOpen.fields_cons (wf := (fun x => (Lit.int .i64 x).wf = true)) rfl (by kernel_rfl) (Go.Proofs.YtblneonbilbaiaaOpen.opens_int Try.underlying3) (Go.Proofs.YtblneonbilbaiaaOpen.fields_cons (wf := (fun x => (Lit.int .i64 x).wf = true)) rfl (by kernel_rfl) (Go.Proofs.YtblneonbilbaiaaOpen.opens_int Try.underlying3) (Go.Proofs.YtblneonbilbaiaaOpen.fields_cons (wf := (fun x : List Int => x.length ≤ maxLen ∧ x.length * 1 ≤ 140737488351232 ∧ ∀ y0_ ∈ x, (Lit.int .u8 y0_).wf = true)) rfl (by kernel_rfl) (Go.Proofs.YtblneonbilbaiaaOpen.opens_slice (d := Kd.int .u8) (B := 1) Try.underlying29 (by kernel_rfl) (by decide) (by kernel_rfl) (Go.Proofs.YtblneonbilbaiaaOpen.opens_int Try.underlying5)) (Go.Proofs.YtblneonbilbaiaaOpen.fields_last (wf := (fun x : List Int => x.length ≤ maxLen ∧ x.length * 1 ≤ 140737488351232 ∧ ∀ y0_ ∈ x, (Lit.int .u8 y0_).wf = true)) rfl (by kernel_rfl) (Go.Proofs.YtblneonbilbaiaaOpen.opens_slice (d := Kd.int .u8) (B := 1) Try.underlying29 (by kernel_rfl) (by decide) (by kernel_rfl) (Go.Proofs.YtblneonbilbaiaaOpen.opens_int Try.underlying5)))))))
  exact Go.Proofs.YtblneonbilbaiaaOpen.opens_iso (fun x : S38 => (x.f0, x.f1, x.f2, x.f3, x.f4)) (fun a => ⟨⟨a.1, a.2.1, a.2.2.1, a.2.2.2.1, a.2.2.2.2⟩, rfl⟩) h
theorem reads_out (A : Option Addr) (c : Nat) (l : List Int) (A1 : Option Addr) (ca : Nat) (acts : List S38) (w : World) (h : 2000 < (l.length : Int)) :
    Calls Try.prog 7 #[.slice A l.length c, .slice A1 acts.length ca] w fun e w' => e = .returned (.bool true) ∧ Below w.heap.size w w' := by
  have d1 : decide (2000 < (l.length : Int)) = true := decide_eq_true h
  clear h
  go_enter Try.func7, Try.ntmps7
  go_wp2
  go_ret
  exact ⟨rfl, Below.refl _ _⟩
theorem rubricatorlaw1_BitsReads.walk (A : Option Addr) (c : Nat) (l : List Int) (A1 : Option Addr) (ca : Nat) (acts : List S38) (w : World) (hC : Kd.C (Kd.int .u8) w A l.length l) (hc : l.length ≤ c) (_ : l.length ≤ maxLen) (_ : l.length * 1 ≤ 140737488351232) (_ : ∀ x ∈ l, (Lit.int .u8 x).wf = true) (hC1 : Kd.C k38 w A1 acts.length acts) (_ : acts.length ≤ ca) (_ : acts.length ≤ maxLen ∧ acts.length * 72 ≤ 140737488351232 ∧ ∀ y ∈ acts, rubricatorlaw1_BitsReads.W38 y) :
    Calls Try.prog 7 #[.slice A l.length c, .slice A1 acts.length ca] w fun e w' => e = .returned (.bool true) ∧ Below w.heap.size w w' := by
  by_cases h : 2000 < (l.length : Int)
  · exact reads_out A c l A1 ca acts w h
  · exact reads_walk A c l A1 ca acts w hC hc (by omega) hC1
end Go.Proofs.Ytblneonbilbaiaa.PA
