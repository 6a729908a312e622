/- The walk of HuffReads: a decoder and the document's, side by side. No conditions beside those that each theorem says. -/
import Derived.Test.YtachnclfgjdglaaSteps
import Derived.Test.YtachnclfgjdglaaRefNew
import Derived.Test.YtachnclfgjdglaaNothing
namespace Go.Proofs.Ytachnclfgjdglaa.PA
open Go.Proofs.YtachnclfgjdglaaAid Go.Proofs.Ytachnclfgjdglaa.Coin Go.Proofs.Ytachnclfgjdglaa.Known Go.Proofs.Ytachnclfgjdglaa.Next Go.Proofs.Ytachnclfgjdglaa.Pure Go.RowKit Go.Proofs.YtachnclfgjdglaaW.PrintWords Go.Proofs.YtachnclfgjdglaaW.PrintLast Go.Proofs.YtachnclfgjdglaaW.PrintMore
attribute [local go_sem] max2_int min2_int max_two min_two max_three min_three max_four min_four   -- for this text's walks alone
set_option linter.unusedVariables false
set_option linter.unusedSimpArgs false

theorem own_f (l : List Int) (h : l.length ≤ 400) : rubricatorlaw3_own.f l = some l := by
  unfold rubricatorlaw3_own.f
  simp
  omega
theorem sym_none (l : List Int) (hl : isL l = true) (k : Nat) (hk : 16 ≤ k) : ∀ m, m ≤ l.length → symP l k m = []
  | 0, _ => rfl
  | m + 1, hm => by
    have := isL_at hl m (by omega)
    rw [symP, if_neg (by omega)]
    exact sym_none l hl k hk m (by omega)
theorem Y_fun {l : List Int} (hl : isL l = true) {Y : List Yr} (hy : Y.length = 16) (h : ∀ j y, Y[j]? = some y → y.s = symP l j l.length) : (fun k => (Y.getD k ⟨[], none, 0⟩).s) = Sde l := by
  funext k
  rw [List.getD_eq_getElem?_getD]
  by_cases hk : k < 16
  · obtain ⟨y, hyk⟩ : ∃ y, Y[k]? = some y := ⟨_, List.getElem?_eq_getElem (by omega)⟩
    rw [hyk]
    exact h k y hyk
  · rw [List.getElem?_eq_none (by omega)]
    exact (sym_none l hl k (by omega) l.length (Nat.le_refl _)).symm
/-- a decoder of these lengths -/
structure DecL (w : World) (base g : Nat) (l : List Int) (Y : List Yr) (co : Int) (n : Nat) : Prop where
  dec : Dec w base g (Fde l) Y co (n : Int)
  sym : ∀ j y, Y[j]? = some y → y.s = symP l j l.length
  le : n ≤ 14
  nn : 0 ≤ co
  lt : co < 2 ^ n
theorem pow14 {n : Nat} (hn : n ≤ 14) : (2 : Int) ^ n ≤ 16384 := by
  have h : (2 : Int) ^ n ≤ 2 ^ 14 := by exact_mod_cast Nat.pow_le_pow_right (by decide : 0 < 2) hn
  exact h
theorem nextL (w : World) (base g : Nat) (l : List Int) (Y : List Yr) (co bit : Int) (n : Nat) (hl : isL l = true) (h : DecL w base g l Y co n) :
    Calls Try.prog 25 #[.pointer (some ⟨g, 0, none⟩), .int .i64 bit] w fun e w' => ∃ m : Nat, e = .returned (.int .i64 (nx l co (n : Int) bit).1) ∧ (nx l co (n : Int) bit).2.2 = (m : Int) ∧ DecL w' base g l Y (nx l co (n : Int) bit).2.1 m ∧ To base w w' g := by
  have hf := Y_fun hl h.dec.yl h.sym
  have hp := pow14 h.le
  obtain ⟨m, e1, e2, e3, e4⟩ := nx_inv l hl co bit n h.le h.nn h.lt
  refine (next0 w base g (Fde l) Y co (n : Int) bit h.dec (by have := h.le; omega) (by have := h.nn; have := h.lt; omega) (Fde_small l hl) (fun k => ?_)).mono ?_
  · have hk : lenY Y k = (Sde l k).length := congrArg List.length (congrFun hf k)
    have := symP_len l k l.length
    have := isL_len hl
    rw [hk, Sde]
    omega
  · rw [hf]
    rintro e w' ⟨he, hd, ht⟩
    have hd' : Dec w' base g (Fde l) Y (nx l co (n : Int) bit).2.1 (nx l co (n : Int) bit).2.2 := hd
    rw [e1] at hd'
    exact ⟨m, he, e1, ⟨hd', h.sym, e2, e3, e4⟩, ht⟩
theorem refNextL (w : World) (base x : Nat) (l : List Int) (co bit : Int) (n : Nat) (hl : isL l = true) (hn : n ≤ 14) (h0 : 0 ≤ co) (h1 : co < 2 ^ n) (h : RDec w base x (outL l) l co (n : Int)) :
    Calls Try.prog 26 #[.pointer (some ⟨x, 0, none⟩), .int .i64 bit] w fun e w' => e = .returned (.int .i64 (nx l co (n : Int) bit).1) ∧ RDec w' base x (outL l) l (nx l co (n : Int) bit).2.1 (nx l co (n : Int) bit).2.2 ∧ To base w w' x := by
  obtain ⟨k, hk⟩ := (next_ev l hl co bit n hn h0 h1).rounds
  exact refNext w base x (outL l) l co (n : Int) bit _ _ _ k h hk
theorem mayD_full {l : List Int} (hl : isL l = true) (hm : mayD l = true) : (codesF l) = (outL l, 0) := by
  have hf : ¬ (fillP l l.length).1 > 32768 := by
    obtain ⟨i1, i2⟩ := only_fill hl l.length (Nat.le_refl _)
    have hs := fillP_small hl l.length (Nat.le_refl _)
    unfold mayD at hm
    simp only [Bool.or_eq_true, Bool.and_eq_true, decide_eq_true_eq] at hm
    rcases hm with h | h | h
    · omega
    · have := i1 (by omega)
      omega
    · omega
  unfold codesF
  rw [if_pos hl, if_neg hf, codes_all l hl]
theorem RDec.lower {w : World} {base b2 x : Nat} {C L : List Int} {co n : Int} (h : RDec w base x C L co n) (hb : b2 ≤ base) : RDec w b2 x C L co n := by
  obtain ⟨A0, c0, A1, c1, hx, h0, h1⟩ := h.at_
  exact ⟨⟨A0, c0, A1, c1, hx, Kd.R_lower h0 hb, Kd.R_lower h1 hb⟩, Nat.le_trans hb h.gb⟩
theorem DecL.below {w W : World} {base g : Nat} {l : List Int} {Y : List Yr} {co : Int} {n : Nat} (h : DecL w base g l Y co n) (hb : Below w.heap.size w W) : DecL W base g l Y co n := ⟨h.dec.below hb, h.sym, h.le, h.nn, h.lt⟩
theorem DecL.step {w W : World} {base g : Nat} {l : List Int} {Y : List Yr} {co : Int} {n : Nat} (h : DecL w base g l Y co n) (hm : ∀ k, base ≤ k → k < w.heap.size → W.heap[k]? = w.heap[k]?) : DecL W base g l Y co n := ⟨dec_step h.dec hm, h.sym, h.le, h.nn, h.lt⟩
theorem newL (A : Option Addr) (c : Nat) (l : List Int) (w : World) (hr : Kd.C (Kd.int .i64) w A l.length l) (hl : isL l = true) (hm : mayD l = true) :
    Calls Try.prog 23 #[.slice A l.length c] w fun e w' => ∃ (g : Nat) (Y : List Yr), e = .returned (.tuple #[.pointer (some ⟨g, 0, none⟩), .int .i64 0]) ∧ DecL w' w.heap.size g l Y 0 0 ∧ Below w.heap.size w w' :=
  (Coin.new A c l w hr hl hm).mono fun e w' ⟨g, Y, he, hd, hs, hb⟩ => ⟨g, Y, he, ⟨hd, hs, by omega, by decide, by decide⟩, hb⟩
set_option maxHeartbeats 4000000 in
set_option maxRecDepth 100000 in
theorem reads_no (A0 : Option Addr) (c0 : Nat) (l : List Int) (A1 : Option Addr) (c1 : Nat) (b : List Int) (w : World) (hr0 : Kd.C (Kd.int .i64) w A0 l.length l) (hc0 : l.length ≤ c0) (hr1 : Kd.C (Kd.int .i64) w A1 b.length b) (h1 : l.length ≤ 400) (h2 : b.length ≤ 400) (r : Int) (hrr : (r != r) = false) (hr : (r != 0) = true) (hnew : ∀ A c W, Kd.C (Kd.int .i64) W A l.length l → Calls Try.prog 23 #[.slice A l.length c] W fun e w' => e = .returned (.tuple #[.pointer none, .int .i64 r]) ∧ w' = W)
    (href : ∀ W, Kd.C (Kd.int .i64) W A0 l.length l → Calls Try.prog 24 #[.slice A0 l.length c0] W fun e w' => e = .returned (.tuple #[.pointer none, .int .i64 r]) ∧ Below W.heap.size W w') :
    Calls Try.prog 8 #[.slice A0 l.length c0, .slice A1 b.length c1] w fun e w' => e = .returned (.bool true) ∧ Below w.heap.size w w' := by
  have HR0 := Aside0.mk hr0
  have HC0 := Aside0.mk hc0
  have HR1 := Aside0.mk hr1
  have d1 : decide ((l.length : Int) > 400) = false := decide_eq_false (by omega)
  have d2 : decide ((b.length : Int) > 400) = false := decide_eq_false (by omega)
  have HL := Aside0.mk h1
  have HBL := Aside0.mk h2
  obtain ⟨kk, hkk⟩ := known_ev.rounds
  have HK := Aside0.mk hkk
  obtain ⟨ki, hki⟩ := (ints_ev l (by omega)).rounds
  have HI := Aside0.mk hki
  have HOW := Aside0.mk (own_f l h1)
  clear hkk hki
  have HNEW := Aside0.mk hnew
  have HREF := Aside0.mk href
  clear hnew href hr0 hc0 hr1 h1 h2
  go_enter Try.func8, Try.ntmps8
  go_wp2_with (first | ((with_reducible refine gate_callee (f := 12) rfl ?_); refine goesL_ (some 21) rfl rfl Try.func12 (by kernel_rfl) rfl #[.slice A0 l.length c0] rfl (by (try simp only [List.map_toArray, List.map_cons, List.map_nil]); first | done | rfl) ?_; refine (rubricatorlaw3_own.calls A0 c0 l l _ HR0.out HC0.out HOW.out).mono ?_; rintro e w1 ⟨vm, rfl, hv, hb⟩; obtain ⟨Am, cm, rfl, _, _⟩ := Kd.R_reads hv; refine ⟨_, rfl, ?_⟩; have HM1 := Aside0.mk (Kd.R_mono (ok' := fun k => k < w1.heap.size) (Kd.R_bound hv) (fun k hk => hk.2.2.1)); have HB1 := Aside0.mk hb; clear hv hb) | ((with_reducible refine gate_callee (f := 23) rfl ?_); refine goesL_ (some 24) rfl rfl Try.func23 (by kernel_rfl) rfl #[.slice Am l.length cm] rfl (by (try simp only [List.map_toArray, List.map_cons, List.map_nil]); first | done | rfl) ?_; refine (HNEW.out Am cm w1 (Kd.R_reads' HM1.out).2.2).mono ?_; rintro e w2 ⟨rfl, he2⟩; subst he2; refine ⟨_, rfl, ?_⟩) | ((with_reducible refine gate_callee (f := 24) rfl ?_); refine goesL_ (some 29) rfl rfl Try.func24 (by kernel_rfl) rfl #[.slice A0 l.length c0] rfl (by (try simp only [List.map_toArray, List.map_cons, List.map_nil]); first | done | rfl) ?_; refine (HREF.out _ (Kd.C_below HR0.out HB1.out)).mono ?_; rintro e w3 ⟨rfl, hb⟩; refine ⟨_, rfl, ?_⟩; have HB3 := Aside0.mk (below_step HB1.out hb); have HM3 := Aside0.mk (Kd.R_below HM1.out hb); clear hb) | ((with_reducible refine gate_callee (f := 15) rfl ?_); refine gate_guard (by rfl) ?_; dsimp only; refine goesL_ (some 45) rfl rfl Try.func15 (by kernel_rfl) rfl #[.slice Am l.length cm, .slice A0 l.length c0] rfl (by (try simp only [List.map_toArray, List.map_cons, List.map_nil]); first | done | rfl) ?_; refine (rubricatorlaw3_ints.calls ki Am cm l A0 c0 l true _ (Kd.R_reads' HM3.out).2.2 (Kd.R_reads' HM3.out).2.1 (Kd.C_below HR0.out HB3.out) HC0.out HI.out).mono ?_; rintro e w4 ⟨rfl, hd⟩; refine ⟨_, rfl, ?_⟩; have HB34 := Aside0.mk hd.below; have HB4 := Aside0.mk (below_step HB3.out hd.below); clear hd) | ((with_reducible refine gate_callee (f := 16) rfl ?_); refine goesL_ (some 50) rfl rfl Try.func16 (by kernel_rfl) rfl #[] rfl (by (try simp only [List.map_toArray, List.map_cons, List.map_nil]); first | done | rfl) ?_; refine (rubricatorlaw3_known.calls kk true _ HK.out).mono ?_; rintro e w5 ⟨rfl, hb⟩; refine ⟨_, rfl, ?_⟩; have HB5 := Aside0.mk (below_step HB4.out hb); clear hb))
  go_ret
  exact ⟨rfl, HB5.out⟩
set_option maxHeartbeats 4000000 in
set_option maxRecDepth 100000 in
theorem reads_yes (A0 : Option Addr) (c0 : Nat) (l : List Int) (A1 : Option Addr) (c1 : Nat) (b : List Int) (w : World) (hr0 : Kd.C (Kd.int .i64) w A0 l.length l) (hc0 : l.length ≤ c0) (hr1 : Kd.C (Kd.int .i64) w A1 b.length b) (h1 : l.length ≤ 400) (h2 : b.length ≤ 400) (hl : isL l = true) (hm : mayD l = true) :
    Calls Try.prog 8 #[.slice A0 l.length c0, .slice A1 b.length c1] w fun e w' => e = .returned (.bool true) ∧ Below w.heap.size w w' := by
  have HR0 := Aside0.mk hr0
  have HC0 := Aside0.mk hc0
  have HR1 := Aside0.mk hr1
  have d1 : decide ((l.length : Int) > 400) = false := decide_eq_false (by omega)
  have d2 : decide ((b.length : Int) > 400) = false := decide_eq_false (by omega)
  have HL := Aside0.mk h1
  have HBL := Aside0.mk h2
  obtain ⟨kk, hkk⟩ := known_ev.rounds
  have HK := Aside0.mk hkk
  obtain ⟨ki, hki⟩ := (ints_ev l (by omega)).rounds
  have HI := Aside0.mk hki
  have HOW := Aside0.mk (own_f l h1)
  clear hkk hki
  have HIS := Aside0.mk hl
  have HMD := Aside0.mk hm
  have HCF := Aside0.mk (show (codesF l).1 = outL l by rw [mayD_full hl hm])
  clear hl hm hr0 hc0 hr1 h1 h2
  go_enter Try.func8, Try.ntmps8
  go_wp2_with (first | ((with_reducible refine gate_callee (f := 12) rfl ?_); refine goesL_ (some 21) rfl rfl Try.func12 (by kernel_rfl) rfl #[.slice A0 l.length c0] rfl (by (try simp only [List.map_toArray, List.map_cons, List.map_nil]); first | done | rfl) ?_; refine (rubricatorlaw3_own.calls A0 c0 l l _ HR0.out HC0.out HOW.out).mono ?_; rintro e w1 ⟨vm, rfl, hv, hb⟩; obtain ⟨Am, cm, rfl, _, _⟩ := Kd.R_reads hv; refine ⟨_, rfl, ?_⟩; have HM1 := Aside0.mk (Kd.R_mono (ok' := fun k => k < w1.heap.size) (Kd.R_bound hv) (fun k hk => hk.2.2.1)); have HB1 := Aside0.mk hb; clear hv hb) | ((with_reducible refine gate_callee (f := 23) rfl ?_); refine goesL_ (some 24) rfl rfl Try.func23 (by kernel_rfl) rfl #[.slice Am l.length cm] rfl (by (try simp only [List.map_toArray, List.map_cons, List.map_nil]); first | done | rfl) ?_; refine (newL Am cm l w1 (Kd.R_reads' HM1.out).2.2 HIS.out HMD.out).mono ?_; rintro e w2 ⟨g, Y, rfl, hd, hb⟩; refine ⟨_, rfl, ?_⟩; have HD2 := Aside0.mk hd; have HB12 := Aside0.mk hb; have HB2 := Aside0.mk (below_step HB1.out hb); have HM2 := Aside0.mk (Kd.R_below HM1.out hb); clear hd hb) | ((with_reducible refine gate_callee (f := 24) rfl ?_); refine goesL_ (some 29) rfl rfl Try.func24 (by kernel_rfl) rfl #[.slice A0 l.length c0] rfl (by (try simp only [List.map_toArray, List.map_cons, List.map_nil]); first | done | rfl) ?_; refine (refNew A0 c0 l w2 (Kd.C_below HR0.out HB2.out) HC0.out HIS.out HMD.out).mono ?_; rintro e w3 ⟨x, rfl, hx, hb⟩; refine ⟨_, rfl, ?_⟩; have HX3 := Aside0.mk ((HCF.out ▸ hx).lower HB12.out.size); have HB3 := Aside0.mk (below_step HB2.out hb); have HM3 := Aside0.mk (Kd.R_below HM2.out hb); have HD3 := Aside0.mk (HD2.out.below hb); clear hx hb) | ((with_reducible refine gate_callee (f := 15) rfl ?_); refine gate_guard (by rfl) ?_; dsimp only; refine goesL_ (some 45) rfl rfl Try.func15 (by kernel_rfl) rfl #[.slice Am l.length cm, .slice A0 l.length c0] rfl (by (try simp only [List.map_toArray, List.map_cons, List.map_nil]); first | done | rfl) ?_; refine (rubricatorlaw3_ints.calls ki Am cm l A0 c0 l true _ (Kd.R_reads' HM3.out).2.2 (Kd.R_reads' HM3.out).2.1 (Kd.C_below HR0.out HB3.out) HC0.out HI.out).mono ?_; rintro e w4 ⟨rfl, hd⟩; refine ⟨_, rfl, ?_⟩; have HB34 := Aside0.mk hd.below; have HB4 := Aside0.mk (below_step HB3.out hd.below); clear hd))
  have H0 := Aside0.mk (And.intro (HD3.out.below HB34.out) (And.intro (HX3.out.below HB34.out) (And.intro HB4.out (Kd.R_below HM3.out HB34.out))))
  clear d1 d2 HD3 HX3 HB3 HB4 HB34 HM3 HD2 HB2 HM2
  go_loopg [10] l.length (fun gg v10 wr => ∃ (i : Nat) (xs : List Int), i ≤ l.length ∧ l.length - i ≤ gg ∧ v10 = .int .i64 i ∧ xs.length = l.length ∧ Aside0 (DecL wr w1.heap.size g l Y 0 0) ∧ Aside0 (RDec wr w1.heap.size x (outL l) l 0 0) ∧ Aside0 (Below w.heap.size w wr) ∧ Aside0 (Kd.R (Kd.int .i64) 3 wr w.heap.size (fun k => k < w1.heap.size) (.slice Am xs.length cm) xs))
  case atStart => exact ⟨0, l, Nat.zero_le _, by omega, rfl, rfl, ⟨H0.out.1⟩, ⟨H0.out.2.1⟩, ⟨H0.out.2.2.1⟩, ⟨H0.out.2.2.2⟩⟩
  case round =>
    clear H0
    obtain ⟨i, xs, hi, hgg, rfl, hxs, HD, HX, HB, HM⟩ := hrel
    by_cases hlt : i < l.length
    case pos =>
      have dlt : decide ((i : Int) < (l.length : Int)) = true := decide_eq_true (by omega)
      have hiz : (i : Int) < (l.length : Int) := by omega
      obtain ⟨gm, cap, e, _, _, _⟩ := Kd.R_form HM.out (by omega)
      injection e with e1 e2 e3
      clear e2 e3
      subst e1
      have hgm : gm < w1.heap.size := HM.out.1 gm rfl
      obtain ⟨n1, n2⟩ := Kd.R_cell (g := gm) (cap := cm) 0 HM.out (i : Int) (by omega) (by omega)
      rw [Int.toNat_natCast] at n1 n2
      have hput := (Kd.R_put (g := gm) (cap := cm) HM.out (i : Int) 3).1
      rw [Int.toNat_natCast] at hput
      have HP := Aside0.mk hput
      have hne : ∀ k, w1.heap.size ≤ k → (wr.setCell ⟨gm, i, none⟩ (.int .i64 3)).heap[k]? = wr.heap[k]? := fun k hk => Below.heap_setCell wr ⟨gm, i, none⟩ _ k (by show k ≠ gm; omega)
      have HD2 := Aside0.mk (HD.out.step (fun k hk _ => hne k hk))
      have HX2 := Aside0.mk (HX.out.step (fun k hk _ => hne k hk))
      have HB2 := Aside0.mk (HB.out.setCell (p := ⟨gm, i, none⟩) (by have := Kd.R_base HM.out gm rfl; exact this) (.int .i64 3))
      have hw2 : wrap64 ((i : Int) + 1) = ((i + 1 : Nat) : Int) := w64 (x := (i : Int) + 1) (by omega) (by have := HL.out; omega)
      have HW2 := Aside0.mk hw2
      have HXS := Aside0.mk (And.intro hxs (And.intro hlt hgg))
      clear hput hne hw2 hxs hlt hgg hi hgm
      go_wp2
      go_roundg (l.length - (i + 1))
      case rel => exact ⟨i + 1, xs.set i 3, by have := HXS.out; omega, Nat.le_refl _, by first | rfl | rw [HW2.out], by rw [List.length_set]; exact HXS.out.1, HD2, HX2, HB2, ⟨by rw [List.length_set]; exact HP.out⟩⟩
      case measure => have := HXS.out; omega
    case neg =>
      have hke : i = l.length := by omega
      subst hke
      have dlt : decide ((l.length : Int) < (l.length : Int)) = false := decide_eq_false (by omega)
      have H1 := Aside0.mk (And.intro HD.out (And.intro HX.out HB.out))
      clear hi hgg hlt hxs HD HX HB HM
      go_wp2
      go_loopg [11] b.length (fun gg v11 wr => ∃ (i n : Nat) (co : Int), i ≤ b.length ∧ b.length - i ≤ gg ∧ v11 = .int .i64 i ∧ Aside0 (DecL wr w1.heap.size g l Y co n) ∧ Aside0 (RDec wr w1.heap.size x (outL l) l co n) ∧ Aside0 (Below w.heap.size w wr))
      case atStart => exact ⟨0, 0, 0, Nat.zero_le _, by omega, rfl, ⟨H1.out.1⟩, ⟨H1.out.2.1⟩, ⟨H1.out.2.2⟩⟩
      case round =>
        clear H1
        obtain ⟨i, n, co, hi, hgg, rfl, HD, HX, HB⟩ := hrel
        by_cases hlt : i < b.length
        case pos =>
          have dlt : decide ((i : Int) < (b.length : Int)) = true := decide_eq_true (by omega)
          have hiz : (i : Int) < (b.length : Int) := by omega
          obtain ⟨ad, e, hcell0⟩ := at_i HR1.out i hlt
          cases e
          have hlt0 := World.block_lt_of_cell? w _ hcell0
          have hcell := (HB.out.cell hlt0).trans hcell0
          have HAD := Aside0.mk (show (ad.add i).block < w1.heap.size from Nat.lt_of_lt_of_le hlt0 HB1.out.size)
          generalize b.getD i 0 = bb at hcell
          have hcd : wr.drew.cell? (ad.add i) = some (.int .i64 bb) := hcell
          have HDd := Aside0.mk (show DecL wr.drew w1.heap.size g l Y co n from HD.out.below (Below.refl _ _).drew)
          have HXd := Aside0.mk (show RDec wr.drew w1.heap.size x (outL l) l co n from HX.out.below (Below.refl _ _).drew)
          have HBd := Aside0.mk (show Below w.heap.size w wr.drew from HB.out.drew)
          have hw2 : wrap64 ((i : Int) + 1) = ((i + 1 : Nat) : Int) := w64 (x := (i : Int) + 1) (by omega) (by have := HBL.out; omega)
          have HW2 := Aside0.mk hw2
          have HXS := Aside0.mk (And.intro hlt hgg)
          have dne : ((nx l co (n : Int) bb).1 != (nx l co (n : Int) bb).1) = false := by simp
          clear hcell0 hlt0 hcell hw2 hlt hgg hi
          go_wp2
          refine start_ (n := 13) (S := fun w' => w'.cell? (ad.add i) = some (.int .i64 bb)) (ds := []) #[false, false, false, false, false, false, false, false, false, false, false, false, false] (by kernel_rfl) rfl rfl hcd (fun hHeld => ?_)
          refine pure_ (i := 0) (N := some 66) (v := ?_) (a' := ?_) #[true, false, false, false, false, false, false, false, false, false, false, false, false] rfl rfl (by kernel_rfl) (fun _ _ _ h => h) (Or.inl ⟨by rfl, ?_⟩) ?_ ?_
          rotate_left
          · intro w'
            go_simp
            with_reducible rfl
          rotate_left
          · simp only [Act.put, List.setIfInBounds_toArray, List.set_cons_zero, List.set_cons_succ, i64_w, i32_w]
            rfl
          refine pure_ (i := 1) (N := some 67) (v := ?_) (a' := ?_) #[true, true, false, false, false, false, false, false, false, false, false, false, false] rfl rfl (by kernel_rfl) (fun _ _ _ h => h) (Or.inl ⟨by rfl, ?_⟩) ?_ ?_
          rotate_left
          · intro w'
            go_simp
            with_reducible rfl
          rotate_left
          · simp only [Act.put, List.setIfInBounds_toArray, List.set_cons_zero, List.set_cons_succ, i64_w, i32_w]
            rfl
          refine pure_ (i := 2) (N := some 68) (v := ?_) (a' := ?_) #[true, true, true, false, false, false, false, false, false, false, false, false, false] rfl rfl (by kernel_rfl) (fun _ _ _ h => h) (Or.inl ⟨by rfl, ?_⟩) ?_ ?_
          rotate_left
          · intro w'
            go_simp
            with_reducible rfl
          rotate_left
          · simp only [Act.put, List.setIfInBounds_toArray, List.set_cons_zero, List.set_cons_succ, i64_w, i32_w]
            rfl
          refine pure_ (i := 3) (N := some 69) (v := ?_) (a' := ?_) #[true, true, true, true, false, false, false, false, false, false, false, false, false] rfl rfl (by kernel_rfl) (fun _ _ _ h => h) (Or.inl ⟨by rfl, ?_⟩) ?_ ?_
          rotate_left
          · intro w'
            go_simp
            with_reducible rfl
          rotate_left
          · simp only [Act.put, List.setIfInBounds_toArray, List.set_cons_zero, List.set_cons_succ, i64_w, i32_w]
            rfl
          refine take_ (i := 4) (N := some 70) (v := ?_) (a' := ?_) #[true, true, true, true, true, false, false, false, false, false, false, false, false] rfl rfl (by kernel_rfl) (fun _ _ _ h => h) (Or.inl ⟨by rfl, ?_⟩) hHeld ?_ ?_
          rotate_left
          · rintro w' hs
            go_simp
            with_reducible rfl
          rotate_left
          · simp only [Act.put, List.setIfInBounds_toArray, List.set_cons_zero, List.set_cons_succ, i64_w, i32_w]
            rfl
          refine pure_ (i := 6) (N := some 72) (v := ?_) (a' := ?_) #[true, true, true, true, true, false, true, false, false, false, false, false, false] rfl rfl (by kernel_rfl) (fun _ _ _ h => h) (Or.inl ⟨by rfl, ?_⟩) ?_ ?_
          rotate_left
          · intro w'
            go_simp
            with_reducible rfl
          rotate_left
          · simp only [Act.put, List.setIfInBounds_toArray, List.set_cons_zero, List.set_cons_succ, i64_w, i32_w]
            rfl
          refine pure_ (i := 7) (N := some 73) (v := ?_) (a' := ?_) #[true, true, true, true, true, false, true, true, false, false, false, false, false] rfl rfl (by kernel_rfl) (fun _ _ _ h => h) (Or.inl ⟨by rfl, ?_⟩) ?_ ?_
          rotate_left
          · intro w'
            go_simp
            with_reducible rfl
          rotate_left
          · simp only [Act.put, List.setIfInBounds_toArray, List.set_cons_zero, List.set_cons_succ, i64_w, i32_w]
            rfl
          refine pure_ (i := 8) (N := some 74) (v := ?_) (a' := ?_) #[true, true, true, true, true, false, true, true, true, false, false, false, false] rfl rfl (by kernel_rfl) (fun _ _ _ h => h) (Or.inl ⟨by rfl, ?_⟩) ?_ ?_
          rotate_left
          · intro w'
            go_simp
            with_reducible rfl
          rotate_left
          · simp only [Act.put, List.setIfInBounds_toArray, List.set_cons_zero, List.set_cons_succ, i64_w, i32_w]
            rfl
          refine pure_ (i := 9) (N := some 75) (v := ?_) (a' := ?_) #[true, true, true, true, true, false, true, true, true, true, false, false, false] rfl rfl (by kernel_rfl) (fun _ _ _ h => h) (Or.inl ⟨by rfl, ?_⟩) ?_ ?_
          rotate_left
          · intro w'
            go_simp
            with_reducible rfl
          rotate_left
          · simp only [Act.put, List.setIfInBounds_toArray, List.set_cons_zero, List.set_cons_succ, i64_w, i32_w]
            rfl
          refine take_ (i := 10) (N := some 76) (v := ?_) (a' := ?_) #[true, true, true, true, true, false, true, true, true, true, true, false, false] rfl rfl (by kernel_rfl) (fun _ _ _ h => h) (Or.inl ⟨by rfl, ?_⟩) hHeld ?_ ?_
          rotate_left
          · rintro w' hs
            go_simp
            with_reducible rfl
          rotate_left
          · simp only [Act.put, List.setIfInBounds_toArray, List.set_cons_zero, List.set_cons_succ, i64_w, i32_w]
            rfl
          refine one_ (i := 5) (N := some 71) #[true, true, true, true, true, true, true, true, true, true, true, false, false] rfl rfl (by kernel_rfl) (by decide) (fun K hK => ?_)
          refine goes_ Try.func25 (by kernel_rfl) rfl #[.pointer (some ⟨g, 0, none⟩), .int .i64 bb] (by rfl) rfl rfl (by first | rfl | (simp only [List.map_toArray, List.map_cons, List.map_nil]; rfl)) ?_
          refine (nextL _ w1.heap.size g l Y co bb n HIS.out HDd.out).mono ?_
          rintro e w5 ⟨m, rfl, hm, hd5, ht5⟩
          have HD5 := Aside0.mk hd5
          have HX5 := Aside0.mk (HXd.out.keep HDd.out.dec.blk ht5.keep)
          have HT5 := Aside0.mk ht5
          have HM5 := Aside0.mk hm
          clear hd5 ht5 hm
          refine ⟨_, rfl, ?_⟩
          refine hK.out _ _ ((HT5.out.below.cell HAD.out).trans hHeld) (fun hHeld => ?_)
          clear hK K
          refine norm_ (a' := ?_) ?_ ?_
          rotate_left
          · show Act.put _ (some 71) _ = _
            simp only [Act.put, List.setIfInBounds_toArray, List.set_cons_zero, List.set_cons_succ, i64_w, i32_w]
            rfl
          refine one_ (i := 11) (N := some 77) #[true, true, true, true, true, true, true, true, true, true, true, true, false] rfl rfl (by kernel_rfl) (by decide) (fun K hK => ?_)
          refine goes_ Try.func26 (by kernel_rfl) rfl #[.pointer (some ⟨x, 0, none⟩), .int .i64 bb] (by rfl) rfl rfl (by first | rfl | (simp only [List.map_toArray, List.map_cons, List.map_nil]; rfl)) ?_
          refine (refNextL _ w1.heap.size x l co bb n HIS.out HDd.out.le HDd.out.nn HDd.out.lt HX5.out).mono ?_
          rintro e w6 ⟨rfl, hx6, ht6⟩
          have HX6 := Aside0.mk hx6
          have HD6 := Aside0.mk (show DecL w6 w1.heap.size g l Y (nx l co (n : Int) bb).2.1 m from ⟨(by obtain ⟨_, _, _, _, hxb, _⟩ := HX5.out.at_; exact dec_keep60 HD5.out.dec hxb ht6.keep), HD5.out.sym, HD5.out.le, HD5.out.nn, HD5.out.lt⟩)
          have HB6 := Aside0.mk (show Below w.heap.size w w6 from HBd.out.trans ((HT5.out.below.trans ht6.below).mono HB1.out.size))
          have HT6 := Aside0.mk ht6
          clear hx6 ht6
          refine ⟨_, rfl, ?_⟩
          refine hK.out _ _ ((HT6.out.below.cell HAD.out).trans hHeld) (fun hHeld => ?_)
          clear hK K
          refine norm_ (a' := ?_) ?_ ?_
          rotate_left
          · show Act.put _ (some 77) _ = _
            simp only [Act.put, List.setIfInBounds_toArray, List.set_cons_zero, List.set_cons_succ, i64_w, i32_w]
            rfl
          refine pure_ (i := 12) (N := some 78) (v := ?_) (a' := ?_) #[true, true, true, true, true, true, true, true, true, true, true, true, true] rfl rfl (by kernel_rfl) (fun _ _ _ h => h) (Or.inl ⟨by rfl, ?_⟩) ?_ ?_
          rotate_left
          · intro w'
            go_simp
            with_reducible rfl
          rotate_left
          · simp only [Act.put, List.setIfInBounds_toArray, List.set_cons_zero, List.set_cons_succ, i64_w, i32_w]
            rfl
          refine done_ (by kernel_rfl) ?_
          go_wp2
          go_roundg (b.length - (i + 1))
          case rel => exact ⟨i + 1, m, _, by have := HXS.out; omega, Nat.le_refl _, by first | rfl | rw [HW2.out], HD6, by rw [← HM5.out]; exact HX6, HB6⟩
          case measure => have := HXS.out; omega
        case neg =>
          have hke : i = b.length := by omega
          subst hke
          have dlt : decide ((b.length : Int) < (b.length : Int)) = false := decide_eq_false (by omega)
          clear hi hgg hlt
          go_wp2_with (first | ((with_reducible refine gate_callee (f := 16) rfl ?_); refine goesL_ (some 79) rfl rfl Try.func16 (by kernel_rfl) rfl #[] rfl (by (try simp only [List.map_toArray, List.map_cons, List.map_nil]); first | done | rfl) ?_; refine (rubricatorlaw3_known.calls kk true _ HK.out).mono ?_; rintro e w5 ⟨rfl, hb⟩; refine ⟨_, rfl, ?_⟩; have HB5 := Aside0.mk (below_step HB.out hb); clear hb))
          go_ret
          exact ⟨rfl, HB5.out⟩
theorem rubricatorlaw3_HuffReads.walk (A0 : Option Addr) (c0 : Nat) (l : List Int) (A1 : Option Addr) (c1 : Nat) (b : List Int) (w : World) (hr0 : Kd.C (Kd.int .i64) w A0 l.length l) (hc0 : l.length ≤ c0) (_ : l.length ≤ maxLen) (_ : l.length * 8 ≤ 140737488351232) (_ : ∀ x ∈ l, (Lit.int .i64 x).wf = true) (hr1 : Kd.C (Kd.int .i64) w A1 b.length b) (_ : b.length ≤ c1) (_ : b.length ≤ maxLen) (_ : b.length * 8 ≤ 140737488351232) (_ : ∀ x ∈ b, (Lit.int .i64 x).wf = true) :
    Calls Try.prog 8 #[.slice A0 l.length c0, .slice A1 b.length c1] w fun e w' => e = .returned (.bool true) ∧ Below w.heap.size w w' := by
  by_cases h1 : l.length ≤ 400
  case neg =>
    have d1 : decide ((l.length : Int) > 400) = true := decide_eq_true (by omega)
    clear h1 hr0 hc0 hr1
    generalize l.length = n at d1 ⊢
    generalize b.length = m
    go_enter Try.func8, Try.ntmps8
    go_wp2
    go_ret
    exact ⟨rfl, Below.refl _ _⟩
  by_cases h2 : b.length ≤ 400
  case neg =>
    have d1 : decide ((l.length : Int) > 400) = false := decide_eq_false (by omega)
    have d2 : decide ((b.length : Int) > 400) = true := decide_eq_true (by omega)
    clear h1 h2 hr0 hc0 hr1
    generalize l.length = n at d1 ⊢
    generalize b.length = m at d2 ⊢
    go_enter Try.func8, Try.ntmps8
    go_wp2
    go_ret
    exact ⟨rfl, Below.refl _ _⟩
  by_cases hl : isL l = true
  case neg =>
    have hl := Bool.eq_false_iff.2 hl
    exact reads_no A0 c0 l A1 c1 b w hr0 hc0 hr1 h1 h2 1 (by decide) (by decide) (fun A c W h => new_bad A c l W h hl) (fun W h => refNew_bad A0 c0 l W h hc0 hl)
  by_cases hm : mayD l = true
  case neg =>
    have hm := Bool.eq_false_iff.2 hm
    exact reads_no A0 c0 l A1 c1 b w hr0 hc0 hr1 h1 h2 21 (by decide) (by decide) (fun A c W h => new_no A c l W h hl hm) (fun W h => refNew_no A0 c0 l W h hc0 hl hm)
  exact reads_yes A0 c0 l A1 c1 b w hr0 hc0 hr1 h1 h2 hl hm
end Go.Proofs.Ytachnclfgjdglaa.PA
