/- BitsWrites: a script of a Writer, played beside the document one. No conditions. -/
import Derived.Test.YtblneonbilbaiaaDuo
import Derived.Test.YtblneonbilbaiaaScript
import Derived.Test.YtblneonbilbaiaaOpen
import Derived.Test.YtblneonbilbaiaaAid
namespace Go.Proofs.Ytblneonbilbaiaa.PA
open Go.Proofs.Ytblneonbilbaiaa.Mat Go.RowKit Go.Proofs.YtblneonbilbaiaaW.PrintWords Go.Proofs.YtblneonbilbaiaaW.PrintLast Go.Proofs.YtblneonbilbaiaaW.PrintMore
set_option linter.unusedVariables false
set_option linter.unusedSimpArgs false
theorem duoW {w0 w4 W : World} {g x : Nat} {s s2 : BW} {L : List Int} {u ux : Value} {f : FuncId} {args : Array Value} {r : Value} (h : Duo w0 w4 W g x s L u ux) (hp : Pos w0 w4 g x)
    (hc : Calls Try.prog f args W fun e w' => e = .returned r ∧ ∃ u', Wst w0.heap.size w' g s2.b s2.p s2.i u' ∧ Wto w0.heap.size W g u w' u') :
    Calls Try.prog f args W fun e w' => e = .returned r ∧ ∃ u2, Duo w0 w4 w' g x s2 L u2 ux ∧ Wto w0.heap.size W g u w' u2 :=
  hc.mono fun e w' ⟨he, u', h1, h2⟩ => ⟨he, u', h.onW hp h1 h2, h2⟩
theorem duoX {w0 w4 W : World} {g x : Nat} {s : BW} {L L2 : List Int} {u ux : Value} {f : FuncId} {args : Array Value} {r : Value} (h : Duo w0 w4 W g x s L u ux) (hp : Pos w0 w4 g x)
    (hc : Calls Try.prog f args W fun e w' => e = .returned r ∧ ∃ u', Tst w0.heap.size w' x L2 u' ∧ Wto w0.heap.size W x ux w' u') :
    Calls Try.prog f args W fun e w' => e = .returned r ∧ ∃ u2, Duo w0 w4 w' g x s L2 u u2 ∧ Wto w0.heap.size W x ux w' u2 :=
  hc.mono fun e w' ⟨he, u', h1, h2⟩ => ⟨he, u', h.onX hp h1 h2, h2⟩
theorem Bytes_at (g : Nat) (L bt : List Int) (hbt : bytesW (tape L) = bt) (u : Value) (w : World) (b0 : Nat) (h : Wst b0 w g (tape L).b (tape L).p (tape L).i u) (hb : ∀ z ∈ L, Bit z) (hl : L.length ≤ 400000000) :
    Calls Try.prog 14 #[.pointer (some ⟨g, 0, none⟩)] w fun e w' => ∃ A c, e = .returned (.slice A bt.length c) ∧ Kd.R (Kd.int .u8) 5 w' w.heap.size (fun _ => True) (.slice A bt.length c) bt ∧ Below w.heap.size w w' := by
  subst hbt
  exact Bytes_all g L u w b0 h hb hl
theorem refBytes_at (x : Nat) (L bt : List Int) (hbt : bytesW (tape L) = bt) (u : Value) (w : World) (b0 : Nat) (hbw : b0 ≤ w.heap.size) (h : Tst b0 w x L u) (hb : ∀ z ∈ L, Bit z) (hl : L.length ≤ 400000000) :
    Calls Try.prog 26 #[.pointer (some ⟨x, 0, none⟩)] w fun e w' => ∃ A c, e = .returned (.slice A bt.length c) ∧ Kd.R (Kd.int .u8) 5 w' w.heap.size (fun _ => True) (.slice A bt.length c) bt ∧ Below w.heap.size w w' := by
  subst hbt
  exact refBytes_all x L u w b0 hbw h hb hl
theorem own_lt_ {w : World} {base : Nat} {ok : Nat → Prop} {v : Value} {xs : List Int} (h : Kd.R (Kd.int .u8) 5 w base ok v xs) {k : Nat} (hk : w.heap.size ≤ k) : v.ownBlock ≠ some k := fun e => by
  have := Kd.R_lt h k e
  omega
theorem spoil_at (A : Option Addr) (c : Nat) (l : List Int) (m : Nat) (hm : l.length = m) (w : World) (b0 : Nat) (hbw : b0 ≤ w.heap.size) (h : Kd.R (Kd.int .u8) 5 w b0 (fun _ => True) (.slice A l.length c) l) (hl : l.length ≤ 900000000) :
    Calls Try.prog 25 #[.slice A m c] w fun e w' => e = .returned (.tuple #[]) ∧ Kept w w' (fun k => (Value.slice A l.length c).ownBlock = some k) ∧ Below b0 w w' := by
  subst hm
  exact rubricatorlaw1_spoil.calls A c l w b0 hbw h hl
def Rows4 (w : World) (A3 A4 : Option Addr) (c3 c4 : Nat) (lB lC : List Int) : Prop := (lB.length ≤ c3 ∧ Kd.C (Kd.int .u8) w A3 lB.length lB) ∧ (lC.length ≤ c4 ∧ Kd.C (Kd.int .u8) w A4 lC.length lC) ∧ ((∀ c ∈ lB, Byte c) ∧ (∀ c ∈ lC, Byte c)) ∧ (lB.length ≤ 2000 ∧ lC.length ≤ 2000)
theorem raw1_ {w0 w4 W : World} {g x : Nat} {L : List Int} {u ux : Value} {k kp cp c3 c4 base : Nat} {A3 A4 : Option Addr} {lB lC : List Int} (hD : Duo w0 w4 W g x (tape L) L u ux) (hp : Pos w0 w4 g x) (hP : Kd.R (Kd.int .u8) 5 W base (fun _ => True) (.slice (some ⟨kp, 0, none⟩) (lB ++ [171]).length cp) (lB ++ [171]))
    (hro : Rows4 w0 A3 A4 c3 c4 lB lC) (hk : W.heap[k]? = some (.cells [Value.slice (some ⟨kp, 0, none⟩) lB.length cp, Value.slice A4 lC.length c4].toArray 29 (0, 0))) (hkf : ¬ Foot g u k) (hpf : ¬ Foot g u kp) (hb : ∀ z ∈ L, Bit z) (hl : L.length ≤ 300000000) (rr : Int) (hrr : rawR L = rr) (L2 : List Int) (h2 : rawL L (lB ++ lC) = L2) :
    Calls Try.prog 22 #[.pointer (some ⟨g, 0, none⟩), .slice (some ⟨k, 0, none⟩) 2 2] W fun e w' => e = .returned (.int .i64 rr) ∧ ∃ u2, Duo w0 w4 w' g x (tape L2) L u2 ux ∧ Wto w0.heap.size W g u w' u2 := by
  subst hrr h2
  have hf : flat [(⟨some ⟨kp, 0, none⟩, cp, lB⟩ : Lie), ⟨A4, c4, lC⟩] = lB ++ lC := by simp [flat]
  have hS : ∀ j, Foot g u j → w0.heap.size ≤ j := fun j hj => hj.elim (fun e => e ▸ hD.ws.base) (fun e => Nat.le_trans hp.b4 (hD.ow j e))
  have := Raw_all g L u k 2 [⟨some ⟨kp, 0, none⟩, cp, lB⟩, ⟨A4, c4, lC⟩] W w0.heap.size hD.le hD.ws hb ⟨fun e => hkf (.inl e), fun e => hkf (.inr e)⟩ rfl hk (fun r hr => by
    simp only [List.mem_cons, List.not_mem_nil, or_false] at hr
    rcases hr with rfl | rfl
    · exact ⟨(roomy_take hP).1, fun W' hk' => (roomy_take (R_off hP hk' (fun j hj hs => by obtain rfl : kp = j := Option.some.inj hj; exact hpf hs))).2⟩
    · exact ⟨hro.2.1.1, Kd.C_kept_came (Kd.heap_int _) hro.2.1.2 hD.bl hS⟩) (fun r hr => by
    simp only [List.mem_cons, List.not_mem_nil, or_false] at hr
    rcases hr with rfl | rfl
    · exact hro.2.2.1.1
    · exact hro.2.2.1.2) (by have := hro.2.2.2; rw [hf, List.length_append]; omega) (by decide)
  rw [hf] at this
  exact duoW hD hp this
theorem raw2_ {w0 w4 W : World} {g x : Nat} {s : BW} {L : List Int} {u ux : Value} {k c3 c4 : Nat} {A3 A4 : Option Addr} {lB lC : List Int} (hD : Duo w0 w4 W g x s L u ux) (hp : Pos w0 w4 g x)
    (hro : Rows4 w0 A3 A4 c3 c4 lB lC) (hk : W.heap[k]? = some (.cells [Value.slice A3 lB.length c3, Value.slice A4 lC.length c4].toArray 29 (0, 0))) (hkf : k ≠ x ∧ ux.ownBlock ≠ some k) (hb : ∀ z ∈ L, Bit z) (hl : L.length ≤ 300000000) (rr : Int) (hrr : rawR L = rr) (L2 : List Int) (h2 : rawL L (lB ++ lC) = L2) :
    Calls Try.prog 23 #[.pointer (some ⟨x, 0, none⟩), .slice (some ⟨k, 0, none⟩) 2 2] W fun e w' => e = .returned (.int .i64 rr) ∧ ∃ u2, Duo w0 w4 w' g x s L2 u u2 ∧ Wto w0.heap.size W x ux w' u2 := by
  subst hrr h2
  have hf : flat [(⟨A3, c3, lB⟩ : Lie), ⟨A4, c4, lC⟩] = lB ++ lC := by simp [flat]
  have hS : ∀ j, Foot x ux j → w0.heap.size ≤ j := fun j hj => hj.elim (fun e => e ▸ hD.ts.base) (fun e => Nat.le_trans hp.b4 (hD.ox j e))
  have := refRaw_all x L ux k 2 [⟨A3, c3, lB⟩, ⟨A4, c4, lC⟩] W w0.heap.size hD.le hD.ts hkf rfl hk (fun r hr => by
    simp only [List.mem_cons, List.not_mem_nil, or_false] at hr
    rcases hr with rfl | rfl
    · exact ⟨hro.1.1, Kd.C_kept_came (Kd.heap_int _) hro.1.2 hD.bl hS⟩
    · exact ⟨hro.2.1.1, Kd.C_kept_came (Kd.heap_int _) hro.2.1.2 hD.bl hS⟩) (fun r hr => by
    simp only [List.mem_cons, List.not_mem_nil, or_false] at hr
    rcases hr with rfl | rfl
    · exact hro.2.2.1.1
    · exact hro.2.2.1.2) (by have := hro.2.2.2; rw [hf, List.length_append]; omega) (by decide)
  rw [hf] at this
  exact duoX hD hp this
set_option maxHeartbeats 4000000 in
set_option maxRecDepth 100000 in
theorem writes_walk (A1 : Option Addr) (ca : Nat) (acts : List S38) (w : World) (kh : Nat) (hC1 : Kd.C k38 w A1 acts.length acts) (hca : acts.length ≤ ca) (hh : rubricatorlaw1_heavy.f kh acts = some false)
    (hsm : ∀ j : Nat, j < acts.length → j < 200 → (rd_T38 acts (j : Int)).f3.length ≤ 2000 ∧ (rd_T38 acts (j : Int)).f4.length ≤ 2000) (hby : ∀ y ∈ acts, (∀ c ∈ y.f3, Byte c) ∧ (∀ c ∈ y.f4, Byte c)) :
    Calls Try.prog 4 #[.slice A1 acts.length ca] w fun e w' => e = .returned (.bool true) ∧ Below w.heap.size w w' := by
  have HC1 := Aside0.mk hC1
  have HCA := Aside0.mk hca
  have HH := Aside0.mk hh
  have HSM := Aside0.mk hsm
  have HBY := Aside0.mk hby
  clear hC1 hca hh hsm hby
  go_enter Try.func4, Try.ntmps4
  go_wp2_with (first | ((with_reducible refine gate_callee (f := 15) rfl ?_); refine goesL_ (some 10) rfl rfl Try.func15 (by kernel_rfl) rfl #[.slice A1 acts.length ca] rfl (by (try simp only [List.map_toArray, List.map_cons, List.map_nil]); first | done | rfl) ?_; refine (rubricatorlaw1_heavy.calls kh A1 ca acts false w HC1.out HCA.out HH.out).mono ?_; rintro e w2 ⟨rfl, hd⟩; refine ⟨_, rfl, ?_⟩; have HB2 := Aside0.mk hd.below; clear hd) | ((with_reducible refine gate_callee (f := 11) rfl ?_); refine goesL_ (some 11) rfl rfl Try.func11 (by kernel_rfl) rfl #[] rfl (by (try simp only [List.map_toArray, List.map_cons, List.map_nil]); first | done | rfl) ?_; refine (bits_New.made w2).mono ?_; rintro e w3 ⟨rfl, h1, h2, h3⟩; refine ⟨_, rfl, ?_⟩; have HN3 := Aside0.mk h1; have HB3 := Aside0.mk (HB2.out.trans (h2.mono HB2.out.size)); have HS3 := Aside0.mk (And.intro h3 HB2.out.size); clear h1 h2 h3))
  obtain ⟨g, hg⟩ : ∃ g, g = w2.heap.size := ⟨_, rfl⟩
  obtain ⟨x, hx⟩ : ∃ x, x = w3.heap.size := ⟨_, rfl⟩
  have H4 := Aside0.mk (show Duo w (w3.alloc (.cells #[.slice none 0 0] 36)) (w3.alloc (.cells #[.slice none 0 0] 36)) g x (tape []) [] (.slice none 0 0) (.slice none 0 0) ∧ Pos w (w3.alloc (.cells #[.slice none 0 0] 36)) g x from by
    have a1 := HS3.out.1
    have a2 := HS3.out.2
    have ha : Below w3.heap.size w3 (w3.alloc (.cells #[.slice none 0 0] 36)) := below_alloc (Below.refl _ _) _
    have hgb := HN3.out.blk
    rw [← hg] at hgb
    refine ⟨⟨⟨(ha.block g (by omega)).trans hgb, Kd.R_nil _ _ _ _ _, by omega⟩, ⟨hx ▸ blk_new w3 _, Kd.R_nil _ _ _ _ _, by omega⟩, fun k hk => by simp [Value.ownBlock] at hk, fun k hk => by simp [Value.ownBlock] at hk, fun k hk => by simp [Value.ownBlock] at hk, Kept.refl _ _, HB3.out.trans (ha.mono HB3.out.size)⟩, ⟨by omega, ?_, ?_, ?_⟩⟩
    · have := ha.size; omega
    · rw [hx]; simp
    · have := ha.size; omega)
  rw [← hg, ← hx]
  clear HN3 HB3 HB2 HS3 hg hx
  generalize w3.alloc (.cells #[.slice none 0 0] 36) = w4 at H4 ⊢
  have HPs := Aside0.mk H4.out.2
  go_loopw [5] (fun v5 wr => ∃ (i : Nat) (ii : Int) (L : List Int) (u ux : Value), v5 = .int .i64 ii ∧ ii = (i : Int) ∧ i ≤ acts.length ∧ i ≤ 200 ∧ Aside0 (∀ z ∈ L, Bit z) ∧ Aside0 (L.length ≤ i * 40000) ∧ Aside0 (Duo w w4 wr g x (tape L) L u ux)) (fun v5 _ => 200 - (intOf v5).toNat)
  case atStart =>
    exact ⟨0, 0, [], _, _, rfl, rfl, Nat.zero_le _, by omega, ⟨fun z hz => by simp at hz⟩, ⟨by simp⟩, ⟨H4.out.1⟩⟩
  case round =>
    clear H4
    obtain ⟨i, ii, L, u, ux, rfl, hii, hi1, hi2, HBi, HLn, HD⟩ := hrel
    by_cases hll : ii < (acts.length : Int) ∧ ii < 200
    · obtain ⟨hl1, hl2⟩ := hll
      have dl1 : decide (ii < (acts.length : Int)) = true := decide_eq_true hl1
      have dl2 : decide (ii < 200) = true := decide_eq_true hl2
      have p0 : 0 ≤ ii := by omega
      have dl0 : decide (0 ≤ ii) = true := decide_eq_true p0
      obtain ⟨ad, A3, c3, A4, c4, ea, hy0, hy1, hy2, hy3, hy4, hc3, hC3, hc4, hC4⟩ := at_T38 HC1.out ii p0 hl1
      cases ea
      have hx0 := pw_cell_below HD.out.bl hy0
      have hx1 := pw_cell_below HD.out.bl hy1
      have hx2 := pw_cell_below HD.out.bl hy2
      have hx3 := pw_cell_below HD.out.bl hy3
      have hx4 := pw_cell_below HD.out.bl hy4
      have hmem : rd_T38 acts ii ∈ acts := by
        unfold rd_T38
        have h : ii.toNat < acts.length := by omega
        rw [List.getD_eq_getElem?_getD, List.getElem?_eq_getElem h]
        exact List.getElem_mem h
      have hbb := HBY.out _ hmem
      have hss := HSM.out i (by omega) (by omega)
      rw [← hii] at hss
      obtain ⟨kd, hkd⟩ : ∃ k, (rd_T38 acts ii).f0 = k := ⟨_, rfl⟩
      obtain ⟨vv, hvv⟩ : ∃ k, (rd_T38 acts ii).f1 = k := ⟨_, rfl⟩
      obtain ⟨nn, hnn⟩ : ∃ k, (rd_T38 acts ii).f2 = k := ⟨_, rfl⟩
      obtain ⟨lB, hlB⟩ : ∃ k, (rd_T38 acts ii).f3 = k := ⟨_, rfl⟩
      obtain ⟨lC, hlC⟩ : ∃ k, (rd_T38 acts ii).f4 = k := ⟨_, rfl⟩
      rw [hkd] at hx0
      rw [hvv] at hx1
      rw [hnn] at hx2
      rw [hlB] at hx3 hc3 hC3 hbb hss
      rw [hlC] at hx4 hc4 hC4 hbb hss
      have t5 : wrap64 (ii + 1) = ii + 1 := by unfold wrap64; omega
      have HI := Aside0.mk (show ii = (i : Int) ∧ i < acts.length ∧ i < 200 by omega)
      have HRO := Aside0.mk (show (lB.length ≤ c3 ∧ Kd.C (Kd.int .u8) w A3 lB.length lB) ∧ (lC.length ≤ c4 ∧ Kd.C (Kd.int .u8) w A4 lC.length lC) ∧ ((∀ c ∈ lB, Byte c) ∧ (∀ c ∈ lC, Byte c)) ∧ (lB.length ≤ 2000 ∧ lC.length ≤ 2000) from ⟨⟨hc3, hC3⟩, ⟨hc4, hC4⟩, hbb, hss⟩)
      have q0 := eq_true hl1
      have HWX := Aside0.mk (show Duo w w4 (wr.alloc (.cells #[.int .i64 kd, .int .i64 vv, .int .i64 nn, .slice A3 lB.length c3, .slice A4 lC.length c4] 38)) g x (tape L) L u ux ∧ (wr.alloc (.cells #[.int .i64 kd, .int .i64 vv, .int .i64 nn, .slice A3 lB.length c3, .slice A4 lC.length c4] 38)).heap[wr.heap.size]? = some (.cells #[.int .i64 kd, .int .i64 vv, .int .i64 nn, .slice A3 lB.length c3, .slice A4 lC.length c4] 38 (0, 0)) ∧ (¬ Foot g u wr.heap.size ∧ ¬ Foot x ux wr.heap.size) ∧ w4.heap.size ≤ wr.heap.size from
        ⟨HD.out.below (below_alloc (Below.refl _ _) _), blk_new wr _, HD.out.other HPs.out HD.out.kp.1 (own_lt_ HD.out.ws.row (Nat.le_refl _)) (own_lt_ HD.out.ts.row (Nat.le_refl _)), HD.out.kp.1⟩)
      have HOW := Aside0.mk (show (∀ k, u.ownBlock = some k → k < wr.heap.size) ∧ (∀ k, ux.ownBlock = some k → k < wr.heap.size) from ⟨fun k hk => Kd.R_lt HD.out.ws.row k hk, fun k hk => Kd.R_lt HD.out.ts.row k hk⟩)
      clear hkd hvv hnn hlB hlC hl1 hl2 hii hi1 hi2 hbb hss hmem hc3 hC3 hc4 hC4 hy0 hy1 hy2 hy3 hy4
      replace p0 := eq_true p0
      by_cases k1 : kd = 1
      · as_aux_lemma =>
        have dk : (kd == 1) = true := beq_iff_eq.mpr k1
        clear k1
        obtain ⟨rr, hrr⟩ : ∃ y, laidR true vv nn = y := ⟨_, rfl⟩
        have HRR := Aside0.mk hrr
        have drr : (rr == rr) = true := by simp
        clear hrr
        obtain ⟨L2, hL2⟩ : ∃ y, laidL true L vv nn = y := ⟨_, rfl⟩
        have HB2 := Aside0.mk (show ∀ z ∈ L2, Bit z from hL2 ▸ (laid_bits true L vv nn HBi.out).1)
        have HL2 := Aside0.mk (show L2.length ≤ (i + 1) * 40000 ∧ L2.length ≤ 400000000 by have h1 : L2.length ≤ L.length + 32000   := (by rw [← hL2]; exact Nat.le_trans (laid_bits true L vv nn HBi.out).2 (by have := HRO.out.2.2.2; omega)); have := HLn.out; have := HI.out; omega)
        obtain ⟨bt, hbt⟩ : ∃ y, bytesW (tape L2) = y := ⟨_, rfl⟩
        have HBT := Aside0.mk hbt
        have HBl := Aside0.mk (show bt.length ≤ 400000000 by have := bytesW_len L2 HB2.out; rw [hbt] at this; have := HL2.out; omega)
        obtain ⟨ks, hks⟩ := same_true bt (by have := HBl.out; omega)
        have HKS := Aside0.mk hks
        have HLq := Aside0.mk hL2
        clear hL2 hbt hks
        go_wp2
        obtain ⟨b, hb⟩ : ∃ b, b = wr.heap.size := ⟨_, rfl⟩
        rw [← hb] at HWX ⊢
        generalize (wr.alloc (.cells #[.int .i64 kd, .int .i64 vv, .int .i64 nn, .slice A3 lB.length c3, .slice A4 lC.length c4] 38)) = wx at HWX ⊢
        clear hb
        have HDx := Aside0.mk (show Duo w w4 wx.drew g x (tape L) L u ux from HWX.out.1.below (Below.refl _ _).drew)
        have HBK : Aside0 (wx.drew.heap[b]? = some (.cells #[.int .i64 kd, .int .i64 vv, .int .i64 nn, .slice A3 lB.length c3, .slice A4 lC.length c4] 38 (0, 0))) := ⟨HWX.out.2.1⟩
        have HNF := Aside0.mk HWX.out.2.2.1
        refine start_ (n := 14) (S := fun w' => w'.cell? ⟨b, 1, none⟩ = some (.int .i64 vv) ∧ w'.cell? ⟨b, 2, none⟩ = some (.int .i64 nn)) (ds := []) #[false, false, false, false, false, false, false, false, false, false, false, false, false, false] (by kernel_rfl) rfl rfl ⟨blk_cell HBK.out 1, blk_cell HBK.out 2⟩ (fun hHeld => ?_)
        refine pure_ (i := 0) (N := some 34) (v := ?_) (a' := ?_) #[true, false, false, false, false, false, false, false, false, false, false, false, false, false] rfl rfl (by kernel_rfl) (fun _ _ _ h => h) (Or.inl ⟨by rfl, ?_⟩) ?_ ?_
        rotate_left
        · intro w'
          go_simp
          with_reducible rfl
        rotate_left
        · simp only [Act.put, List.setIfInBounds_toArray, List.set_cons_zero, List.set_cons_succ, i64_w, i32_w]
          rfl
        refine pure_ (i := 1) (N := some 35) (v := ?_) (a' := ?_) #[true, true, false, false, false, false, false, false, false, false, false, false, false, false] rfl rfl (by kernel_rfl) (fun _ _ _ h => h) (Or.inl ⟨by rfl, ?_⟩) ?_ ?_
        rotate_left
        · intro w'
          go_simp
          with_reducible rfl
        rotate_left
        · simp only [Act.put, List.setIfInBounds_toArray, List.set_cons_zero, List.set_cons_succ, i64_w, i32_w]
          rfl
        refine take_ (i := 2) (N := some 36) (v := ?_) (a' := ?_) #[true, true, true, false, false, false, false, false, false, false, false, false, false, false] rfl rfl (by kernel_rfl) (fun _ _ _ h => h) (Or.inl ⟨by rfl, ?_⟩) hHeld ?_ ?_
        rotate_left
        · rintro w' ⟨s0, s1⟩
          go_simp
          with_reducible rfl
        rotate_left
        · simp only [Act.put, List.setIfInBounds_toArray, List.set_cons_zero, List.set_cons_succ, i64_w, i32_w]
          rfl
        refine pure_ (i := 3) (N := some 37) (v := ?_) (a' := ?_) #[true, true, true, true, false, false, false, false, false, false, false, false, false, false] rfl rfl (by kernel_rfl) (fun _ _ _ h => h) (Or.inl ⟨by rfl, ?_⟩) ?_ ?_
        rotate_left
        · intro w'
          go_simp
          with_reducible rfl
        rotate_left
        · simp only [Act.put, List.setIfInBounds_toArray, List.set_cons_zero, List.set_cons_succ, i64_w, i32_w]
          rfl
        refine take_ (i := 4) (N := some 38) (v := ?_) (a' := ?_) #[true, true, true, true, true, false, false, false, false, false, false, false, false, false] rfl rfl (by kernel_rfl) (fun _ _ _ h => h) (Or.inl ⟨by rfl, ?_⟩) hHeld ?_ ?_
        rotate_left
        · rintro w' ⟨s0, s1⟩
          go_simp
          with_reducible rfl
        rotate_left
        · simp only [Act.put, List.setIfInBounds_toArray, List.set_cons_zero, List.set_cons_succ, i64_w, i32_w]
          rfl
        refine pure_ (i := 6) (N := some 40) (v := ?_) (a' := ?_) #[true, true, true, true, true, false, true, false, false, false, false, false, false, false] rfl rfl (by kernel_rfl) (fun _ _ _ h => h) (Or.inl ⟨by rfl, ?_⟩) ?_ ?_
        rotate_left
        · intro w'
          go_simp
          with_reducible rfl
        rotate_left
        · simp only [Act.put, List.setIfInBounds_toArray, List.set_cons_zero, List.set_cons_succ, i64_w, i32_w]
          rfl
        refine pure_ (i := 7) (N := some 41) (v := ?_) (a' := ?_) #[true, true, true, true, true, false, true, true, false, false, false, false, false, false] rfl rfl (by kernel_rfl) (fun _ _ _ h => h) (Or.inl ⟨by rfl, ?_⟩) ?_ ?_
        rotate_left
        · intro w'
          go_simp
          with_reducible rfl
        rotate_left
        · simp only [Act.put, List.setIfInBounds_toArray, List.set_cons_zero, List.set_cons_succ, i64_w, i32_w]
          rfl
        refine take_ (i := 8) (N := some 42) (v := ?_) (a' := ?_) #[true, true, true, true, true, false, true, true, true, false, false, false, false, false] rfl rfl (by kernel_rfl) (fun _ _ _ h => h) (Or.inl ⟨by rfl, ?_⟩) hHeld ?_ ?_
        rotate_left
        · rintro w' ⟨s0, s1⟩
          go_simp
          with_reducible rfl
        rotate_left
        · simp only [Act.put, List.setIfInBounds_toArray, List.set_cons_zero, List.set_cons_succ, i64_w, i32_w]
          rfl
        refine pure_ (i := 9) (N := some 43) (v := ?_) (a' := ?_) #[true, true, true, true, true, false, true, true, true, true, false, false, false, false] rfl rfl (by kernel_rfl) (fun _ _ _ h => h) (Or.inl ⟨by rfl, ?_⟩) ?_ ?_
        rotate_left
        · intro w'
          go_simp
          with_reducible rfl
        rotate_left
        · simp only [Act.put, List.setIfInBounds_toArray, List.set_cons_zero, List.set_cons_succ, i64_w, i32_w]
          rfl
        refine take_ (i := 10) (N := some 44) (v := ?_) (a' := ?_) #[true, true, true, true, true, false, true, true, true, true, true, false, false, false] rfl rfl (by kernel_rfl) (fun _ _ _ h => h) (Or.inl ⟨by rfl, ?_⟩) hHeld ?_ ?_
        rotate_left
        · rintro w' ⟨s0, s1⟩
          go_simp
          with_reducible rfl
        rotate_left
        · simp only [Act.put, List.setIfInBounds_toArray, List.set_cons_zero, List.set_cons_succ, i64_w, i32_w]
          rfl
        refine one_ (i := 5) (N := some 39) #[true, true, true, true, true, true, true, true, true, true, true, false, false, false] rfl rfl (by kernel_rfl) (by decide) (fun K hKK => ?_)
        refine goes_ Try.func12 (by kernel_rfl) rfl #[.pointer (some ⟨g, 0, none⟩), .int .i64 vv, .int .i64 nn] (by rfl) rfl rfl (by first | rfl | (simp only [List.map_toArray, List.map_cons, List.map_nil]; rfl)) ?_
        refine (duoW (r := .int .i64 rr) HDx.out HPs.out (by rw [← HRR.out]; exact Put_all g L vv nn u _ _ HDx.out.le HDx.out.ws HBi.out (by have := HLn.out; have := HI.out; omega))).mono ?_
        rintro e w5 ⟨rfl, u2, h1, h2⟩
        have HD5 := Aside0.mk h1
        have HK5 := Aside0.mk (blk_kept HBK.out h2.kept HNF.out.1)
        clear h1 h2
        refine ⟨_, rfl, ?_⟩
        refine hKK.out _ _ ⟨blk_cell HK5.out 1, blk_cell HK5.out 2⟩ (fun hHeld => ?_)
        clear hKK K
        refine norm_ (a' := ?_) ?_ ?_
        rotate_left
        · show Act.put _ (some 39) _ = _
          simp only [Act.put, List.setIfInBounds_toArray, List.set_cons_zero, List.set_cons_succ, i64_w, i32_w]
          rfl
        refine one_ (i := 11) (N := some 45) #[true, true, true, true, true, true, true, true, true, true, true, true, false, false] rfl rfl (by kernel_rfl) (by decide) (fun K hKK => ?_)
        refine goes_ Try.func16 (by kernel_rfl) rfl #[.pointer (some ⟨x, 0, none⟩), .int .i64 vv, .int .i64 nn] (by rfl) rfl rfl (by first | rfl | (simp only [List.map_toArray, List.map_cons, List.map_nil]; rfl)) ?_
        refine (duoX (r := .int .i64 rr) HD5.out HPs.out (by rw [← HRR.out]; exact refPut_all x L vv nn ux _ _ HD5.out.le HD5.out.ts (by have := HLn.out; have := HI.out; omega))).mono ?_
        rintro e w6 ⟨rfl, ux2, h1, h2⟩
        have HD6 := Aside0.mk h1
        have HK6 := Aside0.mk (blk_kept HK5.out h2.kept HNF.out.2)
        clear h1 h2
        refine ⟨_, rfl, ?_⟩
        refine hKK.out _ _ ⟨blk_cell HK6.out 1, blk_cell HK6.out 2⟩ (fun hHeld => ?_)
        clear hKK K
        refine norm_ (a' := ?_) ?_ ?_
        rotate_left
        · show Act.put _ (some 45) _ = _
          simp only [Act.put, List.setIfInBounds_toArray, List.set_cons_zero, List.set_cons_succ, i64_w, i32_w]
          rfl
        refine pure_ (i := 12) (N := some 46) (v := .bool true) (a' := ?_) #[true, true, true, true, true, true, true, true, true, true, true, true, true, false] rfl rfl (by kernel_rfl) (fun _ _ _ h => h) (Or.inl ⟨by rfl, ?_⟩) ?_ ?_
        · intro w'
          go_simp
          try rfl
        rotate_left
        · simp only [Act.put, List.setIfInBounds_toArray, List.set_cons_zero, List.set_cons_succ, i64_w, i32_w]
          rfl
        refine pure_ (i := 13) (N := some 7) (v := ?_) (a' := ?_) #[true, true, true, true, true, true, true, true, true, true, true, true, true, true] rfl rfl (by kernel_rfl) (fun _ _ _ h => h) (Or.inl ⟨by rfl, ?_⟩) ?_ ?_
        rotate_left
        · intro w'
          go_simp
          with_reducible rfl
        rotate_left
        · simp only [Act.put, List.setIfInBounds_toArray, List.set_cons_zero, List.set_cons_succ, i64_w, i32_w]
          rfl
        refine done_ (by kernel_rfl) ?_
        have HD6 := Aside0.mk (show Duo w w4 w6 g x (tape L2) L2 u2 ux2 from by rw [← HLq.out]; exact HD6.out)
        go_wp2_with (first | ((with_reducible refine gate_callee (f := 14) rfl ?_); refine gate_guard (by rfl) ?_; dsimp only; refine goesL_ (some 103) rfl rfl Try.func14 (by kernel_rfl) rfl #[.pointer (some ⟨g, 0, none⟩)] rfl (by (try simp only [List.map_toArray, List.map_cons, List.map_nil]); first | done | rfl) ?_; refine (Bytes_at g L2 bt HBT.out _ _ _ HD6.out.ws HB2.out HL2.out.2).mono ?_; rintro e w7 ⟨A7, c7, rfl, h1, h2⟩; refine ⟨_, rfl, ?_⟩; have HV7 := Aside0.mk h1; have HD7 := Aside0.mk (HD6.out.below h2); clear h1 h2) | ((with_reducible refine gate_callee (f := 26) rfl ?_); refine gate_guard (by rfl) ?_; dsimp only; refine goesL_ (some 105) rfl rfl Try.func26 (by kernel_rfl) rfl #[.pointer (some ⟨x, 0, none⟩)] rfl (by (try simp only [List.map_toArray, List.map_cons, List.map_nil]); first | done | rfl) ?_; refine (refBytes_at x L2 bt HBT.out _ _ _ HD7.out.le HD7.out.ts HB2.out HL2.out.2).mono ?_; rintro e w8 ⟨A8, c8, rfl, h1, h2⟩; refine ⟨_, rfl, ?_⟩; have HV8 := Aside0.mk h1; have HV78 := Aside0.mk (Kd.R_below HV7.out h2); have HD8 := Aside0.mk (HD7.out.below h2); clear h1 h2) | ((with_reducible refine gate_callee (f := 13) rfl ?_); refine gate_guard (by rfl) ?_; dsimp only; refine goesL_ (some 106) rfl rfl Try.func13 (by kernel_rfl) rfl #[.slice A7 bt.length c7, .slice A8 bt.length c8] rfl (by (try simp only [List.map_toArray, List.map_cons, List.map_nil]); first | done | rfl) ?_; refine (rubricatorlaw1_same.calls ks A7 c7 bt A8 c8 bt true _ (Kd.R_reads' HV78.out).2.2 (Kd.R_reads' HV78.out).2.1 (Kd.R_reads' HV8.out).2.2 (Kd.R_reads' HV8.out).2.1 HKS.out).mono ?_; rintro e w9 ⟨rfl, hd⟩; refine ⟨_, rfl, ?_⟩; have HD9 := Aside0.mk (HD8.out.below hd.below); clear hd) | ((with_reducible refine gate_callee (f := 14) rfl ?_); refine goesL_ (some 110) rfl rfl Try.func14 (by kernel_rfl) rfl #[.pointer (some ⟨g, 0, none⟩)] rfl (by (try simp only [List.map_toArray, List.map_cons, List.map_nil]); first | done | rfl) ?_; refine (Bytes_at g L2 bt HBT.out _ w9 _ HD9.out.ws HB2.out HL2.out.2).mono ?_; rintro e w10 ⟨A10, c10, rfl, h1, h2⟩; refine ⟨_, rfl, ?_⟩; have HV10 := Aside0.mk h1; have HD10 := Aside0.mk (HD9.out.below h2); have HS10 := Aside0.mk h2.size; clear h1 h2) | ((with_reducible refine gate_callee (f := 25) rfl ?_); refine goesL_ (some 111) rfl rfl Try.func25 (by kernel_rfl) rfl #[.slice A10 bt.length c10] rfl (by (try simp only [List.map_toArray, List.map_cons, List.map_nil]); first | done | rfl) ?_; refine (rubricatorlaw1_spoil.calls A10 c10 bt _ w9.heap.size HS10.out HV10.out (by have := HBl.out; omega)).mono ?_; rintro e w11 ⟨rfl, h1, h2⟩; refine ⟨_, rfl, ?_⟩; have HD11 := Aside0.mk (HD10.out.far HPs.out h1 (fun k hk => Nat.le_trans HD9.out.kp.1 ((Kd.R_bound HV10.out).1 k hk).2.1) (fun j hj hs => by have a1 := Kd.R_lt HD9.out.ws.row j hj; have a2 := ((Kd.R_bound HV10.out).1 j hs).2.1; omega) (fun j hj hs => by have a1 := Kd.R_lt HD9.out.ts.row j hj; have a2 := ((Kd.R_bound HV10.out).1 j hs).2.1; omega) (HD10.out.bl.trans (h2.mono (HD9.out.le)))); clear h1 h2))
        go_roundw
        case rel =>
          have := HI.out
          exact ⟨i + 1, _, L2, _, _, rfl, by rw [t5]; omega, by omega, by omega, HB2, ⟨HL2.out.1⟩, HD11⟩
        case measure =>
          have := HI.out
          simp only [intOf, t5]
          omega
      by_cases k2 : kd = 2
      · as_aux_lemma =>
        have dk : (kd == 1) = false := beq_eq_false_iff_ne.mpr k1
        have dk2 : (kd == 2) = true := beq_iff_eq.mpr k2
        clear k1 k2
        obtain ⟨rr, hrr⟩ : ∃ y, laidR false vv nn = y := ⟨_, rfl⟩
        have HRR := Aside0.mk hrr
        have drr : (rr == rr) = true := by simp
        clear hrr
        obtain ⟨L2, hL2⟩ : ∃ y, laidL false L vv nn = y := ⟨_, rfl⟩
        have HB2 := Aside0.mk (show ∀ z ∈ L2, Bit z from hL2 ▸ (laid_bits false L vv nn HBi.out).1)
        have HL2 := Aside0.mk (show L2.length ≤ (i + 1) * 40000 ∧ L2.length ≤ 400000000 by have h1 : L2.length ≤ L.length + 32000   := (by rw [← hL2]; exact Nat.le_trans (laid_bits false L vv nn HBi.out).2 (by have := HRO.out.2.2.2; omega)); have := HLn.out; have := HI.out; omega)
        obtain ⟨bt, hbt⟩ : ∃ y, bytesW (tape L2) = y := ⟨_, rfl⟩
        have HBT := Aside0.mk hbt
        have HBl := Aside0.mk (show bt.length ≤ 400000000 by have := bytesW_len L2 HB2.out; rw [hbt] at this; have := HL2.out; omega)
        obtain ⟨ks, hks⟩ := same_true bt (by have := HBl.out; omega)
        have HKS := Aside0.mk hks
        have HLq := Aside0.mk hL2
        clear hL2 hbt hks
        go_wp2
        obtain ⟨b, hb⟩ : ∃ b, b = wr.heap.size := ⟨_, rfl⟩
        rw [← hb] at HWX ⊢
        generalize (wr.alloc (.cells #[.int .i64 kd, .int .i64 vv, .int .i64 nn, .slice A3 lB.length c3, .slice A4 lC.length c4] 38)) = wx at HWX ⊢
        clear hb
        have HDx := Aside0.mk (show Duo w w4 wx.drew g x (tape L) L u ux from HWX.out.1.below (Below.refl _ _).drew)
        have HBK : Aside0 (wx.drew.heap[b]? = some (.cells #[.int .i64 kd, .int .i64 vv, .int .i64 nn, .slice A3 lB.length c3, .slice A4 lC.length c4] 38 (0, 0))) := ⟨HWX.out.2.1⟩
        have HNF := Aside0.mk HWX.out.2.2.1
        refine start_ (n := 14) (S := fun w' => w'.cell? ⟨b, 1, none⟩ = some (.int .i64 vv) ∧ w'.cell? ⟨b, 2, none⟩ = some (.int .i64 nn)) (ds := []) #[false, false, false, false, false, false, false, false, false, false, false, false, false, false] (by kernel_rfl) rfl rfl ⟨blk_cell HBK.out 1, blk_cell HBK.out 2⟩ (fun hHeld => ?_)
        refine pure_ (i := 0) (N := some 49) (v := ?_) (a' := ?_) #[true, false, false, false, false, false, false, false, false, false, false, false, false, false] rfl rfl (by kernel_rfl) (fun _ _ _ h => h) (Or.inl ⟨by rfl, ?_⟩) ?_ ?_
        rotate_left
        · intro w'
          go_simp
          with_reducible rfl
        rotate_left
        · simp only [Act.put, List.setIfInBounds_toArray, List.set_cons_zero, List.set_cons_succ, i64_w, i32_w]
          rfl
        refine pure_ (i := 1) (N := some 50) (v := ?_) (a' := ?_) #[true, true, false, false, false, false, false, false, false, false, false, false, false, false] rfl rfl (by kernel_rfl) (fun _ _ _ h => h) (Or.inl ⟨by rfl, ?_⟩) ?_ ?_
        rotate_left
        · intro w'
          go_simp
          with_reducible rfl
        rotate_left
        · simp only [Act.put, List.setIfInBounds_toArray, List.set_cons_zero, List.set_cons_succ, i64_w, i32_w]
          rfl
        refine take_ (i := 2) (N := some 51) (v := ?_) (a' := ?_) #[true, true, true, false, false, false, false, false, false, false, false, false, false, false] rfl rfl (by kernel_rfl) (fun _ _ _ h => h) (Or.inl ⟨by rfl, ?_⟩) hHeld ?_ ?_
        rotate_left
        · rintro w' ⟨s0, s1⟩
          go_simp
          with_reducible rfl
        rotate_left
        · simp only [Act.put, List.setIfInBounds_toArray, List.set_cons_zero, List.set_cons_succ, i64_w, i32_w]
          rfl
        refine pure_ (i := 3) (N := some 52) (v := ?_) (a' := ?_) #[true, true, true, true, false, false, false, false, false, false, false, false, false, false] rfl rfl (by kernel_rfl) (fun _ _ _ h => h) (Or.inl ⟨by rfl, ?_⟩) ?_ ?_
        rotate_left
        · intro w'
          go_simp
          with_reducible rfl
        rotate_left
        · simp only [Act.put, List.setIfInBounds_toArray, List.set_cons_zero, List.set_cons_succ, i64_w, i32_w]
          rfl
        refine take_ (i := 4) (N := some 53) (v := ?_) (a' := ?_) #[true, true, true, true, true, false, false, false, false, false, false, false, false, false] rfl rfl (by kernel_rfl) (fun _ _ _ h => h) (Or.inl ⟨by rfl, ?_⟩) hHeld ?_ ?_
        rotate_left
        · rintro w' ⟨s0, s1⟩
          go_simp
          with_reducible rfl
        rotate_left
        · simp only [Act.put, List.setIfInBounds_toArray, List.set_cons_zero, List.set_cons_succ, i64_w, i32_w]
          rfl
        refine pure_ (i := 6) (N := some 55) (v := ?_) (a' := ?_) #[true, true, true, true, true, false, true, false, false, false, false, false, false, false] rfl rfl (by kernel_rfl) (fun _ _ _ h => h) (Or.inl ⟨by rfl, ?_⟩) ?_ ?_
        rotate_left
        · intro w'
          go_simp
          with_reducible rfl
        rotate_left
        · simp only [Act.put, List.setIfInBounds_toArray, List.set_cons_zero, List.set_cons_succ, i64_w, i32_w]
          rfl
        refine pure_ (i := 7) (N := some 56) (v := ?_) (a' := ?_) #[true, true, true, true, true, false, true, true, false, false, false, false, false, false] rfl rfl (by kernel_rfl) (fun _ _ _ h => h) (Or.inl ⟨by rfl, ?_⟩) ?_ ?_
        rotate_left
        · intro w'
          go_simp
          with_reducible rfl
        rotate_left
        · simp only [Act.put, List.setIfInBounds_toArray, List.set_cons_zero, List.set_cons_succ, i64_w, i32_w]
          rfl
        refine take_ (i := 8) (N := some 57) (v := ?_) (a' := ?_) #[true, true, true, true, true, false, true, true, true, false, false, false, false, false] rfl rfl (by kernel_rfl) (fun _ _ _ h => h) (Or.inl ⟨by rfl, ?_⟩) hHeld ?_ ?_
        rotate_left
        · rintro w' ⟨s0, s1⟩
          go_simp
          with_reducible rfl
        rotate_left
        · simp only [Act.put, List.setIfInBounds_toArray, List.set_cons_zero, List.set_cons_succ, i64_w, i32_w]
          rfl
        refine pure_ (i := 9) (N := some 58) (v := ?_) (a' := ?_) #[true, true, true, true, true, false, true, true, true, true, false, false, false, false] rfl rfl (by kernel_rfl) (fun _ _ _ h => h) (Or.inl ⟨by rfl, ?_⟩) ?_ ?_
        rotate_left
        · intro w'
          go_simp
          with_reducible rfl
        rotate_left
        · simp only [Act.put, List.setIfInBounds_toArray, List.set_cons_zero, List.set_cons_succ, i64_w, i32_w]
          rfl
        refine take_ (i := 10) (N := some 59) (v := ?_) (a' := ?_) #[true, true, true, true, true, false, true, true, true, true, true, false, false, false] rfl rfl (by kernel_rfl) (fun _ _ _ h => h) (Or.inl ⟨by rfl, ?_⟩) hHeld ?_ ?_
        rotate_left
        · rintro w' ⟨s0, s1⟩
          go_simp
          with_reducible rfl
        rotate_left
        · simp only [Act.put, List.setIfInBounds_toArray, List.set_cons_zero, List.set_cons_succ, i64_w, i32_w]
          rfl
        refine one_ (i := 5) (N := some 54) #[true, true, true, true, true, true, true, true, true, true, true, false, false, false] rfl rfl (by kernel_rfl) (by decide) (fun K hKK => ?_)
        refine goes_ Try.func17 (by kernel_rfl) rfl #[.pointer (some ⟨g, 0, none⟩), .int .i64 vv, .int .i64 nn] (by rfl) rfl rfl (by first | rfl | (simp only [List.map_toArray, List.map_cons, List.map_nil]; rfl)) ?_
        refine (duoW (r := .int .i64 rr) HDx.out HPs.out (by rw [← HRR.out]; exact Code_all g L vv nn u _ _ HDx.out.le HDx.out.ws HBi.out (by have := HLn.out; have := HI.out; omega))).mono ?_
        rintro e w5 ⟨rfl, u2, h1, h2⟩
        have HD5 := Aside0.mk h1
        have HK5 := Aside0.mk (blk_kept HBK.out h2.kept HNF.out.1)
        clear h1 h2
        refine ⟨_, rfl, ?_⟩
        refine hKK.out _ _ ⟨blk_cell HK5.out 1, blk_cell HK5.out 2⟩ (fun hHeld => ?_)
        clear hKK K
        refine norm_ (a' := ?_) ?_ ?_
        rotate_left
        · show Act.put _ (some 54) _ = _
          simp only [Act.put, List.setIfInBounds_toArray, List.set_cons_zero, List.set_cons_succ, i64_w, i32_w]
          rfl
        refine one_ (i := 11) (N := some 60) #[true, true, true, true, true, true, true, true, true, true, true, true, false, false] rfl rfl (by kernel_rfl) (by decide) (fun K hKK => ?_)
        refine goes_ Try.func18 (by kernel_rfl) rfl #[.pointer (some ⟨x, 0, none⟩), .int .i64 vv, .int .i64 nn] (by rfl) rfl rfl (by first | rfl | (simp only [List.map_toArray, List.map_cons, List.map_nil]; rfl)) ?_
        refine (duoX (r := .int .i64 rr) HD5.out HPs.out (by rw [← HRR.out]; exact refCode_all x L vv nn ux _ _ HD5.out.le HD5.out.ts (by have := HLn.out; have := HI.out; omega))).mono ?_
        rintro e w6 ⟨rfl, ux2, h1, h2⟩
        have HD6 := Aside0.mk h1
        have HK6 := Aside0.mk (blk_kept HK5.out h2.kept HNF.out.2)
        clear h1 h2
        refine ⟨_, rfl, ?_⟩
        refine hKK.out _ _ ⟨blk_cell HK6.out 1, blk_cell HK6.out 2⟩ (fun hHeld => ?_)
        clear hKK K
        refine norm_ (a' := ?_) ?_ ?_
        rotate_left
        · show Act.put _ (some 60) _ = _
          simp only [Act.put, List.setIfInBounds_toArray, List.set_cons_zero, List.set_cons_succ, i64_w, i32_w]
          rfl
        refine pure_ (i := 12) (N := some 61) (v := .bool true) (a' := ?_) #[true, true, true, true, true, true, true, true, true, true, true, true, true, false] rfl rfl (by kernel_rfl) (fun _ _ _ h => h) (Or.inl ⟨by rfl, ?_⟩) ?_ ?_
        · intro w'
          go_simp
          try rfl
        rotate_left
        · simp only [Act.put, List.setIfInBounds_toArray, List.set_cons_zero, List.set_cons_succ, i64_w, i32_w]
          rfl
        refine pure_ (i := 13) (N := some 7) (v := ?_) (a' := ?_) #[true, true, true, true, true, true, true, true, true, true, true, true, true, true] rfl rfl (by kernel_rfl) (fun _ _ _ h => h) (Or.inl ⟨by rfl, ?_⟩) ?_ ?_
        rotate_left
        · intro w'
          go_simp
          with_reducible rfl
        rotate_left
        · simp only [Act.put, List.setIfInBounds_toArray, List.set_cons_zero, List.set_cons_succ, i64_w, i32_w]
          rfl
        refine done_ (by kernel_rfl) ?_
        have HD6 := Aside0.mk (show Duo w w4 w6 g x (tape L2) L2 u2 ux2 from by rw [← HLq.out]; exact HD6.out)
        go_wp2_with (first | ((with_reducible refine gate_callee (f := 14) rfl ?_); refine gate_guard (by rfl) ?_; dsimp only; refine goesL_ (some 103) rfl rfl Try.func14 (by kernel_rfl) rfl #[.pointer (some ⟨g, 0, none⟩)] rfl (by (try simp only [List.map_toArray, List.map_cons, List.map_nil]); first | done | rfl) ?_; refine (Bytes_at g L2 bt HBT.out _ _ _ HD6.out.ws HB2.out HL2.out.2).mono ?_; rintro e w7 ⟨A7, c7, rfl, h1, h2⟩; refine ⟨_, rfl, ?_⟩; have HV7 := Aside0.mk h1; have HD7 := Aside0.mk (HD6.out.below h2); clear h1 h2) | ((with_reducible refine gate_callee (f := 26) rfl ?_); refine gate_guard (by rfl) ?_; dsimp only; refine goesL_ (some 105) rfl rfl Try.func26 (by kernel_rfl) rfl #[.pointer (some ⟨x, 0, none⟩)] rfl (by (try simp only [List.map_toArray, List.map_cons, List.map_nil]); first | done | rfl) ?_; refine (refBytes_at x L2 bt HBT.out _ _ _ HD7.out.le HD7.out.ts HB2.out HL2.out.2).mono ?_; rintro e w8 ⟨A8, c8, rfl, h1, h2⟩; refine ⟨_, rfl, ?_⟩; have HV8 := Aside0.mk h1; have HV78 := Aside0.mk (Kd.R_below HV7.out h2); have HD8 := Aside0.mk (HD7.out.below h2); clear h1 h2) | ((with_reducible refine gate_callee (f := 13) rfl ?_); refine gate_guard (by rfl) ?_; dsimp only; refine goesL_ (some 106) rfl rfl Try.func13 (by kernel_rfl) rfl #[.slice A7 bt.length c7, .slice A8 bt.length c8] rfl (by (try simp only [List.map_toArray, List.map_cons, List.map_nil]); first | done | rfl) ?_; refine (rubricatorlaw1_same.calls ks A7 c7 bt A8 c8 bt true _ (Kd.R_reads' HV78.out).2.2 (Kd.R_reads' HV78.out).2.1 (Kd.R_reads' HV8.out).2.2 (Kd.R_reads' HV8.out).2.1 HKS.out).mono ?_; rintro e w9 ⟨rfl, hd⟩; refine ⟨_, rfl, ?_⟩; have HD9 := Aside0.mk (HD8.out.below hd.below); clear hd) | ((with_reducible refine gate_callee (f := 14) rfl ?_); refine goesL_ (some 110) rfl rfl Try.func14 (by kernel_rfl) rfl #[.pointer (some ⟨g, 0, none⟩)] rfl (by (try simp only [List.map_toArray, List.map_cons, List.map_nil]); first | done | rfl) ?_; refine (Bytes_at g L2 bt HBT.out _ w9 _ HD9.out.ws HB2.out HL2.out.2).mono ?_; rintro e w10 ⟨A10, c10, rfl, h1, h2⟩; refine ⟨_, rfl, ?_⟩; have HV10 := Aside0.mk h1; have HD10 := Aside0.mk (HD9.out.below h2); have HS10 := Aside0.mk h2.size; clear h1 h2) | ((with_reducible refine gate_callee (f := 25) rfl ?_); refine goesL_ (some 111) rfl rfl Try.func25 (by kernel_rfl) rfl #[.slice A10 bt.length c10] rfl (by (try simp only [List.map_toArray, List.map_cons, List.map_nil]); first | done | rfl) ?_; refine (rubricatorlaw1_spoil.calls A10 c10 bt _ w9.heap.size HS10.out HV10.out (by have := HBl.out; omega)).mono ?_; rintro e w11 ⟨rfl, h1, h2⟩; refine ⟨_, rfl, ?_⟩; have HD11 := Aside0.mk (HD10.out.far HPs.out h1 (fun k hk => Nat.le_trans HD9.out.kp.1 ((Kd.R_bound HV10.out).1 k hk).2.1) (fun j hj hs => by have a1 := Kd.R_lt HD9.out.ws.row j hj; have a2 := ((Kd.R_bound HV10.out).1 j hs).2.1; omega) (fun j hj hs => by have a1 := Kd.R_lt HD9.out.ts.row j hj; have a2 := ((Kd.R_bound HV10.out).1 j hs).2.1; omega) (HD10.out.bl.trans (h2.mono (HD9.out.le)))); clear h1 h2))
        go_roundw
        case rel =>
          have := HI.out
          exact ⟨i + 1, _, L2, _, _, rfl, by rw [t5]; omega, by omega, by omega, HB2, ⟨HL2.out.1⟩, HD11⟩
        case measure =>
          have := HI.out
          simp only [intOf, t5]
          omega
      by_cases k3 : kd = 3
      · as_aux_lemma =>
        have dk : (kd == 1) = false := beq_eq_false_iff_ne.mpr k1
        have dk2 : (kd == 2) = false := beq_eq_false_iff_ne.mpr k2
        have dk3 : (kd == 3) = true := beq_iff_eq.mpr k3
        clear k1 k2 k3
        obtain ⟨L2, hL2⟩ : ∃ y, padL L = y := ⟨_, rfl⟩
        have HB2 := Aside0.mk (show ∀ z ∈ L2, Bit z from hL2 ▸ (pad_bits L HBi.out).1)
        have HL2 := Aside0.mk (show L2.length ≤ (i + 1) * 40000 ∧ L2.length ≤ 400000000 by have h1 : L2.length ≤ L.length + 32000   := (by rw [← hL2]; exact Nat.le_trans (pad_bits L HBi.out).2 (by have := HRO.out.2.2.2; omega)); have := HLn.out; have := HI.out; omega)
        obtain ⟨bt, hbt⟩ : ∃ y, bytesW (tape L2) = y := ⟨_, rfl⟩
        have HBT := Aside0.mk hbt
        have HBl := Aside0.mk (show bt.length ≤ 400000000 by have := bytesW_len L2 HB2.out; rw [hbt] at this; have := HL2.out; omega)
        obtain ⟨ks, hks⟩ := same_true bt (by have := HBl.out; omega)
        have HKS := Aside0.mk hks
        have HLq := Aside0.mk hL2
        clear hL2 hbt hks
        have HDx := Aside0.mk HWX.out.1
        go_wp2_with (first | ((with_reducible refine gate_callee (f := 19) rfl ?_); refine goesL_ (some 65) rfl rfl Try.func19 (by kernel_rfl) rfl #[.pointer (some ⟨g, 0, none⟩)] rfl (by (try simp only [List.map_toArray, List.map_cons, List.map_nil]); first | done | rfl) ?_; refine (duoW HDx.out HPs.out (Align_all g L u _ _ HDx.out.le HDx.out.ws HBi.out (by have := HLn.out; have := HI.out; omega))).mono ?_; rintro e w5 ⟨rfl, u2, h1, h2⟩; refine ⟨_, rfl, ?_⟩; have HD5 := Aside0.mk h1; clear h1 h2) | ((with_reducible refine gate_callee (f := 20) rfl ?_); refine goesL_ (some 67) rfl rfl Try.func20 (by kernel_rfl) rfl #[.pointer (some ⟨x, 0, none⟩)] rfl (by (try simp only [List.map_toArray, List.map_cons, List.map_nil]); first | done | rfl) ?_; refine (duoX HD5.out HPs.out (refAlign_all x L ux _ _ HD5.out.le HD5.out.ts (by have := HLn.out; have := HI.out; omega))).mono ?_; rintro e w6 ⟨rfl, ux2, h1, h2⟩; refine ⟨_, rfl, ?_⟩; have HD6 := Aside0.mk (show Duo w w4 w6 g x (tape L2) L2 u2 ux2 from by rw [← HLq.out]; exact h1); clear h1 h2) | ((with_reducible refine gate_callee (f := 14) rfl ?_); refine gate_guard (by rfl) ?_; dsimp only; refine goesL_ (some 103) rfl rfl Try.func14 (by kernel_rfl) rfl #[.pointer (some ⟨g, 0, none⟩)] rfl (by (try simp only [List.map_toArray, List.map_cons, List.map_nil]); first | done | rfl) ?_; refine (Bytes_at g L2 bt HBT.out _ _ _ HD6.out.ws HB2.out HL2.out.2).mono ?_; rintro e w7 ⟨A7, c7, rfl, h1, h2⟩; refine ⟨_, rfl, ?_⟩; have HV7 := Aside0.mk h1; have HD7 := Aside0.mk (HD6.out.below h2); clear h1 h2) | ((with_reducible refine gate_callee (f := 26) rfl ?_); refine gate_guard (by rfl) ?_; dsimp only; refine goesL_ (some 105) rfl rfl Try.func26 (by kernel_rfl) rfl #[.pointer (some ⟨x, 0, none⟩)] rfl (by (try simp only [List.map_toArray, List.map_cons, List.map_nil]); first | done | rfl) ?_; refine (refBytes_at x L2 bt HBT.out _ _ _ HD7.out.le HD7.out.ts HB2.out HL2.out.2).mono ?_; rintro e w8 ⟨A8, c8, rfl, h1, h2⟩; refine ⟨_, rfl, ?_⟩; have HV8 := Aside0.mk h1; have HV78 := Aside0.mk (Kd.R_below HV7.out h2); have HD8 := Aside0.mk (HD7.out.below h2); clear h1 h2) | ((with_reducible refine gate_callee (f := 13) rfl ?_); refine gate_guard (by rfl) ?_; dsimp only; refine goesL_ (some 106) rfl rfl Try.func13 (by kernel_rfl) rfl #[.slice A7 bt.length c7, .slice A8 bt.length c8] rfl (by (try simp only [List.map_toArray, List.map_cons, List.map_nil]); first | done | rfl) ?_; refine (rubricatorlaw1_same.calls ks A7 c7 bt A8 c8 bt true _ (Kd.R_reads' HV78.out).2.2 (Kd.R_reads' HV78.out).2.1 (Kd.R_reads' HV8.out).2.2 (Kd.R_reads' HV8.out).2.1 HKS.out).mono ?_; rintro e w9 ⟨rfl, hd⟩; refine ⟨_, rfl, ?_⟩; have HD9 := Aside0.mk (HD8.out.below hd.below); clear hd) | ((with_reducible refine gate_callee (f := 14) rfl ?_); refine goesL_ (some 110) rfl rfl Try.func14 (by kernel_rfl) rfl #[.pointer (some ⟨g, 0, none⟩)] rfl (by (try simp only [List.map_toArray, List.map_cons, List.map_nil]); first | done | rfl) ?_; refine (Bytes_at g L2 bt HBT.out _ w9 _ HD9.out.ws HB2.out HL2.out.2).mono ?_; rintro e w10 ⟨A10, c10, rfl, h1, h2⟩; refine ⟨_, rfl, ?_⟩; have HV10 := Aside0.mk h1; have HD10 := Aside0.mk (HD9.out.below h2); have HS10 := Aside0.mk h2.size; clear h1 h2) | ((with_reducible refine gate_callee (f := 25) rfl ?_); refine goesL_ (some 111) rfl rfl Try.func25 (by kernel_rfl) rfl #[.slice A10 bt.length c10] rfl (by (try simp only [List.map_toArray, List.map_cons, List.map_nil]); first | done | rfl) ?_; refine (rubricatorlaw1_spoil.calls A10 c10 bt _ w9.heap.size HS10.out HV10.out (by have := HBl.out; omega)).mono ?_; rintro e w11 ⟨rfl, h1, h2⟩; refine ⟨_, rfl, ?_⟩; have HD11 := Aside0.mk (HD10.out.far HPs.out h1 (fun k hk => Nat.le_trans HD9.out.kp.1 ((Kd.R_bound HV10.out).1 k hk).2.1) (fun j hj hs => by have a1 := Kd.R_lt HD9.out.ws.row j hj; have a2 := ((Kd.R_bound HV10.out).1 j hs).2.1; omega) (fun j hj hs => by have a1 := Kd.R_lt HD9.out.ts.row j hj; have a2 := ((Kd.R_bound HV10.out).1 j hs).2.1; omega) (HD10.out.bl.trans (h2.mono (HD9.out.le)))); clear h1 h2))
        go_roundw
        case rel =>
          have := HI.out
          exact ⟨i + 1, _, L2, _, _, rfl, by rw [t5]; omega, by omega, by omega, HB2, ⟨HL2.out.1⟩, HD11⟩
        case measure =>
          have := HI.out
          simp only [intOf, t5]
          omega
      by_cases k4 : kd = 4
      · as_aux_lemma =>
        have dk : (kd == 1) = false := beq_eq_false_iff_ne.mpr k1
        have dk2 : (kd == 2) = false := beq_eq_false_iff_ne.mpr k2
        have dk3 : (kd == 3) = false := beq_eq_false_iff_ne.mpr k3
        have dk4 : (kd == 4) = true := beq_iff_eq.mpr k4
        clear k1 k2 k3 k4
        obtain ⟨rr, hrr⟩ : ∃ y, rawR L = y := ⟨_, rfl⟩
        have HRR := Aside0.mk hrr
        have drr : (rr == rr) = true := by simp
        clear hrr
        obtain ⟨L2, hL2⟩ : ∃ y, rawL L (lB ++ lC) = y := ⟨_, rfl⟩
        have HB2 := Aside0.mk (show ∀ z ∈ L2, Bit z from hL2 ▸ (show (∀ z ∈ rawL L (lB ++ lC), Bit z) ∧ (rawL L (lB ++ lC)).length ≤ L.length + 8 * (lB ++ lC).length from raw_bits L (lB ++ lC) HBi.out).1)
        have HL2 := Aside0.mk (show L2.length ≤ (i + 1) * 40000 ∧ L2.length ≤ 400000000 by have h1 : L2.length ≤ L.length + 32000   := (by rw [← hL2]; exact Nat.le_trans (show (∀ z ∈ rawL L (lB ++ lC), Bit z) ∧ (rawL L (lB ++ lC)).length ≤ L.length + 8 * (lB ++ lC).length from raw_bits L (lB ++ lC) HBi.out).2 (by have := HRO.out.2.2.2; rw [List.length_append]; omega)); have := HLn.out; have := HI.out; omega)
        obtain ⟨bt, hbt⟩ : ∃ y, bytesW (tape L2) = y := ⟨_, rfl⟩
        have HBT := Aside0.mk hbt
        have HBl := Aside0.mk (show bt.length ≤ 400000000 by have := bytesW_len L2 HB2.out; rw [hbt] at this; have := HL2.out; omega)
        obtain ⟨ks, hks⟩ := same_true bt (by have := HBl.out; omega)
        have HKS := Aside0.mk hks
        have HLq := Aside0.mk hL2
        clear hL2 hbt hks
        obtain ⟨kt, hkt⟩ := stands_true lB HRO.out.2.2.2.1
        have HKT := Aside0.mk hkt
        have HRQ := Aside0.mk (Go.Proofs.Ytblneonbilbaiaa.Same.roomy_eq lB (by have := HRO.out.2.2.2; omega))
        clear hkt
        have HSZ := Aside0.mk (show wr.heap.size < (wr.alloc (.cells #[.int .i64 kd, .int .i64 vv, .int .i64 nn, .slice A3 lB.length c3, .slice A4 lC.length c4] 38)).heap.size by simp)
        have hbw : wr.heap.size = wr.heap.size := rfl
        obtain ⟨b, hb⟩ : ∃ b, b = wr.heap.size := ⟨_, rfl⟩
        rw [← hb] at HWX
        have HDx := Aside0.mk HWX.out.1
        have s3 : (wr.alloc (.cells #[.int .i64 kd, .int .i64 vv, .int .i64 nn, .slice A3 lB.length c3, .slice A4 lC.length c4] 38)).cell? ⟨b, 3, none⟩ = some (.slice A3 lB.length c3) := blk_cell HWX.out.2.1 3
        have s3q := blk_lt HWX.out.2.1
        rw [hb] at s3 s3q
        clear hbw
        go_wp2_with ((with_reducible refine gate_callee (f := 21) rfl ?_); refine goesL_ (some 72) rfl rfl Try.func21 (by kernel_rfl) rfl #[.slice A3 lB.length c3] rfl (by (try simp only [List.map_toArray, List.map_cons, List.map_nil]); first | done | rfl) ?_; refine (rubricatorlaw1_roomy.calls A3 c3 lB (lB ++ [171]) _ (Kd.C_below HRO.out.1.2 HDx.out.bl) HRO.out.1.1 HRQ.out).mono ?_; rintro e wq ⟨v1, rfl, h1, h2⟩; refine ⟨_, rfl, ?_⟩; obtain ⟨kp, cp, ep, eo⟩ := R_form1 h1 (by simp); subst ep; obtain ⟨hcp, hCp⟩ := roomy_take h1; have HP1 := Aside0.mk h1; have HCP := Aside0.mk hcp; have HDq := Aside0.mk (HDx.out.below h2); have HSq := Aside0.mk h2.size; have HBq := Aside0.mk (show wq.heap[b]? = some (.cells #[.int .i64 kd, .int .i64 vv, .int .i64 nn, .slice A3 lB.length c3, .slice A4 lC.length c4] 38 (0, 0)) from (h2.block b (blk_lt HWX.out.2.1)).trans HWX.out.2.1); have cu1 : ((lB.length : Int) ≤ (cp : Int)) = True := eq_true (by omega); have cu2 : (lB.length ≤ cp) = True := eq_true hcp; clear h1 h2 hCp hcp eo)
        rw [← hb]
        clear hb
        have HNF := Aside0.mk HWX.out.2.2.1
        have HNP2 := Aside0.mk (show w4.heap.size ≤ kp ∧ wr.heap.size ≤ kp from by
          have h1 := ((Kd.R_bound HP1.out).1 kp rfl).2.1
          have h2 := HDx.out.kp.1
          have h3 := HSZ.out
          omega)
        have HNP := Aside0.mk (HDx.out.other HPs.out HNP2.out.1 (fun e => by have := HOW.out.1 _ e; have := HNP2.out; omega) (fun e => by have := HOW.out.2 _ e; have := HNP2.out; omega))
        have HDv0 := Aside0.mk (show Duo w w4 wq.drew g x (tape L) L u ux from HDq.out.below (Below.refl _ _).drew)
        have HBv0 : Aside0 (wq.drew.heap[b]? = some (.cells #[.int .i64 kd, .int .i64 vv, .int .i64 nn, .slice A3 lB.length c3, .slice A4 lC.length c4] 38 (0, 0))) := ⟨HBq.out⟩
        have HPv0 := Aside0.mk (Kd.R_drew HP1.out)
        have HZv0 := Aside0.mk (show wq.heap.size ≤ wq.drew.heap.size ∧ wr.heap.size ≤ wq.drew.heap.size ∧ kp < wq.drew.heap.size from ⟨Nat.le_refl _, by have h1 := HSZ.out; have h2 := HSq.out; exact Nat.le_trans (Nat.le_of_lt h1) h2, Kd.R_lt HP1.out kp rfl⟩)
        clear s3 s3q
        refine start_ (n := 25) (S := (fun w' => w'.cell? ⟨b, 3, none⟩ = some (.slice A3 lB.length c3) ∧ w'.cell? ⟨b, 4, none⟩ = some (.slice A4 lC.length c4))) (ds := []) #[false, false, false, false, false, false, false, false, false, false, false, false, false, false, false, false, false, false, false, false, false, false, false, false, false] (by kernel_rfl) rfl rfl ⟨blk_cell HBv0.out 3, blk_cell HBv0.out 4⟩ (fun hHeld => ?_)
        generalize wq.drew = v0 at HDv0 HBv0 HPv0 HZv0 hHeld ⊢
        refine pure_ (i := 0) (N := some 73) (v := ?_) (a' := ?_) #[true, false, false, false, false, false, false, false, false, false, false, false, false, false, false, false, false, false, false, false, false, false, false, false, false] rfl rfl (by kernel_rfl) (fun _ _ _ h => h) (Or.inl ⟨by rfl, ?_⟩) ?_ ?_
        rotate_left
        · intro w'
          go_simp
          with_reducible rfl
        rotate_left
        · simp only [Act.put, List.setIfInBounds_toArray, List.set_cons_zero, List.set_cons_succ, i64_w, i32_w]
          rfl
        refine pure_ (i := 1) (N := some 74) (v := ?_) (a' := ?_) #[true, true, false, false, false, false, false, false, false, false, false, false, false, false, false, false, false, false, false, false, false, false, false, false, false] rfl rfl (by kernel_rfl) (fun _ _ _ h => h) (Or.inl ⟨by rfl, ?_⟩) ?_ ?_
        rotate_left
        · intro w'
          go_simp
          with_reducible rfl
        rotate_left
        · simp only [Act.put, List.setIfInBounds_toArray, List.set_cons_zero, List.set_cons_succ, i64_w, i32_w]
          rfl
        refine pure_ (i := 2) (N := some 75) (v := ?_) (a' := ?_) #[true, true, true, false, false, false, false, false, false, false, false, false, false, false, false, false, false, false, false, false, false, false, false, false, false] rfl rfl (by kernel_rfl) (fun _ _ _ h => h) (Or.inl ⟨by rfl, ?_⟩) ?_ ?_
        rotate_left
        · intro w'
          go_simp
          with_reducible rfl
        rotate_left
        · simp only [Act.put, List.setIfInBounds_toArray, List.set_cons_zero, List.set_cons_succ, i64_w, i32_w]
          rfl
        refine take_ (i := 3) (N := some 76) (v := ?_) (a' := ?_) #[true, true, true, true, false, false, false, false, false, false, false, false, false, false, false, false, false, false, false, false, false, false, false, false, false] rfl rfl (by kernel_rfl) (fun _ _ _ h => h) (Or.inl ⟨by rfl, ?_⟩) hHeld ?_ ?_
        rotate_left
        · rintro w' ⟨s0, s1⟩
          go_simp
          with_reducible rfl
        rotate_left
        · simp only [Act.put, List.setIfInBounds_toArray, List.set_cons_zero, List.set_cons_succ, i64_w, i32_w]
          rfl
        refine pure_ (i := 4) (N := some 77) (v := ?_) (a' := ?_) #[true, true, true, true, true, false, false, false, false, false, false, false, false, false, false, false, false, false, false, false, false, false, false, false, false] rfl rfl (by kernel_rfl) (fun _ _ _ h => h) (Or.inl ⟨by rfl, ?_⟩) ?_ ?_
        rotate_left
        · intro w'
          go_simp
          with_reducible rfl
        rotate_left
        · simp only [Act.put, List.setIfInBounds_toArray, List.set_cons_zero, List.set_cons_succ, i64_w, i32_w]
          rfl
        refine pure_ (i := 5) (N := some 78) (v := ?_) (a' := ?_) #[true, true, true, true, true, true, false, false, false, false, false, false, false, false, false, false, false, false, false, false, false, false, false, false, false] rfl rfl (by kernel_rfl) (fun _ _ _ h => h) (Or.inl ⟨by rfl, ?_⟩) ?_ ?_
        rotate_left
        · intro w'
          go_simp
          with_reducible rfl
        rotate_left
        · simp only [Act.put, List.setIfInBounds_toArray, List.set_cons_zero, List.set_cons_succ, i64_w, i32_w]
          rfl
        refine pure_ (i := 6) (N := some 79) (v := ?_) (a' := ?_) #[true, true, true, true, true, true, true, false, false, false, false, false, false, false, false, false, false, false, false, false, false, false, false, false, false] rfl rfl (by kernel_rfl) (fun _ _ _ h => h) (Or.inl ⟨by rfl, ?_⟩) ?_ ?_
        rotate_left
        · intro w'
          go_simp
          with_reducible rfl
        rotate_left
        · simp only [Act.put, List.setIfInBounds_toArray, List.set_cons_zero, List.set_cons_succ, i64_w, i32_w]
          rfl
        refine take_ (i := 7) (N := some 80) (v := ?_) (a' := ?_) #[true, true, true, true, true, true, true, true, false, false, false, false, false, false, false, false, false, false, false, false, false, false, false, false, false] rfl rfl (by kernel_rfl) (fun _ _ _ h => h) (Or.inl ⟨by rfl, ?_⟩) hHeld ?_ ?_
        rotate_left
        · rintro w' ⟨s0, s1⟩
          go_simp
          with_reducible rfl
        rotate_left
        · simp only [Act.put, List.setIfInBounds_toArray, List.set_cons_zero, List.set_cons_succ, i64_w, i32_w]
          rfl
        refine pure_ (i := 10) (N := some 83) (v := ?_) (a' := ?_) #[true, true, true, true, true, true, true, true, false, false, true, false, false, false, false, false, false, false, false, false, false, false, false, false, false] rfl rfl (by kernel_rfl) (fun _ _ _ h => h) (Or.inl ⟨by rfl, ?_⟩) ?_ ?_
        rotate_left
        · intro w'
          go_simp
          with_reducible rfl
        rotate_left
        · simp only [Act.put, List.setIfInBounds_toArray, List.set_cons_zero, List.set_cons_succ, i64_w, i32_w]
          rfl
        refine pure_ (i := 11) (N := some 84) (v := ?_) (a' := ?_) #[true, true, true, true, true, true, true, true, false, false, true, true, false, false, false, false, false, false, false, false, false, false, false, false, false] rfl rfl (by kernel_rfl) (fun _ _ _ h => h) (Or.inl ⟨by rfl, ?_⟩) ?_ ?_
        rotate_left
        · intro w'
          go_simp
          with_reducible rfl
        rotate_left
        · simp only [Act.put, List.setIfInBounds_toArray, List.set_cons_zero, List.set_cons_succ, i64_w, i32_w]
          rfl
        refine take_ (i := 12) (N := some 85) (v := ?_) (a' := ?_) #[true, true, true, true, true, true, true, true, false, false, true, true, true, false, false, false, false, false, false, false, false, false, false, false, false] rfl rfl (by kernel_rfl) (fun _ _ _ h => h) (Or.inl ⟨by rfl, ?_⟩) hHeld ?_ ?_
        rotate_left
        · rintro w' ⟨s0, s1⟩
          go_simp
          with_reducible rfl
        rotate_left
        · simp only [Act.put, List.setIfInBounds_toArray, List.set_cons_zero, List.set_cons_succ, i64_w, i32_w]
          rfl
        refine pure_ (i := 13) (N := some 86) (v := ?_) (a' := ?_) #[true, true, true, true, true, true, true, true, false, false, true, true, true, true, false, false, false, false, false, false, false, false, false, false, false] rfl rfl (by kernel_rfl) (fun _ _ _ h => h) (Or.inl ⟨by rfl, ?_⟩) ?_ ?_
        rotate_left
        · intro w'
          go_simp
          with_reducible rfl
        rotate_left
        · simp only [Act.put, List.setIfInBounds_toArray, List.set_cons_zero, List.set_cons_succ, i64_w, i32_w]
          rfl
        refine take_ (i := 14) (N := some 87) (v := ?_) (a' := ?_) #[true, true, true, true, true, true, true, true, false, false, true, true, true, true, true, false, false, false, false, false, false, false, false, false, false] rfl rfl (by kernel_rfl) (fun _ _ _ h => h) (Or.inl ⟨by rfl, ?_⟩) hHeld ?_ ?_
        rotate_left
        · rintro w' ⟨s0, s1⟩
          go_simp
          with_reducible rfl
        rotate_left
        · simp only [Act.put, List.setIfInBounds_toArray, List.set_cons_zero, List.set_cons_succ, i64_w, i32_w]
          rfl
        refine two_ (i := 8) (j := 15) (Ni := some 81) (Nj := some 88) #[true, true, true, true, true, true, true, true, true, false, true, true, true, true, true, false, false, false, false, false, false, false, false, false, false] #[true, true, true, true, true, true, true, true, false, false, true, true, true, true, true, true, false, false, false, false, false, false, false, false, false] rfl rfl rfl rfl (by kernel_rfl) (by decide) (by decide) (fun K hKK => ?_) (fun K hKK => ?_)
        · as_aux_lemma =>
          refine value_ (w1 := v0.alloc (.cells [Value.slice (some ⟨kp, 0, none⟩) lB.length cp, Value.slice A4 lC.length c4].toArray 29)) (v := .slice (some ⟨v0.heap.size, 0, none⟩) 2 2) (by rfl) rfl ?_ ?_
          · go_simp
            try rfl
          have hawA : Below v0.heap.size v0 (v0.alloc (.cells [Value.slice (some ⟨kp, 0, none⟩) lB.length cp, Value.slice A4 lC.length c4].toArray 29)) := below_alloc (Below.refl _ _) _
          have HDwA := Aside0.mk (HDv0.out.below hawA)
          have HBwA := Aside0.mk (blk_alloc HBv0.out (.cells [Value.slice (some ⟨kp, 0, none⟩) lB.length cp, Value.slice A4 lC.length c4].toArray 29))
          have HPwA := Aside0.mk (Kd.R_below HPv0.out hawA)
          have HK1wA := Aside0.mk (show (v0.alloc (.cells [Value.slice (some ⟨kp, 0, none⟩) lB.length cp, Value.slice A4 lC.length c4].toArray 29)).heap[v0.heap.size]? = some (.cells [Value.slice (some ⟨kp, 0, none⟩) lB.length cp, Value.slice A4 lC.length c4].toArray 29 (0, 0)) ∧ wq.heap.size ≤ v0.heap.size ∧ u.ownBlock ≠ some v0.heap.size ∧ kp ≠ v0.heap.size from ⟨blk_new v0 _, HZv0.out.1, fun e => by have := HOW.out.1 _ e; have := HZv0.out; omega, fun e => by have := HZv0.out; omega⟩)
          have HZwA := Aside0.mk (show wq.heap.size ≤ (v0.alloc (.cells [Value.slice (some ⟨kp, 0, none⟩) lB.length cp, Value.slice A4 lC.length c4].toArray 29)).heap.size ∧ wr.heap.size ≤ (v0.alloc (.cells [Value.slice (some ⟨kp, 0, none⟩) lB.length cp, Value.slice A4 lC.length c4].toArray 29)).heap.size ∧ kp < (v0.alloc (.cells [Value.slice (some ⟨kp, 0, none⟩) lB.length cp, Value.slice A4 lC.length c4].toArray 29)).heap.size from ⟨Nat.le_trans HZv0.out.1 hawA.size, Nat.le_trans HZv0.out.2.1 hawA.size, Nat.lt_of_lt_of_le HZv0.out.2.2 hawA.size⟩)
          clear hawA
          refine hKK.out _ _ ⟨blk_cell HBwA.out 3, blk_cell HBwA.out 4⟩ (fun hHeld => ?_)
          clear hKK K
          refine norm_ (a' := ?_) ?_ ?_
          rotate_left
          · show Act.put _ (some 81) _ = _
            simp only [Act.put, List.setIfInBounds_toArray, List.set_cons_zero, List.set_cons_succ, i64_w, i32_w]
            rfl
          obtain ⟨k1, hk1⟩ : ∃ k, k = v0.heap.size := ⟨_, rfl⟩
          rw [← hk1] at HK1wA ⊢
          clear hk1
          generalize v0.alloc (.cells [Value.slice (some ⟨kp, 0, none⟩) lB.length cp, Value.slice A4 lC.length c4].toArray 29) = wA at HDwA HBwA HPwA HK1wA HZwA hHeld ⊢
          refine two_ (i := 9) (j := 15) (Ni := some 82) (Nj := some 88) #[true, true, true, true, true, true, true, true, true, true, true, true, true, true, true, false, false, false, false, false, false, false, false, false, false] #[true, true, true, true, true, true, true, true, true, false, true, true, true, true, true, true, false, false, false, false, false, false, false, false, false] rfl rfl rfl rfl (by kernel_rfl) (by decide) (by decide) (fun K hKK => ?_) (fun K hKK => ?_)
          · as_aux_lemma =>
            refine goes_ Try.func22 (by kernel_rfl) rfl #[.pointer (some ⟨g, 0, none⟩), .slice (some ⟨k1, 0, none⟩) 2 2] (by rfl) rfl rfl (by first | rfl | (simp only [List.map_toArray, List.map_cons, List.map_nil]; rfl)) ?_
            refine (raw1_ (k := k1) HDwA.out HPs.out HPwA.out HRO.out HK1wA.out.1 (HDwA.out.other HPs.out (by have := HK1wA.out.2.1; have := HDq.out.kp.1; omega) HK1wA.out.2.2.1 (own_lt_ HDq.out.ts.row HK1wA.out.2.1)).1 HNP.out.1 HBi.out (by have := HLn.out; have := HI.out; omega) rr HRR.out L2 HLq.out).mono ?_
            rintro e wA1 ⟨rfl, u2, h1, h2⟩
            have HDwA1 := Aside0.mk h1
            have HBwA1 := Aside0.mk (blk_kept HBwA.out h2.kept HNF.out.1)
            have HPwA1 := Aside0.mk (R_off HPwA.out h2.kept (fun j hj hf => by obtain rfl : kp = j := Option.some.inj hj; exact HNP.out.1 hf))
            have HZwA1 := Aside0.mk (show wq.heap.size ≤ wA1.heap.size ∧ wr.heap.size ≤ wA1.heap.size ∧ kp < wA1.heap.size from ⟨Nat.le_trans HZwA.out.1 h2.kept.1, Nat.le_trans HZwA.out.2.1 h2.kept.1, Nat.lt_of_lt_of_le HZwA.out.2.2 h2.kept.1⟩)
            have HU2 := Aside0.mk (show u2.ownBlock ≠ some kp from fun e => h2.own.elim (fun e2 => HNP.out.1 (.inr (e2 ▸ e))) (fun ⟨j, e2, hj⟩ => by rw [e2] at e; obtain rfl := Option.some.inj e; have := HZwA.out.2.2; omega))
            clear h1 h2
            refine ⟨_, rfl, ?_⟩
            refine hKK.out _ _ ⟨blk_cell HBwA1.out 3, blk_cell HBwA1.out 4⟩ (fun hHeld => ?_)
            clear hKK K
            refine norm_ (a' := ?_) ?_ ?_
            rotate_left
            · show Act.put _ (some 82) _ = _
              simp only [Act.put, List.setIfInBounds_toArray, List.set_cons_zero, List.set_cons_succ, i64_w, i32_w]
              rfl
            refine one_ (i := 15) (N := some 88) #[true, true, true, true, true, true, true, true, true, true, true, true, true, true, true, true, false, false, false, false, false, false, false, false, false] rfl rfl (by kernel_rfl) (by decide) (fun K hKK => ?_)
            refine value_ (w1 := wA1.alloc (.cells [Value.slice A3 lB.length c3, Value.slice A4 lC.length c4].toArray 29)) (v := .slice (some ⟨wA1.heap.size, 0, none⟩) 2 2) (by rfl) rfl ?_ ?_
            · go_simp
              try rfl
            have hawA2 : Below wA1.heap.size wA1 (wA1.alloc (.cells [Value.slice A3 lB.length c3, Value.slice A4 lC.length c4].toArray 29)) := below_alloc (Below.refl _ _) _
            have HDwA2 := Aside0.mk (HDwA1.out.below hawA2)
            have HBwA2 := Aside0.mk (blk_alloc HBwA1.out (.cells [Value.slice A3 lB.length c3, Value.slice A4 lC.length c4].toArray 29))
            have HPwA2 := Aside0.mk (Kd.R_below HPwA1.out hawA2)
            have HK2wA2 := Aside0.mk (show (wA1.alloc (.cells [Value.slice A3 lB.length c3, Value.slice A4 lC.length c4].toArray 29)).heap[wA1.heap.size]? = some (.cells [Value.slice A3 lB.length c3, Value.slice A4 lC.length c4].toArray 29 (0, 0)) ∧ wq.heap.size ≤ wA1.heap.size ∧ ux.ownBlock ≠ some wA1.heap.size ∧ kp ≠ wA1.heap.size from ⟨blk_new wA1 _, HZwA1.out.1, fun e => by have := HOW.out.2 _ e; have := HZwA1.out; omega, fun e => by have := HZwA1.out; omega⟩)
            have HZwA2 := Aside0.mk (show wq.heap.size ≤ (wA1.alloc (.cells [Value.slice A3 lB.length c3, Value.slice A4 lC.length c4].toArray 29)).heap.size ∧ wr.heap.size ≤ (wA1.alloc (.cells [Value.slice A3 lB.length c3, Value.slice A4 lC.length c4].toArray 29)).heap.size ∧ kp < (wA1.alloc (.cells [Value.slice A3 lB.length c3, Value.slice A4 lC.length c4].toArray 29)).heap.size from ⟨Nat.le_trans HZwA1.out.1 hawA2.size, Nat.le_trans HZwA1.out.2.1 hawA2.size, Nat.lt_of_lt_of_le HZwA1.out.2.2 hawA2.size⟩)
            clear hawA2
            refine hKK.out _ _ ⟨blk_cell HBwA2.out 3, blk_cell HBwA2.out 4⟩ (fun hHeld => ?_)
            clear hKK K
            refine norm_ (a' := ?_) ?_ ?_
            rotate_left
            · show Act.put _ (some 88) _ = _
              simp only [Act.put, List.setIfInBounds_toArray, List.set_cons_zero, List.set_cons_succ, i64_w, i32_w]
              rfl
            obtain ⟨k2, hk2⟩ : ∃ k, k = wA1.heap.size := ⟨_, rfl⟩
            rw [← hk2] at HK2wA2 ⊢
            clear hk2
            generalize wA1.alloc (.cells [Value.slice A3 lB.length c3, Value.slice A4 lC.length c4].toArray 29) = wA2 at HDwA2 HBwA2 HPwA2 HK2wA2 HZwA2 hHeld ⊢
            refine one_ (i := 16) (N := some 89) #[true, true, true, true, true, true, true, true, true, true, true, true, true, true, true, true, true, false, false, false, false, false, false, false, false] rfl rfl (by kernel_rfl) (by decide) (fun K hKK => ?_)
            refine goes_ Try.func23 (by kernel_rfl) rfl #[.pointer (some ⟨x, 0, none⟩), .slice (some ⟨k2, 0, none⟩) 2 2] (by rfl) rfl rfl (by first | rfl | (simp only [List.map_toArray, List.map_cons, List.map_nil]; rfl)) ?_
            refine (raw2_ (k := k2) HDwA2.out HPs.out HRO.out HK2wA2.out.1 ⟨fun e => by have := HK2wA2.out.2.1; have := HPs.out.xl; have := HDq.out.kp.1; omega, HK2wA2.out.2.2.1⟩ HBi.out (by have := HLn.out; have := HI.out; omega) rr HRR.out L2 HLq.out).mono ?_
            rintro e wA3 ⟨rfl, ux2, h1, h2⟩
            have HDwA3 := Aside0.mk h1
            have HBwA3 := Aside0.mk (blk_kept HBwA2.out h2.kept HNF.out.2)
            have HPwA3 := Aside0.mk (R_off HPwA2.out h2.kept (fun j hj hf => by obtain rfl : kp = j := Option.some.inj hj; exact HNP.out.2 hf))
            have HU3 := Aside0.mk (show ux2.ownBlock ≠ some kp from fun e => h2.own.elim (fun e2 => HNP.out.2 (.inr (e2 ▸ e))) (fun ⟨j, e2, hj⟩ => by rw [e2] at e; obtain rfl := Option.some.inj e; have := HZwA2.out.2.2; omega))
            clear h1 h2
            refine ⟨_, rfl, ?_⟩
            refine hKK.out _ _ ⟨blk_cell HBwA3.out 3, blk_cell HBwA3.out 4⟩ (fun hHeld => ?_)
            clear hKK K
            refine norm_ (a' := ?_) ?_ ?_
            rotate_left
            · show Act.put _ (some 89) _ = _
              simp only [Act.put, List.setIfInBounds_toArray, List.set_cons_zero, List.set_cons_succ, i64_w, i32_w]
              rfl
            refine pure_ (i := 17) (N := some 90) (v := .bool true) (a' := ?_) #[true, true, true, true, true, true, true, true, true, true, true, true, true, true, true, true, true, true, false, false, false, false, false, false, false] rfl rfl (by kernel_rfl) (fun _ _ _ h => h) (Or.inl ⟨by rfl, ?_⟩) ?_ ?_
            · intro w'
              go_simp
              try rfl
            rotate_left
            · simp only [Act.put, List.setIfInBounds_toArray, List.set_cons_zero, List.set_cons_succ, i64_w, i32_w]
              rfl
            refine pure_ (i := 18) (N := some 91) (v := ?_) (a' := ?_) #[true, true, true, true, true, true, true, true, true, true, true, true, true, true, true, true, true, true, true, false, false, false, false, false, false] rfl rfl (by kernel_rfl) (fun _ _ _ h => h) (Or.inl ⟨by rfl, ?_⟩) ?_ ?_
            rotate_left
            · intro w'
              go_simp
              with_reducible rfl
            rotate_left
            · simp only [Act.put, List.setIfInBounds_toArray, List.set_cons_zero, List.set_cons_succ, i64_w, i32_w]
              rfl
            refine pure_ (i := 19) (N := some 92) (v := ?_) (a' := ?_) #[true, true, true, true, true, true, true, true, true, true, true, true, true, true, true, true, true, true, true, true, false, false, false, false, false] rfl rfl (by kernel_rfl) (fun _ _ _ h => h) (Or.inl ⟨by rfl, ?_⟩) ?_ ?_
            rotate_left
            · intro w'
              go_simp
              with_reducible rfl
            rotate_left
            · simp only [Act.put, List.setIfInBounds_toArray, List.set_cons_zero, List.set_cons_succ, i64_w, i32_w]
              rfl
            refine pure_ (i := 20) (N := some 93) (v := ?_) (a' := ?_) #[true, true, true, true, true, true, true, true, true, true, true, true, true, true, true, true, true, true, true, true, true, false, false, false, false] rfl rfl (by kernel_rfl) (fun _ _ _ h => h) (Or.inl ⟨by rfl, ?_⟩) ?_ ?_
            rotate_left
            · intro w'
              go_simp
              with_reducible rfl
            rotate_left
            · simp only [Act.put, List.setIfInBounds_toArray, List.set_cons_zero, List.set_cons_succ, i64_w, i32_w]
              rfl
            refine take_ (i := 21) (N := some 94) (v := ?_) (a' := ?_) #[true, true, true, true, true, true, true, true, true, true, true, true, true, true, true, true, true, true, true, true, true, true, false, false, false] rfl rfl (by kernel_rfl) (fun _ _ _ h => h) (Or.inl ⟨by rfl, ?_⟩) hHeld ?_ ?_
            rotate_left
            · rintro w' ⟨s0, s1⟩
              go_simp
              with_reducible rfl
            rotate_left
            · simp only [Act.put, List.setIfInBounds_toArray, List.set_cons_zero, List.set_cons_succ, i64_w, i32_w]
              rfl
            refine one_ (i := 22) (N := some 95) #[true, true, true, true, true, true, true, true, true, true, true, true, true, true, true, true, true, true, true, true, true, true, true, false, false] rfl rfl (by kernel_rfl) (by decide) (fun K hKK => ?_)
            refine goes_ Try.func24 (by kernel_rfl) rfl #[.slice (some ⟨kp, 0, none⟩) (lB.length + 1) cp, .slice A3 lB.length c3] (by rfl) rfl rfl (by first | rfl | (simp only [List.map_toArray, List.map_cons, List.map_nil]; rfl)) ?_
            refine (stands_at kt (some ⟨kp, 0, none⟩) cp (lB ++ [171]) A3 c3 lB _ (lB.length + 1) (by simp) (Kd.R_reads' HPwA3.out).2.2 (Kd.R_reads' HPwA3.out).2.1 (Kd.C_below HRO.out.1.2 HDwA3.out.bl) HRO.out.1.1 HKT.out).mono ?_
            rintro e wz ⟨rfl, hd⟩
            have HDz := Aside0.mk (HDwA3.out.below hd.below)
            have HBz := Aside0.mk ((hd.below.block b (blk_lt HBwA3.out)).trans HBwA3.out)
            have HPz := Aside0.mk (Kd.R_below HPwA3.out hd.below)
            have HZz := Aside0.mk hd.below.size
            clear hd
            refine ⟨_, rfl, ?_⟩
            refine hKK.out _ _ ⟨blk_cell HBz.out 3, blk_cell HBz.out 4⟩ (fun hHeld => ?_)
            clear hKK K
            refine norm_ (a' := ?_) ?_ ?_
            rotate_left
            · show Act.put _ (some 95) _ = _
              simp only [Act.put, List.setIfInBounds_toArray, List.set_cons_zero, List.set_cons_succ, i64_w, i32_w]
              rfl
            refine pure_ (i := 23) (N := some 96) (v := ?_) (a' := ?_) #[true, true, true, true, true, true, true, true, true, true, true, true, true, true, true, true, true, true, true, true, true, true, true, true, false] rfl rfl (by kernel_rfl) (fun _ _ _ h => h) (Or.inl ⟨by rfl, ?_⟩) ?_ ?_
            rotate_left
            · intro w'
              go_simp
              with_reducible rfl
            rotate_left
            · simp only [Act.put, List.setIfInBounds_toArray, List.set_cons_zero, List.set_cons_succ, i64_w, i32_w]
              rfl
            refine pure_ (i := 24) (N := some 7) (v := ?_) (a' := ?_) #[true, true, true, true, true, true, true, true, true, true, true, true, true, true, true, true, true, true, true, true, true, true, true, true, true] rfl rfl (by kernel_rfl) (fun _ _ _ h => h) (Or.inl ⟨by rfl, ?_⟩) ?_ ?_
            rotate_left
            · intro w'
              go_simp
              with_reducible rfl
            rotate_left
            · simp only [Act.put, List.setIfInBounds_toArray, List.set_cons_zero, List.set_cons_succ, i64_w, i32_w]
              rfl
            refine done_ (by kernel_rfl) ?_
            go_wp2_with (first | ((with_reducible refine gate_callee (f := 25) rfl ?_); refine goesL_ (some 98) rfl rfl Try.func25 (by kernel_rfl) rfl #[.slice (some ⟨kp, 0, none⟩) (lB.length + 1) cp] rfl (by (try simp only [List.map_toArray, List.map_cons, List.map_nil]); first | done | rfl) ?_; refine (spoil_at (some ⟨kp, 0, none⟩) cp (lB ++ [171]) (lB.length + 1) (by simp) wz w.heap.size HDz.out.le (Kd.R_lower HPz.out HDx.out.le) (by have := HRO.out.2.2.2; simp; omega)).mono ?_; rintro e wy ⟨rfl, h1, h2⟩; refine ⟨_, rfl, ?_⟩; have HD6 := Aside0.mk (show Duo w w4 wy g x (tape L2) L2 u2 ux2 from HDz.out.far HPs.out h1 (fun k hk => by obtain rfl : kp = k := Option.some.inj hk; exact HNP2.out.1) (fun j hj hs => by obtain rfl : kp = j := Option.some.inj hs; exact HU2.out hj) (fun j hj hs => by obtain rfl : kp = j := Option.some.inj hs; exact HU3.out hj) (HDz.out.bl.trans h2)); clear h1 h2) | ((with_reducible refine gate_callee (f := 14) rfl ?_); refine gate_guard (by rfl) ?_; dsimp only; refine goesL_ (some 103) rfl rfl Try.func14 (by kernel_rfl) rfl #[.pointer (some ⟨g, 0, none⟩)] rfl (by (try simp only [List.map_toArray, List.map_cons, List.map_nil]); first | done | rfl) ?_; refine (Bytes_at g L2 bt HBT.out _ _ _ HD6.out.ws HB2.out HL2.out.2).mono ?_; rintro e w7 ⟨A7, c7, rfl, h1, h2⟩; refine ⟨_, rfl, ?_⟩; have HV7 := Aside0.mk h1; have HD7 := Aside0.mk (HD6.out.below h2); clear h1 h2) | ((with_reducible refine gate_callee (f := 26) rfl ?_); refine gate_guard (by rfl) ?_; dsimp only; refine goesL_ (some 105) rfl rfl Try.func26 (by kernel_rfl) rfl #[.pointer (some ⟨x, 0, none⟩)] rfl (by (try simp only [List.map_toArray, List.map_cons, List.map_nil]); first | done | rfl) ?_; refine (refBytes_at x L2 bt HBT.out _ _ _ HD7.out.le HD7.out.ts HB2.out HL2.out.2).mono ?_; rintro e w8 ⟨A8, c8, rfl, h1, h2⟩; refine ⟨_, rfl, ?_⟩; have HV8 := Aside0.mk h1; have HV78 := Aside0.mk (Kd.R_below HV7.out h2); have HD8 := Aside0.mk (HD7.out.below h2); clear h1 h2) | ((with_reducible refine gate_callee (f := 13) rfl ?_); refine gate_guard (by rfl) ?_; dsimp only; refine goesL_ (some 106) rfl rfl Try.func13 (by kernel_rfl) rfl #[.slice A7 bt.length c7, .slice A8 bt.length c8] rfl (by (try simp only [List.map_toArray, List.map_cons, List.map_nil]); first | done | rfl) ?_; refine (rubricatorlaw1_same.calls ks A7 c7 bt A8 c8 bt true _ (Kd.R_reads' HV78.out).2.2 (Kd.R_reads' HV78.out).2.1 (Kd.R_reads' HV8.out).2.2 (Kd.R_reads' HV8.out).2.1 HKS.out).mono ?_; rintro e w9 ⟨rfl, hd⟩; refine ⟨_, rfl, ?_⟩; have HD9 := Aside0.mk (HD8.out.below hd.below); clear hd) | ((with_reducible refine gate_callee (f := 14) rfl ?_); refine goesL_ (some 110) rfl rfl Try.func14 (by kernel_rfl) rfl #[.pointer (some ⟨g, 0, none⟩)] rfl (by (try simp only [List.map_toArray, List.map_cons, List.map_nil]); first | done | rfl) ?_; refine (Bytes_at g L2 bt HBT.out _ w9 _ HD9.out.ws HB2.out HL2.out.2).mono ?_; rintro e w10 ⟨A10, c10, rfl, h1, h2⟩; refine ⟨_, rfl, ?_⟩; have HV10 := Aside0.mk h1; have HD10 := Aside0.mk (HD9.out.below h2); have HS10 := Aside0.mk h2.size; clear h1 h2) | ((with_reducible refine gate_callee (f := 25) rfl ?_); refine goesL_ (some 111) rfl rfl Try.func25 (by kernel_rfl) rfl #[.slice A10 bt.length c10] rfl (by (try simp only [List.map_toArray, List.map_cons, List.map_nil]); first | done | rfl) ?_; refine (rubricatorlaw1_spoil.calls A10 c10 bt _ w9.heap.size HS10.out HV10.out (by have := HBl.out; omega)).mono ?_; rintro e w11 ⟨rfl, h1, h2⟩; refine ⟨_, rfl, ?_⟩; have HD11 := Aside0.mk (HD10.out.far HPs.out h1 (fun k hk => Nat.le_trans HD9.out.kp.1 ((Kd.R_bound HV10.out).1 k hk).2.1) (fun j hj hs => by have a1 := Kd.R_lt HD9.out.ws.row j hj; have a2 := ((Kd.R_bound HV10.out).1 j hs).2.1; omega) (fun j hj hs => by have a1 := Kd.R_lt HD9.out.ts.row j hj; have a2 := ((Kd.R_bound HV10.out).1 j hs).2.1; omega) (HD10.out.bl.trans (h2.mono (HD9.out.le)))); clear h1 h2))
            go_roundw
            case rel =>
              have := HI.out
              exact ⟨i + 1, _, L2, _, _, rfl, by rw [t5]; omega, by omega, by omega, HB2, ⟨HL2.out.1⟩, HD11⟩
            case measure =>
              have := HI.out
              simp only [intOf, t5]
              omega
          · as_aux_lemma =>
            refine value_ (w1 := wA.alloc (.cells [Value.slice A3 lB.length c3, Value.slice A4 lC.length c4].toArray 29)) (v := .slice (some ⟨wA.heap.size, 0, none⟩) 2 2) (by rfl) rfl ?_ ?_
            · go_simp
              try rfl
            have hawA1 : Below wA.heap.size wA (wA.alloc (.cells [Value.slice A3 lB.length c3, Value.slice A4 lC.length c4].toArray 29)) := below_alloc (Below.refl _ _) _
            have HDwA1 := Aside0.mk (HDwA.out.below hawA1)
            have HBwA1 := Aside0.mk (blk_alloc HBwA.out (.cells [Value.slice A3 lB.length c3, Value.slice A4 lC.length c4].toArray 29))
            have HPwA1 := Aside0.mk (Kd.R_below HPwA.out hawA1)
            have HK2wA1 := Aside0.mk (show (wA.alloc (.cells [Value.slice A3 lB.length c3, Value.slice A4 lC.length c4].toArray 29)).heap[wA.heap.size]? = some (.cells [Value.slice A3 lB.length c3, Value.slice A4 lC.length c4].toArray 29 (0, 0)) ∧ wq.heap.size ≤ wA.heap.size ∧ ux.ownBlock ≠ some wA.heap.size ∧ kp ≠ wA.heap.size from ⟨blk_new wA _, HZwA.out.1, fun e => by have := HOW.out.2 _ e; have := HZwA.out; omega, fun e => by have := HZwA.out; omega⟩)
            have HZwA1 := Aside0.mk (show wq.heap.size ≤ (wA.alloc (.cells [Value.slice A3 lB.length c3, Value.slice A4 lC.length c4].toArray 29)).heap.size ∧ wr.heap.size ≤ (wA.alloc (.cells [Value.slice A3 lB.length c3, Value.slice A4 lC.length c4].toArray 29)).heap.size ∧ kp < (wA.alloc (.cells [Value.slice A3 lB.length c3, Value.slice A4 lC.length c4].toArray 29)).heap.size from ⟨Nat.le_trans HZwA.out.1 hawA1.size, Nat.le_trans HZwA.out.2.1 hawA1.size, Nat.lt_of_lt_of_le HZwA.out.2.2 hawA1.size⟩)
            have HK1wA1 := Aside0.mk (show (wA.alloc (.cells [Value.slice A3 lB.length c3, Value.slice A4 lC.length c4].toArray 29)).heap[k1]? = some (.cells [Value.slice (some ⟨kp, 0, none⟩) lB.length cp, Value.slice A4 lC.length c4].toArray 29 (0, 0)) ∧ wq.heap.size ≤ k1 ∧ u.ownBlock ≠ some k1 ∧ kp ≠ k1 from ⟨blk_alloc HK1wA.out.1 _, HK1wA.out.2⟩)
            clear hawA1
            refine hKK.out _ _ ⟨blk_cell HBwA1.out 3, blk_cell HBwA1.out 4⟩ (fun hHeld => ?_)
            clear hKK K
            refine norm_ (a' := ?_) ?_ ?_
            rotate_left
            · show Act.put _ (some 88) _ = _
              simp only [Act.put, List.setIfInBounds_toArray, List.set_cons_zero, List.set_cons_succ, i64_w, i32_w]
              rfl
            obtain ⟨k2, hk2⟩ : ∃ k, k = wA.heap.size := ⟨_, rfl⟩
            rw [← hk2] at HK2wA1 ⊢
            clear hk2
            generalize wA.alloc (.cells [Value.slice A3 lB.length c3, Value.slice A4 lC.length c4].toArray 29) = wA1 at HDwA1 HBwA1 HPwA1 HK2wA1 HZwA1 HK1wA1 hHeld ⊢
            refine one_ (i := 9) (N := some 82) #[true, true, true, true, true, true, true, true, true, true, true, true, true, true, true, true, false, false, false, false, false, false, false, false, false] rfl rfl (by kernel_rfl) (by decide) (fun K hKK => ?_)
            refine goes_ Try.func22 (by kernel_rfl) rfl #[.pointer (some ⟨g, 0, none⟩), .slice (some ⟨k1, 0, none⟩) 2 2] (by rfl) rfl rfl (by first | rfl | (simp only [List.map_toArray, List.map_cons, List.map_nil]; rfl)) ?_
            refine (raw1_ (k := k1) HDwA1.out HPs.out HPwA1.out HRO.out HK1wA1.out.1 (HDwA1.out.other HPs.out (by have := HK1wA1.out.2.1; have := HDq.out.kp.1; omega) HK1wA1.out.2.2.1 (own_lt_ HDq.out.ts.row HK1wA1.out.2.1)).1 HNP.out.1 HBi.out (by have := HLn.out; have := HI.out; omega) rr HRR.out L2 HLq.out).mono ?_
            rintro e wA2 ⟨rfl, u2, h1, h2⟩
            have HDwA2 := Aside0.mk h1
            have HBwA2 := Aside0.mk (blk_kept HBwA1.out h2.kept HNF.out.1)
            have HPwA2 := Aside0.mk (R_off HPwA1.out h2.kept (fun j hj hf => by obtain rfl : kp = j := Option.some.inj hj; exact HNP.out.1 hf))
            have HZwA2 := Aside0.mk (show wq.heap.size ≤ wA2.heap.size ∧ wr.heap.size ≤ wA2.heap.size ∧ kp < wA2.heap.size from ⟨Nat.le_trans HZwA1.out.1 h2.kept.1, Nat.le_trans HZwA1.out.2.1 h2.kept.1, Nat.lt_of_lt_of_le HZwA1.out.2.2 h2.kept.1⟩)
            have HU2 := Aside0.mk (show u2.ownBlock ≠ some kp from fun e => h2.own.elim (fun e2 => HNP.out.1 (.inr (e2 ▸ e))) (fun ⟨j, e2, hj⟩ => by rw [e2] at e; obtain rfl := Option.some.inj e; have := HZwA1.out.2.2; omega))
            have HK2wA2 := Aside0.mk (show wA2.heap[k2]? = some (.cells [Value.slice A3 lB.length c3, Value.slice A4 lC.length c4].toArray 29 (0, 0)) ∧ wq.heap.size ≤ k2 ∧ ux.ownBlock ≠ some k2 ∧ kp ≠ k2 from ⟨blk_kept HK2wA1.out.1 h2.kept (HDq.out.other HPs.out (by have := HK2wA1.out.2.1; have := HDq.out.kp.1; omega) (own_lt_ HDq.out.ws.row HK2wA1.out.2.1) HK2wA1.out.2.2.1).1, HK2wA1.out.2⟩)
            clear h1 h2
            refine ⟨_, rfl, ?_⟩
            refine hKK.out _ _ ⟨blk_cell HBwA2.out 3, blk_cell HBwA2.out 4⟩ (fun hHeld => ?_)
            clear hKK K
            refine norm_ (a' := ?_) ?_ ?_
            rotate_left
            · show Act.put _ (some 82) _ = _
              simp only [Act.put, List.setIfInBounds_toArray, List.set_cons_zero, List.set_cons_succ, i64_w, i32_w]
              rfl
            refine one_ (i := 16) (N := some 89) #[true, true, true, true, true, true, true, true, true, true, true, true, true, true, true, true, true, false, false, false, false, false, false, false, false] rfl rfl (by kernel_rfl) (by decide) (fun K hKK => ?_)
            refine goes_ Try.func23 (by kernel_rfl) rfl #[.pointer (some ⟨x, 0, none⟩), .slice (some ⟨k2, 0, none⟩) 2 2] (by rfl) rfl rfl (by first | rfl | (simp only [List.map_toArray, List.map_cons, List.map_nil]; rfl)) ?_
            refine (raw2_ (k := k2) HDwA2.out HPs.out HRO.out HK2wA2.out.1 ⟨fun e => by have := HK2wA2.out.2.1; have := HPs.out.xl; have := HDq.out.kp.1; omega, HK2wA2.out.2.2.1⟩ HBi.out (by have := HLn.out; have := HI.out; omega) rr HRR.out L2 HLq.out).mono ?_
            rintro e wA3 ⟨rfl, ux2, h1, h2⟩
            have HDwA3 := Aside0.mk h1
            have HBwA3 := Aside0.mk (blk_kept HBwA2.out h2.kept HNF.out.2)
            have HPwA3 := Aside0.mk (R_off HPwA2.out h2.kept (fun j hj hf => by obtain rfl : kp = j := Option.some.inj hj; exact HNP.out.2 hf))
            have HU3 := Aside0.mk (show ux2.ownBlock ≠ some kp from fun e => h2.own.elim (fun e2 => HNP.out.2 (.inr (e2 ▸ e))) (fun ⟨j, e2, hj⟩ => by rw [e2] at e; obtain rfl := Option.some.inj e; have := HZwA2.out.2.2; omega))
            clear h1 h2
            refine ⟨_, rfl, ?_⟩
            refine hKK.out _ _ ⟨blk_cell HBwA3.out 3, blk_cell HBwA3.out 4⟩ (fun hHeld => ?_)
            clear hKK K
            refine norm_ (a' := ?_) ?_ ?_
            rotate_left
            · show Act.put _ (some 89) _ = _
              simp only [Act.put, List.setIfInBounds_toArray, List.set_cons_zero, List.set_cons_succ, i64_w, i32_w]
              rfl
            refine pure_ (i := 17) (N := some 90) (v := .bool true) (a' := ?_) #[true, true, true, true, true, true, true, true, true, true, true, true, true, true, true, true, true, true, false, false, false, false, false, false, false] rfl rfl (by kernel_rfl) (fun _ _ _ h => h) (Or.inl ⟨by rfl, ?_⟩) ?_ ?_
            · intro w'
              go_simp
              try rfl
            rotate_left
            · simp only [Act.put, List.setIfInBounds_toArray, List.set_cons_zero, List.set_cons_succ, i64_w, i32_w]
              rfl
            refine pure_ (i := 18) (N := some 91) (v := ?_) (a' := ?_) #[true, true, true, true, true, true, true, true, true, true, true, true, true, true, true, true, true, true, true, false, false, false, false, false, false] rfl rfl (by kernel_rfl) (fun _ _ _ h => h) (Or.inl ⟨by rfl, ?_⟩) ?_ ?_
            rotate_left
            · intro w'
              go_simp
              with_reducible rfl
            rotate_left
            · simp only [Act.put, List.setIfInBounds_toArray, List.set_cons_zero, List.set_cons_succ, i64_w, i32_w]
              rfl
            refine pure_ (i := 19) (N := some 92) (v := ?_) (a' := ?_) #[true, true, true, true, true, true, true, true, true, true, true, true, true, true, true, true, true, true, true, true, false, false, false, false, false] rfl rfl (by kernel_rfl) (fun _ _ _ h => h) (Or.inl ⟨by rfl, ?_⟩) ?_ ?_
            rotate_left
            · intro w'
              go_simp
              with_reducible rfl
            rotate_left
            · simp only [Act.put, List.setIfInBounds_toArray, List.set_cons_zero, List.set_cons_succ, i64_w, i32_w]
              rfl
            refine pure_ (i := 20) (N := some 93) (v := ?_) (a' := ?_) #[true, true, true, true, true, true, true, true, true, true, true, true, true, true, true, true, true, true, true, true, true, false, false, false, false] rfl rfl (by kernel_rfl) (fun _ _ _ h => h) (Or.inl ⟨by rfl, ?_⟩) ?_ ?_
            rotate_left
            · intro w'
              go_simp
              with_reducible rfl
            rotate_left
            · simp only [Act.put, List.setIfInBounds_toArray, List.set_cons_zero, List.set_cons_succ, i64_w, i32_w]
              rfl
            refine take_ (i := 21) (N := some 94) (v := ?_) (a' := ?_) #[true, true, true, true, true, true, true, true, true, true, true, true, true, true, true, true, true, true, true, true, true, true, false, false, false] rfl rfl (by kernel_rfl) (fun _ _ _ h => h) (Or.inl ⟨by rfl, ?_⟩) hHeld ?_ ?_
            rotate_left
            · rintro w' ⟨s0, s1⟩
              go_simp
              with_reducible rfl
            rotate_left
            · simp only [Act.put, List.setIfInBounds_toArray, List.set_cons_zero, List.set_cons_succ, i64_w, i32_w]
              rfl
            refine one_ (i := 22) (N := some 95) #[true, true, true, true, true, true, true, true, true, true, true, true, true, true, true, true, true, true, true, true, true, true, true, false, false] rfl rfl (by kernel_rfl) (by decide) (fun K hKK => ?_)
            refine goes_ Try.func24 (by kernel_rfl) rfl #[.slice (some ⟨kp, 0, none⟩) (lB.length + 1) cp, .slice A3 lB.length c3] (by rfl) rfl rfl (by first | rfl | (simp only [List.map_toArray, List.map_cons, List.map_nil]; rfl)) ?_
            refine (stands_at kt (some ⟨kp, 0, none⟩) cp (lB ++ [171]) A3 c3 lB _ (lB.length + 1) (by simp) (Kd.R_reads' HPwA3.out).2.2 (Kd.R_reads' HPwA3.out).2.1 (Kd.C_below HRO.out.1.2 HDwA3.out.bl) HRO.out.1.1 HKT.out).mono ?_
            rintro e wz ⟨rfl, hd⟩
            have HDz := Aside0.mk (HDwA3.out.below hd.below)
            have HBz := Aside0.mk ((hd.below.block b (blk_lt HBwA3.out)).trans HBwA3.out)
            have HPz := Aside0.mk (Kd.R_below HPwA3.out hd.below)
            have HZz := Aside0.mk hd.below.size
            clear hd
            refine ⟨_, rfl, ?_⟩
            refine hKK.out _ _ ⟨blk_cell HBz.out 3, blk_cell HBz.out 4⟩ (fun hHeld => ?_)
            clear hKK K
            refine norm_ (a' := ?_) ?_ ?_
            rotate_left
            · show Act.put _ (some 95) _ = _
              simp only [Act.put, List.setIfInBounds_toArray, List.set_cons_zero, List.set_cons_succ, i64_w, i32_w]
              rfl
            refine pure_ (i := 23) (N := some 96) (v := ?_) (a' := ?_) #[true, true, true, true, true, true, true, true, true, true, true, true, true, true, true, true, true, true, true, true, true, true, true, true, false] rfl rfl (by kernel_rfl) (fun _ _ _ h => h) (Or.inl ⟨by rfl, ?_⟩) ?_ ?_
            rotate_left
            · intro w'
              go_simp
              with_reducible rfl
            rotate_left
            · simp only [Act.put, List.setIfInBounds_toArray, List.set_cons_zero, List.set_cons_succ, i64_w, i32_w]
              rfl
            refine pure_ (i := 24) (N := some 7) (v := ?_) (a' := ?_) #[true, true, true, true, true, true, true, true, true, true, true, true, true, true, true, true, true, true, true, true, true, true, true, true, true] rfl rfl (by kernel_rfl) (fun _ _ _ h => h) (Or.inl ⟨by rfl, ?_⟩) ?_ ?_
            rotate_left
            · intro w'
              go_simp
              with_reducible rfl
            rotate_left
            · simp only [Act.put, List.setIfInBounds_toArray, List.set_cons_zero, List.set_cons_succ, i64_w, i32_w]
              rfl
            refine done_ (by kernel_rfl) ?_
            go_wp2_with (first | ((with_reducible refine gate_callee (f := 25) rfl ?_); refine goesL_ (some 98) rfl rfl Try.func25 (by kernel_rfl) rfl #[.slice (some ⟨kp, 0, none⟩) (lB.length + 1) cp] rfl (by (try simp only [List.map_toArray, List.map_cons, List.map_nil]); first | done | rfl) ?_; refine (spoil_at (some ⟨kp, 0, none⟩) cp (lB ++ [171]) (lB.length + 1) (by simp) wz w.heap.size HDz.out.le (Kd.R_lower HPz.out HDx.out.le) (by have := HRO.out.2.2.2; simp; omega)).mono ?_; rintro e wy ⟨rfl, h1, h2⟩; refine ⟨_, rfl, ?_⟩; have HD6 := Aside0.mk (show Duo w w4 wy g x (tape L2) L2 u2 ux2 from HDz.out.far HPs.out h1 (fun k hk => by obtain rfl : kp = k := Option.some.inj hk; exact HNP2.out.1) (fun j hj hs => by obtain rfl : kp = j := Option.some.inj hs; exact HU2.out hj) (fun j hj hs => by obtain rfl : kp = j := Option.some.inj hs; exact HU3.out hj) (HDz.out.bl.trans h2)); clear h1 h2) | ((with_reducible refine gate_callee (f := 14) rfl ?_); refine gate_guard (by rfl) ?_; dsimp only; refine goesL_ (some 103) rfl rfl Try.func14 (by kernel_rfl) rfl #[.pointer (some ⟨g, 0, none⟩)] rfl (by (try simp only [List.map_toArray, List.map_cons, List.map_nil]); first | done | rfl) ?_; refine (Bytes_at g L2 bt HBT.out _ _ _ HD6.out.ws HB2.out HL2.out.2).mono ?_; rintro e w7 ⟨A7, c7, rfl, h1, h2⟩; refine ⟨_, rfl, ?_⟩; have HV7 := Aside0.mk h1; have HD7 := Aside0.mk (HD6.out.below h2); clear h1 h2) | ((with_reducible refine gate_callee (f := 26) rfl ?_); refine gate_guard (by rfl) ?_; dsimp only; refine goesL_ (some 105) rfl rfl Try.func26 (by kernel_rfl) rfl #[.pointer (some ⟨x, 0, none⟩)] rfl (by (try simp only [List.map_toArray, List.map_cons, List.map_nil]); first | done | rfl) ?_; refine (refBytes_at x L2 bt HBT.out _ _ _ HD7.out.le HD7.out.ts HB2.out HL2.out.2).mono ?_; rintro e w8 ⟨A8, c8, rfl, h1, h2⟩; refine ⟨_, rfl, ?_⟩; have HV8 := Aside0.mk h1; have HV78 := Aside0.mk (Kd.R_below HV7.out h2); have HD8 := Aside0.mk (HD7.out.below h2); clear h1 h2) | ((with_reducible refine gate_callee (f := 13) rfl ?_); refine gate_guard (by rfl) ?_; dsimp only; refine goesL_ (some 106) rfl rfl Try.func13 (by kernel_rfl) rfl #[.slice A7 bt.length c7, .slice A8 bt.length c8] rfl (by (try simp only [List.map_toArray, List.map_cons, List.map_nil]); first | done | rfl) ?_; refine (rubricatorlaw1_same.calls ks A7 c7 bt A8 c8 bt true _ (Kd.R_reads' HV78.out).2.2 (Kd.R_reads' HV78.out).2.1 (Kd.R_reads' HV8.out).2.2 (Kd.R_reads' HV8.out).2.1 HKS.out).mono ?_; rintro e w9 ⟨rfl, hd⟩; refine ⟨_, rfl, ?_⟩; have HD9 := Aside0.mk (HD8.out.below hd.below); clear hd) | ((with_reducible refine gate_callee (f := 14) rfl ?_); refine goesL_ (some 110) rfl rfl Try.func14 (by kernel_rfl) rfl #[.pointer (some ⟨g, 0, none⟩)] rfl (by (try simp only [List.map_toArray, List.map_cons, List.map_nil]); first | done | rfl) ?_; refine (Bytes_at g L2 bt HBT.out _ w9 _ HD9.out.ws HB2.out HL2.out.2).mono ?_; rintro e w10 ⟨A10, c10, rfl, h1, h2⟩; refine ⟨_, rfl, ?_⟩; have HV10 := Aside0.mk h1; have HD10 := Aside0.mk (HD9.out.below h2); have HS10 := Aside0.mk h2.size; clear h1 h2) | ((with_reducible refine gate_callee (f := 25) rfl ?_); refine goesL_ (some 111) rfl rfl Try.func25 (by kernel_rfl) rfl #[.slice A10 bt.length c10] rfl (by (try simp only [List.map_toArray, List.map_cons, List.map_nil]); first | done | rfl) ?_; refine (rubricatorlaw1_spoil.calls A10 c10 bt _ w9.heap.size HS10.out HV10.out (by have := HBl.out; omega)).mono ?_; rintro e w11 ⟨rfl, h1, h2⟩; refine ⟨_, rfl, ?_⟩; have HD11 := Aside0.mk (HD10.out.far HPs.out h1 (fun k hk => Nat.le_trans HD9.out.kp.1 ((Kd.R_bound HV10.out).1 k hk).2.1) (fun j hj hs => by have a1 := Kd.R_lt HD9.out.ws.row j hj; have a2 := ((Kd.R_bound HV10.out).1 j hs).2.1; omega) (fun j hj hs => by have a1 := Kd.R_lt HD9.out.ts.row j hj; have a2 := ((Kd.R_bound HV10.out).1 j hs).2.1; omega) (HD10.out.bl.trans (h2.mono (HD9.out.le)))); clear h1 h2))
            go_roundw
            case rel =>
              have := HI.out
              exact ⟨i + 1, _, L2, _, _, rfl, by rw [t5]; omega, by omega, by omega, HB2, ⟨HL2.out.1⟩, HD11⟩
            case measure =>
              have := HI.out
              simp only [intOf, t5]
              omega
        · as_aux_lemma =>
          refine value_ (w1 := v0.alloc (.cells [Value.slice A3 lB.length c3, Value.slice A4 lC.length c4].toArray 29)) (v := .slice (some ⟨v0.heap.size, 0, none⟩) 2 2) (by rfl) rfl ?_ ?_
          · go_simp
            try rfl
          have hawB : Below v0.heap.size v0 (v0.alloc (.cells [Value.slice A3 lB.length c3, Value.slice A4 lC.length c4].toArray 29)) := below_alloc (Below.refl _ _) _
          have HDwB := Aside0.mk (HDv0.out.below hawB)
          have HBwB := Aside0.mk (blk_alloc HBv0.out (.cells [Value.slice A3 lB.length c3, Value.slice A4 lC.length c4].toArray 29))
          have HPwB := Aside0.mk (Kd.R_below HPv0.out hawB)
          have HK2wB := Aside0.mk (show (v0.alloc (.cells [Value.slice A3 lB.length c3, Value.slice A4 lC.length c4].toArray 29)).heap[v0.heap.size]? = some (.cells [Value.slice A3 lB.length c3, Value.slice A4 lC.length c4].toArray 29 (0, 0)) ∧ wq.heap.size ≤ v0.heap.size ∧ ux.ownBlock ≠ some v0.heap.size ∧ kp ≠ v0.heap.size from ⟨blk_new v0 _, HZv0.out.1, fun e => by have := HOW.out.2 _ e; have := HZv0.out; omega, fun e => by have := HZv0.out; omega⟩)
          have HZwB := Aside0.mk (show wq.heap.size ≤ (v0.alloc (.cells [Value.slice A3 lB.length c3, Value.slice A4 lC.length c4].toArray 29)).heap.size ∧ wr.heap.size ≤ (v0.alloc (.cells [Value.slice A3 lB.length c3, Value.slice A4 lC.length c4].toArray 29)).heap.size ∧ kp < (v0.alloc (.cells [Value.slice A3 lB.length c3, Value.slice A4 lC.length c4].toArray 29)).heap.size from ⟨Nat.le_trans HZv0.out.1 hawB.size, Nat.le_trans HZv0.out.2.1 hawB.size, Nat.lt_of_lt_of_le HZv0.out.2.2 hawB.size⟩)
          clear hawB
          refine hKK.out _ _ ⟨blk_cell HBwB.out 3, blk_cell HBwB.out 4⟩ (fun hHeld => ?_)
          clear hKK K
          refine norm_ (a' := ?_) ?_ ?_
          rotate_left
          · show Act.put _ (some 88) _ = _
            simp only [Act.put, List.setIfInBounds_toArray, List.set_cons_zero, List.set_cons_succ, i64_w, i32_w]
            rfl
          obtain ⟨k2, hk2⟩ : ∃ k, k = v0.heap.size := ⟨_, rfl⟩
          rw [← hk2] at HK2wB ⊢
          clear hk2
          generalize v0.alloc (.cells [Value.slice A3 lB.length c3, Value.slice A4 lC.length c4].toArray 29) = wB at HDwB HBwB HPwB HK2wB HZwB hHeld ⊢
          refine one_ (i := 8) (N := some 81) #[true, true, true, true, true, true, true, true, true, false, true, true, true, true, true, true, false, false, false, false, false, false, false, false, false] rfl rfl (by kernel_rfl) (by decide) (fun K hKK => ?_)
          refine value_ (w1 := wB.alloc (.cells [Value.slice (some ⟨kp, 0, none⟩) lB.length cp, Value.slice A4 lC.length c4].toArray 29)) (v := .slice (some ⟨wB.heap.size, 0, none⟩) 2 2) (by rfl) rfl ?_ ?_
          · go_simp
            try rfl
          have hawB1 : Below wB.heap.size wB (wB.alloc (.cells [Value.slice (some ⟨kp, 0, none⟩) lB.length cp, Value.slice A4 lC.length c4].toArray 29)) := below_alloc (Below.refl _ _) _
          have HDwB1 := Aside0.mk (HDwB.out.below hawB1)
          have HBwB1 := Aside0.mk (blk_alloc HBwB.out (.cells [Value.slice (some ⟨kp, 0, none⟩) lB.length cp, Value.slice A4 lC.length c4].toArray 29))
          have HPwB1 := Aside0.mk (Kd.R_below HPwB.out hawB1)
          have HK1wB1 := Aside0.mk (show (wB.alloc (.cells [Value.slice (some ⟨kp, 0, none⟩) lB.length cp, Value.slice A4 lC.length c4].toArray 29)).heap[wB.heap.size]? = some (.cells [Value.slice (some ⟨kp, 0, none⟩) lB.length cp, Value.slice A4 lC.length c4].toArray 29 (0, 0)) ∧ wq.heap.size ≤ wB.heap.size ∧ u.ownBlock ≠ some wB.heap.size ∧ kp ≠ wB.heap.size from ⟨blk_new wB _, HZwB.out.1, fun e => by have := HOW.out.1 _ e; have := HZwB.out; omega, fun e => by have := HZwB.out; omega⟩)
          have HZwB1 := Aside0.mk (show wq.heap.size ≤ (wB.alloc (.cells [Value.slice (some ⟨kp, 0, none⟩) lB.length cp, Value.slice A4 lC.length c4].toArray 29)).heap.size ∧ wr.heap.size ≤ (wB.alloc (.cells [Value.slice (some ⟨kp, 0, none⟩) lB.length cp, Value.slice A4 lC.length c4].toArray 29)).heap.size ∧ kp < (wB.alloc (.cells [Value.slice (some ⟨kp, 0, none⟩) lB.length cp, Value.slice A4 lC.length c4].toArray 29)).heap.size from ⟨Nat.le_trans HZwB.out.1 hawB1.size, Nat.le_trans HZwB.out.2.1 hawB1.size, Nat.lt_of_lt_of_le HZwB.out.2.2 hawB1.size⟩)
          have HK2wB1 := Aside0.mk (show (wB.alloc (.cells [Value.slice (some ⟨kp, 0, none⟩) lB.length cp, Value.slice A4 lC.length c4].toArray 29)).heap[k2]? = some (.cells [Value.slice A3 lB.length c3, Value.slice A4 lC.length c4].toArray 29 (0, 0)) ∧ wq.heap.size ≤ k2 ∧ ux.ownBlock ≠ some k2 ∧ kp ≠ k2 from ⟨blk_alloc HK2wB.out.1 _, HK2wB.out.2⟩)
          clear hawB1
          refine hKK.out _ _ ⟨blk_cell HBwB1.out 3, blk_cell HBwB1.out 4⟩ (fun hHeld => ?_)
          clear hKK K
          refine norm_ (a' := ?_) ?_ ?_
          rotate_left
          · show Act.put _ (some 81) _ = _
            simp only [Act.put, List.setIfInBounds_toArray, List.set_cons_zero, List.set_cons_succ, i64_w, i32_w]
            rfl
          obtain ⟨k1, hk1⟩ : ∃ k, k = wB.heap.size := ⟨_, rfl⟩
          rw [← hk1] at HK1wB1 ⊢
          clear hk1
          generalize wB.alloc (.cells [Value.slice (some ⟨kp, 0, none⟩) lB.length cp, Value.slice A4 lC.length c4].toArray 29) = wB1 at HDwB1 HBwB1 HPwB1 HK1wB1 HZwB1 HK2wB1 hHeld ⊢
          refine one_ (i := 9) (N := some 82) #[true, true, true, true, true, true, true, true, true, true, true, true, true, true, true, true, false, false, false, false, false, false, false, false, false] rfl rfl (by kernel_rfl) (by decide) (fun K hKK => ?_)
          refine goes_ Try.func22 (by kernel_rfl) rfl #[.pointer (some ⟨g, 0, none⟩), .slice (some ⟨k1, 0, none⟩) 2 2] (by rfl) rfl rfl (by first | rfl | (simp only [List.map_toArray, List.map_cons, List.map_nil]; rfl)) ?_
          refine (raw1_ (k := k1) HDwB1.out HPs.out HPwB1.out HRO.out HK1wB1.out.1 (HDwB1.out.other HPs.out (by have := HK1wB1.out.2.1; have := HDq.out.kp.1; omega) HK1wB1.out.2.2.1 (own_lt_ HDq.out.ts.row HK1wB1.out.2.1)).1 HNP.out.1 HBi.out (by have := HLn.out; have := HI.out; omega) rr HRR.out L2 HLq.out).mono ?_
          rintro e wB2 ⟨rfl, u2, h1, h2⟩
          have HDwB2 := Aside0.mk h1
          have HBwB2 := Aside0.mk (blk_kept HBwB1.out h2.kept HNF.out.1)
          have HPwB2 := Aside0.mk (R_off HPwB1.out h2.kept (fun j hj hf => by obtain rfl : kp = j := Option.some.inj hj; exact HNP.out.1 hf))
          have HZwB2 := Aside0.mk (show wq.heap.size ≤ wB2.heap.size ∧ wr.heap.size ≤ wB2.heap.size ∧ kp < wB2.heap.size from ⟨Nat.le_trans HZwB1.out.1 h2.kept.1, Nat.le_trans HZwB1.out.2.1 h2.kept.1, Nat.lt_of_lt_of_le HZwB1.out.2.2 h2.kept.1⟩)
          have HU2 := Aside0.mk (show u2.ownBlock ≠ some kp from fun e => h2.own.elim (fun e2 => HNP.out.1 (.inr (e2 ▸ e))) (fun ⟨j, e2, hj⟩ => by rw [e2] at e; obtain rfl := Option.some.inj e; have := HZwB1.out.2.2; omega))
          have HK2wB2 := Aside0.mk (show wB2.heap[k2]? = some (.cells [Value.slice A3 lB.length c3, Value.slice A4 lC.length c4].toArray 29 (0, 0)) ∧ wq.heap.size ≤ k2 ∧ ux.ownBlock ≠ some k2 ∧ kp ≠ k2 from ⟨blk_kept HK2wB1.out.1 h2.kept (HDq.out.other HPs.out (by have := HK2wB1.out.2.1; have := HDq.out.kp.1; omega) (own_lt_ HDq.out.ws.row HK2wB1.out.2.1) HK2wB1.out.2.2.1).1, HK2wB1.out.2⟩)
          clear h1 h2
          refine ⟨_, rfl, ?_⟩
          refine hKK.out _ _ ⟨blk_cell HBwB2.out 3, blk_cell HBwB2.out 4⟩ (fun hHeld => ?_)
          clear hKK K
          refine norm_ (a' := ?_) ?_ ?_
          rotate_left
          · show Act.put _ (some 82) _ = _
            simp only [Act.put, List.setIfInBounds_toArray, List.set_cons_zero, List.set_cons_succ, i64_w, i32_w]
            rfl
          refine one_ (i := 16) (N := some 89) #[true, true, true, true, true, true, true, true, true, true, true, true, true, true, true, true, true, false, false, false, false, false, false, false, false] rfl rfl (by kernel_rfl) (by decide) (fun K hKK => ?_)
          refine goes_ Try.func23 (by kernel_rfl) rfl #[.pointer (some ⟨x, 0, none⟩), .slice (some ⟨k2, 0, none⟩) 2 2] (by rfl) rfl rfl (by first | rfl | (simp only [List.map_toArray, List.map_cons, List.map_nil]; rfl)) ?_
          refine (raw2_ (k := k2) HDwB2.out HPs.out HRO.out HK2wB2.out.1 ⟨fun e => by have := HK2wB2.out.2.1; have := HPs.out.xl; have := HDq.out.kp.1; omega, HK2wB2.out.2.2.1⟩ HBi.out (by have := HLn.out; have := HI.out; omega) rr HRR.out L2 HLq.out).mono ?_
          rintro e wB3 ⟨rfl, ux2, h1, h2⟩
          have HDwB3 := Aside0.mk h1
          have HBwB3 := Aside0.mk (blk_kept HBwB2.out h2.kept HNF.out.2)
          have HPwB3 := Aside0.mk (R_off HPwB2.out h2.kept (fun j hj hf => by obtain rfl : kp = j := Option.some.inj hj; exact HNP.out.2 hf))
          have HU3 := Aside0.mk (show ux2.ownBlock ≠ some kp from fun e => h2.own.elim (fun e2 => HNP.out.2 (.inr (e2 ▸ e))) (fun ⟨j, e2, hj⟩ => by rw [e2] at e; obtain rfl := Option.some.inj e; have := HZwB2.out.2.2; omega))
          clear h1 h2
          refine ⟨_, rfl, ?_⟩
          refine hKK.out _ _ ⟨blk_cell HBwB3.out 3, blk_cell HBwB3.out 4⟩ (fun hHeld => ?_)
          clear hKK K
          refine norm_ (a' := ?_) ?_ ?_
          rotate_left
          · show Act.put _ (some 89) _ = _
            simp only [Act.put, List.setIfInBounds_toArray, List.set_cons_zero, List.set_cons_succ, i64_w, i32_w]
            rfl
          refine pure_ (i := 17) (N := some 90) (v := .bool true) (a' := ?_) #[true, true, true, true, true, true, true, true, true, true, true, true, true, true, true, true, true, true, false, false, false, false, false, false, false] rfl rfl (by kernel_rfl) (fun _ _ _ h => h) (Or.inl ⟨by rfl, ?_⟩) ?_ ?_
          · intro w'
            go_simp
            try rfl
          rotate_left
          · simp only [Act.put, List.setIfInBounds_toArray, List.set_cons_zero, List.set_cons_succ, i64_w, i32_w]
            rfl
          refine pure_ (i := 18) (N := some 91) (v := ?_) (a' := ?_) #[true, true, true, true, true, true, true, true, true, true, true, true, true, true, true, true, true, true, true, false, false, false, false, false, false] rfl rfl (by kernel_rfl) (fun _ _ _ h => h) (Or.inl ⟨by rfl, ?_⟩) ?_ ?_
          rotate_left
          · intro w'
            go_simp
            with_reducible rfl
          rotate_left
          · simp only [Act.put, List.setIfInBounds_toArray, List.set_cons_zero, List.set_cons_succ, i64_w, i32_w]
            rfl
          refine pure_ (i := 19) (N := some 92) (v := ?_) (a' := ?_) #[true, true, true, true, true, true, true, true, true, true, true, true, true, true, true, true, true, true, true, true, false, false, false, false, false] rfl rfl (by kernel_rfl) (fun _ _ _ h => h) (Or.inl ⟨by rfl, ?_⟩) ?_ ?_
          rotate_left
          · intro w'
            go_simp
            with_reducible rfl
          rotate_left
          · simp only [Act.put, List.setIfInBounds_toArray, List.set_cons_zero, List.set_cons_succ, i64_w, i32_w]
            rfl
          refine pure_ (i := 20) (N := some 93) (v := ?_) (a' := ?_) #[true, true, true, true, true, true, true, true, true, true, true, true, true, true, true, true, true, true, true, true, true, false, false, false, false] rfl rfl (by kernel_rfl) (fun _ _ _ h => h) (Or.inl ⟨by rfl, ?_⟩) ?_ ?_
          rotate_left
          · intro w'
            go_simp
            with_reducible rfl
          rotate_left
          · simp only [Act.put, List.setIfInBounds_toArray, List.set_cons_zero, List.set_cons_succ, i64_w, i32_w]
            rfl
          refine take_ (i := 21) (N := some 94) (v := ?_) (a' := ?_) #[true, true, true, true, true, true, true, true, true, true, true, true, true, true, true, true, true, true, true, true, true, true, false, false, false] rfl rfl (by kernel_rfl) (fun _ _ _ h => h) (Or.inl ⟨by rfl, ?_⟩) hHeld ?_ ?_
          rotate_left
          · rintro w' ⟨s0, s1⟩
            go_simp
            with_reducible rfl
          rotate_left
          · simp only [Act.put, List.setIfInBounds_toArray, List.set_cons_zero, List.set_cons_succ, i64_w, i32_w]
            rfl
          refine one_ (i := 22) (N := some 95) #[true, true, true, true, true, true, true, true, true, true, true, true, true, true, true, true, true, true, true, true, true, true, true, false, false] rfl rfl (by kernel_rfl) (by decide) (fun K hKK => ?_)
          refine goes_ Try.func24 (by kernel_rfl) rfl #[.slice (some ⟨kp, 0, none⟩) (lB.length + 1) cp, .slice A3 lB.length c3] (by rfl) rfl rfl (by first | rfl | (simp only [List.map_toArray, List.map_cons, List.map_nil]; rfl)) ?_
          refine (stands_at kt (some ⟨kp, 0, none⟩) cp (lB ++ [171]) A3 c3 lB _ (lB.length + 1) (by simp) (Kd.R_reads' HPwB3.out).2.2 (Kd.R_reads' HPwB3.out).2.1 (Kd.C_below HRO.out.1.2 HDwB3.out.bl) HRO.out.1.1 HKT.out).mono ?_
          rintro e wz ⟨rfl, hd⟩
          have HDz := Aside0.mk (HDwB3.out.below hd.below)
          have HBz := Aside0.mk ((hd.below.block b (blk_lt HBwB3.out)).trans HBwB3.out)
          have HPz := Aside0.mk (Kd.R_below HPwB3.out hd.below)
          have HZz := Aside0.mk hd.below.size
          clear hd
          refine ⟨_, rfl, ?_⟩
          refine hKK.out _ _ ⟨blk_cell HBz.out 3, blk_cell HBz.out 4⟩ (fun hHeld => ?_)
          clear hKK K
          refine norm_ (a' := ?_) ?_ ?_
          rotate_left
          · show Act.put _ (some 95) _ = _
            simp only [Act.put, List.setIfInBounds_toArray, List.set_cons_zero, List.set_cons_succ, i64_w, i32_w]
            rfl
          refine pure_ (i := 23) (N := some 96) (v := ?_) (a' := ?_) #[true, true, true, true, true, true, true, true, true, true, true, true, true, true, true, true, true, true, true, true, true, true, true, true, false] rfl rfl (by kernel_rfl) (fun _ _ _ h => h) (Or.inl ⟨by rfl, ?_⟩) ?_ ?_
          rotate_left
          · intro w'
            go_simp
            with_reducible rfl
          rotate_left
          · simp only [Act.put, List.setIfInBounds_toArray, List.set_cons_zero, List.set_cons_succ, i64_w, i32_w]
            rfl
          refine pure_ (i := 24) (N := some 7) (v := ?_) (a' := ?_) #[true, true, true, true, true, true, true, true, true, true, true, true, true, true, true, true, true, true, true, true, true, true, true, true, true] rfl rfl (by kernel_rfl) (fun _ _ _ h => h) (Or.inl ⟨by rfl, ?_⟩) ?_ ?_
          rotate_left
          · intro w'
            go_simp
            with_reducible rfl
          rotate_left
          · simp only [Act.put, List.setIfInBounds_toArray, List.set_cons_zero, List.set_cons_succ, i64_w, i32_w]
            rfl
          refine done_ (by kernel_rfl) ?_
          go_wp2_with (first | ((with_reducible refine gate_callee (f := 25) rfl ?_); refine goesL_ (some 98) rfl rfl Try.func25 (by kernel_rfl) rfl #[.slice (some ⟨kp, 0, none⟩) (lB.length + 1) cp] rfl (by (try simp only [List.map_toArray, List.map_cons, List.map_nil]); first | done | rfl) ?_; refine (spoil_at (some ⟨kp, 0, none⟩) cp (lB ++ [171]) (lB.length + 1) (by simp) wz w.heap.size HDz.out.le (Kd.R_lower HPz.out HDx.out.le) (by have := HRO.out.2.2.2; simp; omega)).mono ?_; rintro e wy ⟨rfl, h1, h2⟩; refine ⟨_, rfl, ?_⟩; have HD6 := Aside0.mk (show Duo w w4 wy g x (tape L2) L2 u2 ux2 from HDz.out.far HPs.out h1 (fun k hk => by obtain rfl : kp = k := Option.some.inj hk; exact HNP2.out.1) (fun j hj hs => by obtain rfl : kp = j := Option.some.inj hs; exact HU2.out hj) (fun j hj hs => by obtain rfl : kp = j := Option.some.inj hs; exact HU3.out hj) (HDz.out.bl.trans h2)); clear h1 h2) | ((with_reducible refine gate_callee (f := 14) rfl ?_); refine gate_guard (by rfl) ?_; dsimp only; refine goesL_ (some 103) rfl rfl Try.func14 (by kernel_rfl) rfl #[.pointer (some ⟨g, 0, none⟩)] rfl (by (try simp only [List.map_toArray, List.map_cons, List.map_nil]); first | done | rfl) ?_; refine (Bytes_at g L2 bt HBT.out _ _ _ HD6.out.ws HB2.out HL2.out.2).mono ?_; rintro e w7 ⟨A7, c7, rfl, h1, h2⟩; refine ⟨_, rfl, ?_⟩; have HV7 := Aside0.mk h1; have HD7 := Aside0.mk (HD6.out.below h2); clear h1 h2) | ((with_reducible refine gate_callee (f := 26) rfl ?_); refine gate_guard (by rfl) ?_; dsimp only; refine goesL_ (some 105) rfl rfl Try.func26 (by kernel_rfl) rfl #[.pointer (some ⟨x, 0, none⟩)] rfl (by (try simp only [List.map_toArray, List.map_cons, List.map_nil]); first | done | rfl) ?_; refine (refBytes_at x L2 bt HBT.out _ _ _ HD7.out.le HD7.out.ts HB2.out HL2.out.2).mono ?_; rintro e w8 ⟨A8, c8, rfl, h1, h2⟩; refine ⟨_, rfl, ?_⟩; have HV8 := Aside0.mk h1; have HV78 := Aside0.mk (Kd.R_below HV7.out h2); have HD8 := Aside0.mk (HD7.out.below h2); clear h1 h2) | ((with_reducible refine gate_callee (f := 13) rfl ?_); refine gate_guard (by rfl) ?_; dsimp only; refine goesL_ (some 106) rfl rfl Try.func13 (by kernel_rfl) rfl #[.slice A7 bt.length c7, .slice A8 bt.length c8] rfl (by (try simp only [List.map_toArray, List.map_cons, List.map_nil]); first | done | rfl) ?_; refine (rubricatorlaw1_same.calls ks A7 c7 bt A8 c8 bt true _ (Kd.R_reads' HV78.out).2.2 (Kd.R_reads' HV78.out).2.1 (Kd.R_reads' HV8.out).2.2 (Kd.R_reads' HV8.out).2.1 HKS.out).mono ?_; rintro e w9 ⟨rfl, hd⟩; refine ⟨_, rfl, ?_⟩; have HD9 := Aside0.mk (HD8.out.below hd.below); clear hd) | ((with_reducible refine gate_callee (f := 14) rfl ?_); refine goesL_ (some 110) rfl rfl Try.func14 (by kernel_rfl) rfl #[.pointer (some ⟨g, 0, none⟩)] rfl (by (try simp only [List.map_toArray, List.map_cons, List.map_nil]); first | done | rfl) ?_; refine (Bytes_at g L2 bt HBT.out _ w9 _ HD9.out.ws HB2.out HL2.out.2).mono ?_; rintro e w10 ⟨A10, c10, rfl, h1, h2⟩; refine ⟨_, rfl, ?_⟩; have HV10 := Aside0.mk h1; have HD10 := Aside0.mk (HD9.out.below h2); have HS10 := Aside0.mk h2.size; clear h1 h2) | ((with_reducible refine gate_callee (f := 25) rfl ?_); refine goesL_ (some 111) rfl rfl Try.func25 (by kernel_rfl) rfl #[.slice A10 bt.length c10] rfl (by (try simp only [List.map_toArray, List.map_cons, List.map_nil]); first | done | rfl) ?_; refine (rubricatorlaw1_spoil.calls A10 c10 bt _ w9.heap.size HS10.out HV10.out (by have := HBl.out; omega)).mono ?_; rintro e w11 ⟨rfl, h1, h2⟩; refine ⟨_, rfl, ?_⟩; have HD11 := Aside0.mk (HD10.out.far HPs.out h1 (fun k hk => Nat.le_trans HD9.out.kp.1 ((Kd.R_bound HV10.out).1 k hk).2.1) (fun j hj hs => by have a1 := Kd.R_lt HD9.out.ws.row j hj; have a2 := ((Kd.R_bound HV10.out).1 j hs).2.1; omega) (fun j hj hs => by have a1 := Kd.R_lt HD9.out.ts.row j hj; have a2 := ((Kd.R_bound HV10.out).1 j hs).2.1; omega) (HD10.out.bl.trans (h2.mono (HD9.out.le)))); clear h1 h2))
          go_roundw
          case rel =>
            have := HI.out
            exact ⟨i + 1, _, L2, _, _, rfl, by rw [t5]; omega, by omega, by omega, HB2, ⟨HL2.out.1⟩, HD11⟩
          case measure =>
            have := HI.out
            simp only [intOf, t5]
            omega
      · as_aux_lemma =>
        have dk : (kd == 1) = false := beq_eq_false_iff_ne.mpr k1
        have dk2 : (kd == 2) = false := beq_eq_false_iff_ne.mpr k2
        have dk3 : (kd == 3) = false := beq_eq_false_iff_ne.mpr k3
        have dk4 : (kd == 4) = false := beq_eq_false_iff_ne.mpr k4
        clear k1 k2 k3 k4
        obtain ⟨L2, hL2⟩ : ∃ y, L = y := ⟨_, rfl⟩
        have HB2 := Aside0.mk (show ∀ z ∈ L2, Bit z from hL2 ▸ (show (∀ z ∈ L, Bit z) ∧ L.length ≤ L.length + 24 from ⟨HBi.out, by omega⟩).1)
        have HL2 := Aside0.mk (show L2.length ≤ (i + 1) * 40000 ∧ L2.length ≤ 400000000 by have h1 : L2.length ≤ L.length + 32000   := (by rw [← hL2]; exact Nat.le_trans (show (∀ z ∈ L, Bit z) ∧ L.length ≤ L.length + 24 from ⟨HBi.out, by omega⟩).2 (by have := HRO.out.2.2.2; omega)); have := HLn.out; have := HI.out; omega)
        obtain ⟨bt, hbt⟩ : ∃ y, bytesW (tape L2) = y := ⟨_, rfl⟩
        have HBT := Aside0.mk hbt
        have HBl := Aside0.mk (show bt.length ≤ 400000000 by have := bytesW_len L2 HB2.out; rw [hbt] at this; have := HL2.out; omega)
        obtain ⟨ks, hks⟩ := same_true bt (by have := HBl.out; omega)
        have HKS := Aside0.mk hks
        have HLq := Aside0.mk hL2
        clear hL2 hbt hks
        have HD6 := Aside0.mk (show Duo w w4 (wr.alloc (.cells #[.int .i64 kd, .int .i64 vv, .int .i64 nn, .slice A3 lB.length c3, .slice A4 lC.length c4] 38)) g x (tape L2) L2 u ux from by rw [← HLq.out]; exact HWX.out.1)
        go_wp2_with (first | ((with_reducible refine gate_callee (f := 14) rfl ?_); refine gate_guard (by rfl) ?_; dsimp only; refine goesL_ (some 103) rfl rfl Try.func14 (by kernel_rfl) rfl #[.pointer (some ⟨g, 0, none⟩)] rfl (by (try simp only [List.map_toArray, List.map_cons, List.map_nil]); first | done | rfl) ?_; refine (Bytes_at g L2 bt HBT.out _ _ _ HD6.out.ws HB2.out HL2.out.2).mono ?_; rintro e w7 ⟨A7, c7, rfl, h1, h2⟩; refine ⟨_, rfl, ?_⟩; have HV7 := Aside0.mk h1; have HD7 := Aside0.mk (HD6.out.below h2); clear h1 h2) | ((with_reducible refine gate_callee (f := 26) rfl ?_); refine gate_guard (by rfl) ?_; dsimp only; refine goesL_ (some 105) rfl rfl Try.func26 (by kernel_rfl) rfl #[.pointer (some ⟨x, 0, none⟩)] rfl (by (try simp only [List.map_toArray, List.map_cons, List.map_nil]); first | done | rfl) ?_; refine (refBytes_at x L2 bt HBT.out _ _ _ HD7.out.le HD7.out.ts HB2.out HL2.out.2).mono ?_; rintro e w8 ⟨A8, c8, rfl, h1, h2⟩; refine ⟨_, rfl, ?_⟩; have HV8 := Aside0.mk h1; have HV78 := Aside0.mk (Kd.R_below HV7.out h2); have HD8 := Aside0.mk (HD7.out.below h2); clear h1 h2) | ((with_reducible refine gate_callee (f := 13) rfl ?_); refine gate_guard (by rfl) ?_; dsimp only; refine goesL_ (some 106) rfl rfl Try.func13 (by kernel_rfl) rfl #[.slice A7 bt.length c7, .slice A8 bt.length c8] rfl (by (try simp only [List.map_toArray, List.map_cons, List.map_nil]); first | done | rfl) ?_; refine (rubricatorlaw1_same.calls ks A7 c7 bt A8 c8 bt true _ (Kd.R_reads' HV78.out).2.2 (Kd.R_reads' HV78.out).2.1 (Kd.R_reads' HV8.out).2.2 (Kd.R_reads' HV8.out).2.1 HKS.out).mono ?_; rintro e w9 ⟨rfl, hd⟩; refine ⟨_, rfl, ?_⟩; have HD9 := Aside0.mk (HD8.out.below hd.below); clear hd) | ((with_reducible refine gate_callee (f := 14) rfl ?_); refine goesL_ (some 110) rfl rfl Try.func14 (by kernel_rfl) rfl #[.pointer (some ⟨g, 0, none⟩)] rfl (by (try simp only [List.map_toArray, List.map_cons, List.map_nil]); first | done | rfl) ?_; refine (Bytes_at g L2 bt HBT.out _ w9 _ HD9.out.ws HB2.out HL2.out.2).mono ?_; rintro e w10 ⟨A10, c10, rfl, h1, h2⟩; refine ⟨_, rfl, ?_⟩; have HV10 := Aside0.mk h1; have HD10 := Aside0.mk (HD9.out.below h2); have HS10 := Aside0.mk h2.size; clear h1 h2) | ((with_reducible refine gate_callee (f := 25) rfl ?_); refine goesL_ (some 111) rfl rfl Try.func25 (by kernel_rfl) rfl #[.slice A10 bt.length c10] rfl (by (try simp only [List.map_toArray, List.map_cons, List.map_nil]); first | done | rfl) ?_; refine (rubricatorlaw1_spoil.calls A10 c10 bt _ w9.heap.size HS10.out HV10.out (by have := HBl.out; omega)).mono ?_; rintro e w11 ⟨rfl, h1, h2⟩; refine ⟨_, rfl, ?_⟩; have HD11 := Aside0.mk (HD10.out.far HPs.out h1 (fun k hk => Nat.le_trans HD9.out.kp.1 ((Kd.R_bound HV10.out).1 k hk).2.1) (fun j hj hs => by have a1 := Kd.R_lt HD9.out.ws.row j hj; have a2 := ((Kd.R_bound HV10.out).1 j hs).2.1; omega) (fun j hj hs => by have a1 := Kd.R_lt HD9.out.ts.row j hj; have a2 := ((Kd.R_bound HV10.out).1 j hs).2.1; omega) (HD10.out.bl.trans (h2.mono (HD9.out.le)))); clear h1 h2))
        go_roundw
        case rel =>
          have := HI.out
          exact ⟨i + 1, _, L2, _, _, rfl, by rw [t5]; omega, by omega, by omega, HB2, ⟨HL2.out.1⟩, HD11⟩
        case measure =>
          have := HI.out
          simp only [intOf, t5]
          omega
    · have hx : decide (ii < (acts.length : Int)) = false ∨ (decide (ii < (acts.length : Int)) = true ∧ decide (ii < 200) = false) := by
        by_cases hl1 : ii < (acts.length : Int)
        · exact .inr ⟨decide_eq_true hl1, decide_eq_false (fun hl2 => hll ⟨hl1, hl2⟩)⟩
        · exact .inl (decide_eq_false hl1)
      obtain ⟨bt, hbt⟩ : ∃ y, bytesW (tape L) = y := ⟨_, rfl⟩
      have HBT := Aside0.mk hbt
      have HI := Aside0.mk hi2
      obtain ⟨ks, hks⟩ := same_true bt (by have := bytesW_len L HBi.out; rw [hbt] at this; have := HLn.out; omega)
      have HKS := Aside0.mk hks
      clear hll hii hi1 hi2 hks hbt
      rcases hx with dl1 | ⟨dl1, dl2⟩
      all_goals
        go_wp2_with (first | ((with_reducible refine gate_callee (f := 14) rfl ?_); refine goesL_ (some 113) rfl rfl Try.func14 (by kernel_rfl) rfl #[.pointer (some ⟨g, 0, none⟩)] rfl (by (try simp only [List.map_toArray, List.map_cons, List.map_nil]); first | done | rfl) ?_; refine (Bytes_at g L bt HBT.out u wr _ HD.out.ws HBi.out (by have := HLn.out; have := HI.out; omega)).mono ?_; rintro e w7 ⟨A7, c7, rfl, h1, h2⟩; refine ⟨_, rfl, ?_⟩; have HV7 := Aside0.mk h1; have HD7 := Aside0.mk (HD.out.below h2); clear h1 h2) | ((with_reducible refine gate_callee (f := 26) rfl ?_); refine goesL_ (some 115) rfl rfl Try.func26 (by kernel_rfl) rfl #[.pointer (some ⟨x, 0, none⟩)] rfl (by (try simp only [List.map_toArray, List.map_cons, List.map_nil]); first | done | rfl) ?_; refine (refBytes_at x L bt HBT.out ux _ _ HD7.out.le HD7.out.ts HBi.out (by have := HLn.out; have := HI.out; omega)).mono ?_; rintro e w8 ⟨A8, c8, rfl, h1, h2⟩; refine ⟨_, rfl, ?_⟩; have HV8 := Aside0.mk h1; have HV78 := Aside0.mk (Kd.R_below HV7.out h2); have HD8 := Aside0.mk (HD7.out.below h2); clear h1 h2) | ((with_reducible refine gate_callee (f := 13) rfl ?_); refine goesL_ (some 116) rfl rfl Try.func13 (by kernel_rfl) rfl #[.slice A7 bt.length c7, .slice A8 bt.length c8] rfl (by (try simp only [List.map_toArray, List.map_cons, List.map_nil]); first | done | rfl) ?_; refine (rubricatorlaw1_same.calls ks A7 c7 bt A8 c8 bt true _ (Kd.R_reads' HV78.out).2.2 (Kd.R_reads' HV78.out).2.1 (Kd.R_reads' HV8.out).2.2 (Kd.R_reads' HV8.out).2.1 HKS.out).mono ?_; rintro e w9 ⟨rfl, hd⟩; refine ⟨_, rfl, ?_⟩; have HD9 := Aside0.mk (HD8.out.below hd.below); clear hd) | ((with_reducible refine gate_callee (f := 10) rfl ?_); refine gate_guard (by rfl) ?_; dsimp only; refine goesL_ (some 118) rfl rfl Try.func10 (by kernel_rfl) rfl #[] rfl (by (try simp only [List.map_toArray, List.map_cons, List.map_nil]); first | done | rfl) ?_; refine (rubricatorlaw1_known.calls _).mono ?_; rintro e wA ⟨rfl, hd⟩; refine ⟨_, rfl, ?_⟩; have HBA := Aside0.mk (HD9.out.bl.trans (hd.mono HD9.out.le)); clear hd))
        go_ret
        exact ⟨rfl, HBA.out⟩
set_option maxHeartbeats 4000000 in
set_option maxRecDepth 100000 in
theorem writes_out (A1 : Option Addr) (ca : Nat) (acts : List S38) (w : World) (kh : Nat) (hC1 : Kd.C k38 w A1 acts.length acts) (hca : acts.length ≤ ca) (hh : rubricatorlaw1_heavy.f kh acts = some true) :
    Calls Try.prog 4 #[.slice A1 acts.length ca] w fun e w' => e = .returned (.bool true) ∧ Below w.heap.size w w' := by
  have HC1 := Aside0.mk hC1
  have HCA := Aside0.mk hca
  have HH := Aside0.mk hh
  clear hC1 hca hh
  go_enter Try.func4, Try.ntmps4
  go_wp2_with ((with_reducible refine gate_callee (f := 15) rfl ?_); refine goesL_ (some 10) rfl rfl Try.func15 (by kernel_rfl) rfl #[.slice A1 acts.length ca] rfl (by (try simp only [List.map_toArray, List.map_cons, List.map_nil]); first | done | rfl) ?_; refine (rubricatorlaw1_heavy.calls kh A1 ca acts true w HC1.out HCA.out HH.out).mono ?_; rintro e w2 ⟨rfl, hd⟩; refine ⟨_, rfl, ?_⟩; have HB2 := Aside0.mk hd.below; clear hd)
  go_ret
  exact ⟨rfl, HB2.out⟩
def rubricatorlaw1_BitsWrites.W38 (x : S38) : Prop := ((Lit.int .i64 x.f0).wf = true) ∧ (((Lit.int .i64 x.f1).wf = true) ∧ (((Lit.int .i64 x.f2).wf = true) ∧ ((x.f3.length ≤ maxLen ∧ x.f3.length * 1 ≤ 140737488351232 ∧ ∀ y0_ ∈ x.f3, (Lit.int .u8 y0_).wf = true) ∧ (x.f4.length ≤ maxLen ∧ x.f4.length * 1 ≤ 140737488351232 ∧ ∀ y0_ ∈ x.f4, (Lit.int .u8 y0_).wf = true))))
theorem rubricatorlaw1_BitsWrites.opens38 {H : Type} {enc : TypeId × Value → H} {W : World} : Go.Proofs.YtblneonbilbaiaaOpen.Opens Try.prog H enc W k38 38 rubricatorlaw1_BitsWrites.W38 := by
  have h := Go.Proofs.YtblneonbilbaiaaOpen.opens_struct (H := H) (enc := enc) (W := W) Try.underlying38 (by kernel_rfl) (Go.Proofs.YtblneonbilbaiaaOpen.fields_cons (wf := (fun x => (Lit.int .i64 x).wf = true)) rfl (by kernel_rfl) (Go.Proofs.YtblneonbilbaiaaOpen.opens_int Try.underlying3) (Go.Proofs.YtblneonbilbaiaaOpen.fields_cons (wf := (fun x => (Lit.int .i64 x).wf = true)) rfl (by kernel_rfl) (Go.Proofs.YtblneonbilbaiaaOpen.opens_int Try.underlying3) (Go.Proofs.YtblneonbilbaiaaOpen.fields_cons (wf := (fun x => (Lit.int .i64 x).wf = true)) rfl (by kernel_rfl) (Go.Proofs.YtblneonbilbaiaaOpen.opens_int Try.underlying3) (Go.Proofs.YtblneonbilbaiaaOpen.fields_cons (wf := (fun x : List Int => x.length ≤ maxLen ∧ x.length * 1 ≤ 140737488351232 ∧ ∀ y0_ ∈ x, (Lit.int .u8 y0_).wf = true)) rfl (by kernel_rfl) (Go.Proofs.YtblneonbilbaiaaOpen.opens_slice (d := Kd.int .u8) (B := 1) Try.underlying29 (by kernel_rfl) (by decide) (by kernel_rfl) (Go.Proofs.YtblneonbilbaiaaOpen.opens_int Try.underlying5)) (Go.Proofs.YtblneonbilbaiaaOpen.fields_last (wf := (fun x : List Int => x.length ≤ maxLen ∧ x.length * 1 ≤ 140737488351232 ∧ ∀ y0_ ∈ x, (Lit.int .u8 y0_).wf = true)) rfl (by kernel_rfl) (Go.Proofs.YtblneonbilbaiaaOpen.opens_slice (d := Kd.int .u8) (B := 1) Try.underlying29 (by kernel_rfl) (by decide) (by kernel_rfl) (Go.Proofs.YtblneonbilbaiaaOpen.opens_int Try.underlying5)))))))
  exact Go.Proofs.YtblneonbilbaiaaOpen.opens_iso (fun x : S38 => (x.f0, x.f1, x.f2, x.f3, x.f4)) (fun a => ⟨⟨a.1, a.2.1, a.2.2.1, a.2.2.2.1, a.2.2.2.2⟩, rfl⟩) h
theorem rubricatorlaw1_BitsWrites.walk (A1 : Option Addr) (ca : Nat) (acts : List S38) (w : World) (hC1 : Kd.C k38 w A1 acts.length acts) (hca : acts.length ≤ ca) (hw : acts.length ≤ maxLen ∧ acts.length * 72 ≤ 140737488351232 ∧ ∀ y ∈ acts, rubricatorlaw1_BitsWrites.W38 y) :
    Calls Try.prog 4 #[.slice A1 acts.length ca] w fun e w' => e = .returned (.bool true) ∧ Below w.heap.size w w' := by
  obtain ⟨k, r, hk, hr⟩ := heavy_ev acts (by have := hw.2.1; omega)
  cases r with
  | true => exact writes_out A1 ca acts w k hC1 hca hk
  | false =>
    refine writes_walk A1 ca acts w k hC1 hca hk (hr rfl) (fun y hy => ?_)
    obtain ⟨_, _, _, h3, h4⟩ := hw.2.2 y hy
    exact ⟨fun c hc => by have := Go.Proofs.YtblneonbilbaiaaAid.wf_u8 (h3.2.2 c hc); unfold Byte; omega, fun c hc => by have := Go.Proofs.YtblneonbilbaiaaAid.wf_u8 (h4.2.2 c hc); unfold Byte; omega⟩
end Go.Proofs.Ytblneonbilbaiaa.PA
