/- A Writer and the document's one, side by side: what each step does to both. Fewer than 400000000 bits. -/
import Derived.Test.YtblneonbilbaiaaTape
import Derived.Test.YtblneonbilbaiaaHeavy
import Derived.Test.YtblneonbilbaiaaSpoil
namespace Go.Proofs.Ytblneonbilbaiaa.PA
open Go.RowKit Go.Proofs.YtblneonbilbaiaaW.PrintWords Go.Proofs.YtblneonbilbaiaaW.PrintLast Go.Proofs.YtblneonbilbaiaaW.PrintMore Go.Proofs.Ytblneonbilbaiaa.Mat
set_option linter.unusedVariables false
set_option linter.unusedSimpArgs false
structure Duo (w0 w4 W : World) (g x : Nat) (s : BW) (L : List Int) (u ux : Value) : Prop where
  ws : Wst w0.heap.size W g s.b s.p s.i u
  ts : Tst w0.heap.size W x L ux
  ow : ∀ k, u.ownBlock = some k → w4.heap.size ≤ k
  ox : ∀ k, ux.ownBlock = some k → w4.heap.size ≤ k
  ap : ∀ k, u.ownBlock = some k → ux.ownBlock = some k → False
  kp : Kept w4 W (fun k => k = g ∨ k = x)
  bl : Below w0.heap.size w0 W
structure Pos (w0 w4 : World) (g x : Nat) : Prop where
  ne : x ≠ g
  gl : g < w4.heap.size
  xl : x < w4.heap.size
  b4 : w0.heap.size ≤ w4.heap.size
section
variable {w0 w4 W W1 : World} {g x : Nat} {s s2 : BW} {L L2 : List Int} {u u2 ux ux2 : Value}
theorem Duo.below (h : Duo w0 w4 W g x s L u ux) (hb : Below W.heap.size W W1) : Duo w0 w4 W1 g x s L u ux :=
  ⟨h.ws.below hb, h.ts.below hb, h.ow, h.ox, h.ap, h.kp.below hb, h.bl.trans (hb.mono h.bl.size)⟩
theorem Duo.le (h : Duo w0 w4 W g x s L u ux) : w0.heap.size ≤ W.heap.size := h.bl.size
theorem Duo.onW (h : Duo w0 w4 W g x s L u ux) (hp : Pos w0 w4 g x) (h1 : Wst w0.heap.size W1 g s2.b s2.p s2.i u2) (ho : Wto w0.heap.size W g u W1 u2) : Duo w0 w4 W1 g x s2 L u2 ux := by
  have hnx : ¬ Foot g u x := fun hf => hf.elim hp.ne (fun e => by have := h.ow x e; have := hp.xl; omega)
  have hnu : ∀ j, ux.ownBlock = some j → ¬ Foot g u j := fun j hj hf => hf.elim (fun e => by have := h.ox j hj; have := hp.gl; omega) (fun e => h.ap j e hj)
  refine ⟨h1, h.ts.apart ho.kept hnx hnu, fun k hk => ?_, h.ox, fun k hk hk2 => ?_, h.kp.then_ ho.kept (fun k hf => hf.elim (fun e => .inl (.inl e)) (fun e => .inr (h.ow k e))), h.bl.trans ho.below⟩
  · rcases ho.own with e | ⟨j, e, hj⟩
    · exact h.ow k (e ▸ hk)
    · rw [e] at hk
      obtain rfl := Option.some.inj hk
      exact Nat.le_trans h.kp.1 hj
  · rcases ho.own with e | ⟨j, e, hj⟩
    · exact h.ap k (e ▸ hk) hk2
    · rw [e] at hk
      obtain rfl := Option.some.inj hk
      have := Kd.R_lt h.ts.row _ hk2
      omega
theorem Duo.onX (h : Duo w0 w4 W g x s L u ux) (hp : Pos w0 w4 g x) (h1 : Tst w0.heap.size W1 x L2 ux2) (ho : Wto w0.heap.size W x ux W1 ux2) : Duo w0 w4 W1 g x s L2 u ux2 := by
  have hng : ¬ Foot x ux g := fun hf => hf.elim (fun e => hp.ne e.symm) (fun e => by have := h.ox g e; have := hp.gl; omega)
  have hnu : ∀ j, u.ownBlock = some j → ¬ Foot x ux j := fun j hj hf => hf.elim (fun e => by have := h.ow j hj; have := hp.xl; omega) (fun e => h.ap j hj e)
  refine ⟨h.ws.apart ho.kept hng hnu, h1, h.ow, fun k hk => ?_, fun k hk2 hk => ?_, h.kp.then_ ho.kept (fun k hf => hf.elim (fun e => .inl (.inr e)) (fun e => .inr (h.ox k e))), h.bl.trans ho.below⟩
  · rcases ho.own with e | ⟨j, e, hj⟩
    · exact h.ox k (e ▸ hk)
    · rw [e] at hk
      obtain rfl := Option.some.inj hk
      exact Nat.le_trans h.kp.1 hj
  · rcases ho.own with e | ⟨j, e, hj⟩
    · exact h.ap k hk2 (e ▸ hk)
    · rw [e] at hk
      obtain rfl := Option.some.inj hk
      have := Kd.R_lt h.ws.row _ hk2
      omega
theorem Duo.far {S : Nat → Prop} (h : Duo w0 w4 W g x s L u ux) (hp : Pos w0 w4 g x) (hk : Kept W W1 S) (hS : ∀ k, S k → w4.heap.size ≤ k) (hu : ∀ j, u.ownBlock = some j → ¬ S j) (hx : ∀ j, ux.ownBlock = some j → ¬ S j) (hb : Below w0.heap.size w0 W1) : Duo w0 w4 W1 g x s L u ux :=
  ⟨h.ws.apart hk (fun e => by have := hS g e; have := hp.gl; omega) hu, h.ts.apart hk (fun e => by have := hS x e; have := hp.xl; omega) hx, h.ow, h.ox, h.ap, h.kp.then_ hk (fun k hs => .inr (hS k hs)), hb⟩
/-- A block that neither has. -/
theorem Duo.other (h : Duo w0 w4 W g x s L u ux) (hp : Pos w0 w4 g x) {k : Nat} (hk : w4.heap.size ≤ k) (hu : u.ownBlock ≠ some k) (hx : ux.ownBlock ≠ some k) : ¬ Foot g u k ∧ ¬ Foot x ux k :=
  ⟨fun hf => hf.elim (fun e => by have := hp.gl; omega) hu, fun hf => hf.elim (fun e => by have := hp.xl; omega) hx⟩
end

/-! ### the steps -/
def Fit (v n most : Int) : Prop := 0 ≤ n ∧ n ≤ most ∧ 0 ≤ v ∧ v < 2 ^ n.toNat
instance (v n most : Int) : Decidable (Fit v n most) := by unfold Fit; infer_instance
theorem pow_n (n : Int) (h0 : 0 ≤ n) (h1 : n ≤ 24) : 0 ≤ (2 : Int) ^ n.toNat ∧ (2 : Int) ^ n.toNat ≤ 16777216 := by
  have := Nat.pow_le_pow_right (n := 2) (by decide) (show n.toNat ≤ 24 by omega)
  have e : ((2 ^ n.toNat : Nat) : Int) = (2 : Int) ^ n.toNat := by simp
  rw [← e]
  exact ⟨Int.natCast_nonneg _, by omega⟩
theorem fits_f (v n most : Int) (hm : most ≤ 24) : bits_fits.f v n most = some (decide (Fit v n most)) := by
  unfold bits_fits.f
  by_cases h1 : n ≥ 0
  · rw [if_pos h1]
    by_cases h2 : n ≤ most
    · rw [if_pos h2]
      by_cases h3 : v ≥ 0
      · rw [if_pos h3, if_pos (by omega)]
        have hp := pow_n n h1 (by omega)
        have e : shl .i64 1 n = 2 ^ n.toNat := by
          have e1 : shl .i64 1 n = wrap64 (1 * 2 ^ min n.toNat 64) := i64_w _
          rw [e1, Nat.min_eq_left (by omega), Int.one_mul]
          generalize (2 : Int) ^ n.toNat = y at hp
          unfold wrap64
          omega
        rw [e]
        congr 1
        rw [decide_eq_decide]
        unfold Fit
        exact ⟨fun h => ⟨h1, h2, h3, h⟩, fun h => h.2.2.2⟩
      · rw [if_neg h3, decide_eq_false (fun h => h3 h.2.2.1)]
    · rw [if_neg h2, decide_eq_false (fun h => h2 h.2.1)]
  · rw [if_neg h1, decide_eq_false (fun h => h1 h.1)]
theorem not_fit {v n most : Int} (h : ¬ Fit v n most) : n < 0 ∨ most < n ∨ v < 0 ∨ (0 ≤ n ∧ n ≤ most ∧ 2 ^ n.toNat ≤ v) := by
  unfold Fit at h
  by_cases h1 : n < 0
  · exact .inl h1
  by_cases h2 : most < n
  · exact .inr (.inl h2)
  by_cases h3 : v < 0
  · exact .inr (.inr (.inl h3))
  · exact .inr (.inr (.inr ⟨by omega, by omega, by
      by_cases h4 : v < 2 ^ n.toNat
      · exact absurd ⟨by omega, by omega, by omega, h4⟩ h
      · omega⟩))
def laidL (k : Bool) (L : List Int) (v n : Int) : List Int := if k then (if Fit v n 24 then L ++ ups n.toNat 0 v else L) else (if Fit v n 15 then L ++ downs n.toNat v else L)
def laidR (k : Bool) (v n : Int) : Int := if Fit v n (if k then 24 else 15) then 0 else 1
theorem fit_lt {v n most : Int} (hm : most ≤ 24) (h : Fit v n most) : v < 9223372036854775808 := by
  have := pow_n n h.1 (by have := h.2.1; omega)
  have := h.2.2.2
  omega
theorem laid_bits (k : Bool) (L : List Int) (v n : Int) (hb : ∀ z ∈ L, Bit z) : (∀ z ∈ laidL k L v n, Bit z) ∧ (laidL k L v n).length ≤ L.length + 24 := by
  unfold laidL
  cases k
  · simp only [Bool.false_eq_true, if_false]
    split
    · rename_i h
      refine ⟨app_bits hb (downs_bits v _), ?_⟩
      have := h.1
      have := h.2.1
      rw [List.length_append, downs_len]
      omega
    · exact ⟨hb, by omega⟩
  · simp only [if_true]
    split
    · rename_i h
      refine ⟨app_bits hb (ups_bits v _ _), ?_⟩
      have := h.1
      have := h.2.1
      rw [List.length_append, ups_len]
      omega
    · exact ⟨hb, by omega⟩
theorem Put_all (g : Nat) (L : List Int) (v n : Int) (u : Value) (w : World) (b0 : Nat) (hbw : b0 ≤ w.heap.size) (h : Wst b0 w g (tape L).b (tape L).p (tape L).i u) (hb : ∀ z ∈ L, Bit z) (hl : L.length ≤ 400000000) :
    Calls Try.prog 12 #[.pointer (some ⟨g, 0, none⟩), .int .i64 v, .int .i64 n] w fun e w' => e = .returned (.int .i64 (laidR true v n)) ∧ ∃ u', Wst b0 w' g (tape (laidL true L v n)).b (tape (laidL true L v n)).p (tape (laidL true L v n)).i u' ∧ Wto b0 w g u w' u' := by
  have hf := fits_f v n 24 (by decide)
  unfold laidR laidL
  simp only [if_true]
  by_cases hF : Fit v n 24
  · rw [decide_eq_true hF] at hf
    rw [if_pos hF, if_pos hF]
    have := bits_Writer_Put.calls g (tape L) v n u w b0 hbw h (tape_ok L hb hl) hF.1 hF.2.1 hf
    rw [putW_tape v hF.2.2.1 (fit_lt (by decide) hF), ← tape_app] at this
    exact this
  · rw [decide_eq_false hF] at hf
    rw [if_neg hF, if_neg hF]
    refine (bits_Writer_Put.refuses g v n w hf).mono ?_
    rintro e w' ⟨he, hd⟩
    exact ⟨he, u, h.below hd.below, Wto.drawn (hd.below.mono hbw) hd.below⟩
theorem refPut_all (x : Nat) (L : List Int) (v n : Int) (u : Value) (w : World) (b0 : Nat) (hbw : b0 ≤ w.heap.size) (h : Tst b0 w x L u) (hl : L.length ≤ 400000000) :
    Calls Try.prog 16 #[.pointer (some ⟨x, 0, none⟩), .int .i64 v, .int .i64 n] w fun e w' => e = .returned (.int .i64 (laidR true v n)) ∧ ∃ u', Tst b0 w' x (laidL true L v n) u' ∧ Wto b0 w x u w' u' := by
  unfold laidR laidL
  simp only [if_true]
  by_cases hF : Fit v n 24
  · rw [if_pos hF, if_pos hF]
    exact refPut x L v n u w b0 hbw h (by omega) hF.1 hF.2.1 hF.2.2.1 hF.2.2.2
  · rw [if_neg hF, if_neg hF]
    refine (refPut_no (some ⟨x, 0, none⟩) v n w (not_fit hF)).mono ?_
    rintro e w' ⟨he, hd⟩
    exact ⟨he, u, h.below hd.below, Wto.drawn (hd.below.mono hbw) hd.below⟩
set_option maxHeartbeats 4000000 in
set_option maxRecDepth 100000 in
theorem bits_Writer_Code.refuses (g : Nat) (v n : Int) (w : World) (hf : bits_fits.f v n 15 = some false) :
    Calls Try.prog 17 #[.pointer (some ⟨g, 0, none⟩), .int .i64 v, .int .i64 n] w fun e w' => e = .returned (.int .i64 1) ∧ Drawn0 w w' := by
  have HF := Aside0.mk hf
  clear hf
  go_enter Try.func17, Try.ntmps17
  go_wp2_with ((with_reducible refine gate_callee (f := 36) rfl ?_); refine gate_guard (by rfl) ?_; dsimp only; refine goesL_ (some 13) rfl rfl Try.func36 (by kernel_rfl) rfl #[.int .i64 v, .int .i64 n, .int .i64 15] rfl (by (try simp only [List.map_toArray, List.map_cons, List.map_nil]); first | done | rfl) ?_; refine (bits_fits.calls v n 15 false _ HF.out).mono ?_; rintro e w1 ⟨rfl, hd⟩; refine ⟨_, rfl, ?_⟩; have HD := Aside0.mk hd; clear hd)
  go_ret
  exact ⟨rfl, HD.out⟩
theorem Code_all (g : Nat) (L : List Int) (v n : Int) (u : Value) (w : World) (b0 : Nat) (hbw : b0 ≤ w.heap.size) (h : Wst b0 w g (tape L).b (tape L).p (tape L).i u) (hb : ∀ z ∈ L, Bit z) (hl : L.length ≤ 400000000) :
    Calls Try.prog 17 #[.pointer (some ⟨g, 0, none⟩), .int .i64 v, .int .i64 n] w fun e w' => e = .returned (.int .i64 (laidR false v n)) ∧ ∃ u', Wst b0 w' g (tape (laidL false L v n)).b (tape (laidL false L v n)).p (tape (laidL false L v n)).i u' ∧ Wto b0 w g u w' u' := by
  have hf := fits_f v n 15 (by decide)
  unfold laidR laidL
  simp only [Bool.false_eq_true, if_false]
  by_cases hF : Fit v n 15
  · rw [decide_eq_true hF] at hf
    rw [if_pos hF, if_pos hF]
    have := bits_Writer_Code.calls g (tape L) v n u w b0 hbw h (tape_ok L hb hl) hF.1 hF.2.1 hf
    rw [codeW_tape v hF.2.2.1 (fit_lt (by decide) hF), ← tape_app] at this
    exact this
  · rw [decide_eq_false hF] at hf
    rw [if_neg hF, if_neg hF]
    refine (bits_Writer_Code.refuses g v n w hf).mono ?_
    rintro e w' ⟨he, hd⟩
    exact ⟨he, u, h.below hd.below, Wto.drawn (hd.below.mono hbw) hd.below⟩
theorem refCode_all (x : Nat) (L : List Int) (v n : Int) (u : Value) (w : World) (b0 : Nat) (hbw : b0 ≤ w.heap.size) (h : Tst b0 w x L u) (hl : L.length ≤ 400000000) :
    Calls Try.prog 18 #[.pointer (some ⟨x, 0, none⟩), .int .i64 v, .int .i64 n] w fun e w' => e = .returned (.int .i64 (laidR false v n)) ∧ ∃ u', Tst b0 w' x (laidL false L v n) u' ∧ Wto b0 w x u w' u' := by
  unfold laidR laidL
  simp only [Bool.false_eq_true, if_false]
  by_cases hF : Fit v n 15
  · rw [if_pos hF, if_pos hF]
    exact refCode x L v n u w b0 hbw h (by omega) hF.1 hF.2.1 hF.2.2.1 hF.2.2.2
  · rw [if_neg hF, if_neg hF]
    refine (refCode_no (some ⟨x, 0, none⟩) v n w (not_fit hF)).mono ?_
    rintro e w' ⟨he, hd⟩
    exact ⟨he, u, h.below hd.below, Wto.drawn (hd.below.mono hbw) hd.below⟩
def padL (L : List Int) : List Int := L ++ List.replicate (padN L.length) 0
theorem pad_bits (L : List Int) (hb : ∀ z ∈ L, Bit z) : (∀ z ∈ padL L, Bit z) ∧ (padL L).length ≤ L.length + 24 :=
  ⟨app_bits hb (rep_bits _), by unfold padL padN; rw [List.length_append, List.length_replicate]; omega⟩
theorem Align_all (g : Nat) (L : List Int) (u : Value) (w : World) (b0 : Nat) (hbw : b0 ≤ w.heap.size) (h : Wst b0 w g (tape L).b (tape L).p (tape L).i u) (hb : ∀ z ∈ L, Bit z) (hl : L.length ≤ 400000000) :
    Calls Try.prog 19 #[.pointer (some ⟨g, 0, none⟩)] w fun e w' => e = .returned (.tuple #[]) ∧ ∃ u', Wst b0 w' g (tape (padL L)).b (tape (padL L)).p (tape (padL L)).i u' ∧ Wto b0 w g u w' u' := by
  have := bits_Writer_Align.calls g (tape L) u w b0 hbw h (tape_ok L hb hl)
  rw [alignW_tape 8 L hb (by unfold padN; omega)] at this
  exact this
theorem refAlign_all (x : Nat) (L : List Int) (u : Value) (w : World) (b0 : Nat) (hbw : b0 ≤ w.heap.size) (h : Tst b0 w x L u) (hl : L.length ≤ 400000000) :
    Calls Try.prog 20 #[.pointer (some ⟨x, 0, none⟩)] w fun e w' => e = .returned (.tuple #[]) ∧ ∃ u', Tst b0 w' x (padL L) u' ∧ Wto b0 w x u w' u' :=
  refAlign_ x L u w b0 hbw h (by omega)
def rawL (L l : List Int) : List Int := if L.length % 8 = 0 then L ++ bits8 l else L
def rawR (L : List Int) : Int := if L.length % 8 = 0 then 0 else 1
theorem raw_bits (L l : List Int) (hb : ∀ z ∈ L, Bit z) : (∀ z ∈ rawL L l, Bit z) ∧ (rawL L l).length ≤ L.length + 8 * l.length := by
  unfold rawL
  split
  · exact ⟨app_bits hb (bits8_bits l), by rw [List.length_append, bits8_len]; omega⟩
  · exact ⟨hb, by omega⟩
theorem Raw_all (g : Nat) (L : List Int) (u : Value) (k n : Nat) (rs : List Lie) (w : World) (b0 : Nat) (hbw : b0 ≤ w.heap.size) (h : Wst b0 w g (tape L).b (tape L).p (tape L).i u) (hb : ∀ z ∈ L, Bit z) (hk : k ≠ g ∧ u.ownBlock ≠ some k) (hn : rs.length = n) (hbk : w.heap[k]? = some (.cells (rs.map Lie.v).toArray 29 (0, 0))) (hr : ∀ r ∈ rs, r.reads w g u) (hby : ∀ r ∈ rs, ∀ c ∈ r.l, Byte c) (hl : L.length + 8 * (flat rs).length ≤ 400000000) (hn2 : n ≤ 1000) :
    Calls Try.prog 22 #[.pointer (some ⟨g, 0, none⟩), .slice (some ⟨k, 0, none⟩) n n] w fun e w' => e = .returned (.int .i64 (rawR L)) ∧ ∃ u', Wst b0 w' g (tape (rawL L (flat rs))).b (tape (rawL L (flat rs))).p (tape (rawL L (flat rs))).i u' ∧ Wto b0 w g u w' u' := by
  obtain ⟨hi, hbl⟩ := tape_i L hb
  unfold rawL rawR
  have hfb : ∀ c ∈ flat rs, Byte c := by
    intro c hc
    unfold flat at hc
    rw [List.mem_flatten] at hc
    obtain ⟨l, hl, hc⟩ := hc
    rw [List.mem_map] at hl
    obtain ⟨r, hr, rfl⟩ := hl
    exact hby r hr c hc
  by_cases h8 : L.length % 8 = 0
  · rw [if_pos h8, if_pos h8]
    have := bits_Writer_Raw.calls g (tape L) u k n rs w b0 hbw h (tape_p L hb h8).1 hk hn hbk hr (by omega) hn2
    rw [raw_tape L (flat rs) hb h8 hfb]
    exact this
  · rw [if_neg h8, if_neg h8]
    refine (bits_Writer_Raw.refuses g (tape L) u _ n n w b0 h (by omega)).mono ?_
    rintro e w' ⟨he, hd⟩
    exact ⟨he, u, h.below hd.below, Wto.drawn (hd.below.mono hbw) hd.below⟩
theorem refRaw_all (x : Nat) (L : List Int) (u : Value) (k n : Nat) (rs : List Lie) (w : World) (b0 : Nat) (hbw : b0 ≤ w.heap.size) (h : Tst b0 w x L u) (hk : k ≠ x ∧ u.ownBlock ≠ some k) (hn : rs.length = n) (hbk : w.heap[k]? = some (.cells (rs.map Lie.v).toArray 29 (0, 0))) (hr : ∀ r ∈ rs, r.reads w x u) (hby : ∀ r ∈ rs, ∀ c ∈ r.l, Byte c) (hl : L.length + 8 * (flat rs).length ≤ 400000000) (hn2 : n ≤ 1000) :
    Calls Try.prog 23 #[.pointer (some ⟨x, 0, none⟩), .slice (some ⟨k, 0, none⟩) n n] w fun e w' => e = .returned (.int .i64 (rawR L)) ∧ ∃ u', Tst b0 w' x (rawL L (flat rs)) u' ∧ Wto b0 w x u w' u' := by
  unfold rawL rawR
  by_cases h8 : L.length % 8 = 0
  · rw [if_pos h8, if_pos h8]
    exact refRaw_calls x L u k n rs w b0 hbw h h8 hk hn hbk hr hby (by omega) hn2
  · rw [if_neg h8, if_neg h8]
    refine (refRaw_refuses x L u _ w b0 h h8 _ n n rfl).mono ?_
    rintro e w' ⟨he, hd⟩
    exact ⟨he, u, h.below hd.below, Wto.drawn (hd.below.mono hbw) hd.below⟩
theorem Bytes_all (g : Nat) (L : List Int) (u : Value) (w : World) (b0 : Nat) (h : Wst b0 w g (tape L).b (tape L).p (tape L).i u) (hb : ∀ z ∈ L, Bit z) (hl : L.length ≤ 400000000) :
    Calls Try.prog 14 #[.pointer (some ⟨g, 0, none⟩)] w fun e w' => ∃ A c, e = .returned (.slice A (bytesW (tape L)).length c) ∧ Kd.R (Kd.int .u8) 5 w' w.heap.size (fun _ => True) (.slice A (bytesW (tape L)).length c) (bytesW (tape L)) ∧ Below w.heap.size w w' := by
  refine (bits_Writer_Bytes.calls g (tape L) u w b0 h (by have := (tape_i L hb).2; omega)).mono ?_
  rintro e w' ⟨v, rfl, h1, h2⟩
  obtain ⟨A, c, rfl⟩ := Kd.R_slice h1
  exact ⟨A, c, rfl, h1, h2⟩
theorem refBytes_all (x : Nat) (L : List Int) (u : Value) (w : World) (b0 : Nat) (hbw : b0 ≤ w.heap.size) (h : Tst b0 w x L u) (hb : ∀ z ∈ L, Bit z) (hl : L.length ≤ 400000000) :
    Calls Try.prog 26 #[.pointer (some ⟨x, 0, none⟩)] w fun e w' => ∃ A c, e = .returned (.slice A (bytesW (tape L)).length c) ∧ Kd.R (Kd.int .u8) 5 w' w.heap.size (fun _ => True) (.slice A (bytesW (tape L)).length c) (bytesW (tape L)) ∧ Below w.heap.size w w' := by
  refine (refBytes x L u w b0 hbw h (by omega)).mono ?_
  rintro e w' ⟨v, rfl, h1, h2⟩
  rw [out_eq L hb] at h1
  obtain ⟨A, c, rfl⟩ := Kd.R_slice h1
  exact ⟨A, c, rfl, h1, h2⟩
end Go.Proofs.Ytblneonbilbaiaa.PA
