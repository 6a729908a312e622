/- BitsEdges: bytes are laid and taken on an edge alone. No conditions. -/
import Derived.Test.YtblneonbilbaiaaKnown
import Derived.Test.YtblneonbilbaiaaRaw
import Derived.Test.YtblneonbilbaiaaReadMath
namespace Go.Proofs.Ytblneonbilbaiaa.PA
open Go.Proofs.Ytblneonbilbaiaa.Mat Go.RowKit Go.Proofs.YtblneonbilbaiaaW.PrintWords Go.Proofs.YtblneonbilbaiaaW.PrintLast Go.Proofs.YtblneonbilbaiaaW.PrintMore
set_option linter.unusedVariables false
set_option linter.unusedSimpArgs false
theorem alignW_wf : ∀ (d : Nat) (s : BW), BW.wf s → (s.i = 0 ∨ 8 ≤ s.i + d) → BW.wf (alignW d s) ∧ (alignW d s).i = 0 ∧ BW.T (alignW d s) = (BW.T s + 7) / 8 * 8 ∧ BW.N (alignW d s) = BW.N s
  | 0, s, h, hi => by
    have h0 := h.i8
    have hz : s.i = 0 := by omega
    rw [alignW]
    refine ⟨h, hz, ?_, rfl⟩
    unfold BW.T
    omega
  | d + 1, s, h, hi => by
    rw [alignW]
    split
    · next hz =>
      refine ⟨h, hz, ?_, rfl⟩
      unfold BW.T
      omega
    · next hz =>
      obtain ⟨a1, a2, a3⟩ := bitW_wf h 0 (by decide) (by decide)
      have h0 := h.i0
      have h8 := h.i8
      have hb : (bitW s 0).i = bitI s.i := rfl
      have hi2 : (bitW s 0).i = 0 ∨ 8 ≤ (bitW s 0).i + d := by
        rw [hb]
        unfold bitI
        split <;> omega
      obtain ⟨b1, b2, b3, b4⟩ := alignW_wf d (bitW s 0) a1 hi2
      refine ⟨b1, b2, ?_, ?_⟩
      · rw [b3, a3]
        unfold BW.T
        omega
      · rw [b4, a2]
        simp
/-- Raw of one row: what the literal of rows is made of. -/
theorem raw_one (g : Nat) (s : BW) (u : Value) (A : Option Addr) (c : Nat) (l : List Int) (w0 W : World) (h : Wst w0.heap.size W g s.b s.p s.i u) (hB : Below w0.heap.size w0 W) (hi : s.i = 0) (hC : Kd.C (Kd.int .u8) w0 A l.length l) (hc : l.length ≤ c) (hl : s.b.length + l.length ≤ 900000000) :
    Calls Try.prog 22 #[.pointer (some ⟨g, 0, none⟩), .slice (some ⟨W.heap.size, 0, none⟩) 1 1] (W.alloc (.cells #[.slice A l.length c] 29)) fun e w' => e = .returned (.int .i64 0) ∧ ∃ u', Wst w0.heap.size w' g (s.b ++ l) s.p s.i u' ∧ Wto w0.heap.size W g u w' u' := by
  have ha : Below W.heap.size W (W.alloc (.cells #[.slice A l.length c] 29)) := below_alloc (Below.refl _ _) _
  have hu : ∀ k, u.ownBlock = some k → w0.heap.size ≤ k ∧ k < W.heap.size := fun k hk => ⟨((Kd.R_bound h.row).1 k hk).2.1, Kd.R_lt h.row k hk⟩
  have hgl := blk_lt h.blk
  have hfl : flat [⟨A, c, l⟩] = l := by simp [flat]
  have q := bits_Writer_Raw.calls g s u W.heap.size 1 [⟨A, c, l⟩] (W.alloc (.cells #[.slice A l.length c] 29)) w0.heap.size (Nat.le_trans hB.size ha.size) (h.below ha) hi ⟨by omega, fun e => by have := hu _ e; omega⟩ rfl (blk_new W _) (fun r hr => by
    simp only [List.mem_singleton] at hr
    subst hr
    exact ⟨hc, Kd.C_kept_came (Kd.heap_int _) hC (hB.trans (ha.mono hB.size)) (fun k hk => hk.elim (fun e => e ▸ h.base) (fun e => (hu k e).1))⟩) (by rw [hfl]; exact hl) (by decide)
  rw [hfl] at q
  refine q.mono ?_
  rintro e w' ⟨he, u', h1, h2⟩
  exact ⟨he, u', h1, (Wto.drawn (ha.mono hB.size) ha).trans h2⟩
theorem bits_Writer_Put.at_ (g : Nat) (s t : BW) (v n : Int) (u : Value) (w : World) (b0 : Nat) (hbw : b0 ≤ w.heap.size) (h : Wst b0 w g s.b s.p s.i u) (hs : s.ok 800000000) (hn : 0 ≤ n) (hn2 : n ≤ 24) (hf : bits_fits.f v n 24 = some true) (ht : putW n.toNat 0 s v = t) :
    Calls Try.prog 12 #[.pointer (some ⟨g, 0, none⟩), .int .i64 v, .int .i64 n] w fun e w' => e = .returned (.int .i64 0) ∧ ∃ u', Wst b0 w' g t.b t.p t.i u' ∧ Wto b0 w g u w' u' := by
  subst ht
  exact bits_Writer_Put.calls g s v n u w b0 hbw h hs hn hn2 hf
theorem bits_Writer_Align.at_ (g : Nat) (s t : BW) (u : Value) (w : World) (b0 : Nat) (hbw : b0 ≤ w.heap.size) (h : Wst b0 w g s.b s.p s.i u) (hs : s.ok 800000000) (ht : alignW 8 s = t) :
    Calls Try.prog 19 #[.pointer (some ⟨g, 0, none⟩)] w fun e w' => e = .returned (.tuple #[]) ∧ ∃ u', Wst b0 w' g t.b t.p t.i u' ∧ Wto b0 w g u w' u' := by
  subst ht
  exact bits_Writer_Align.calls g s u w b0 hbw h hs
theorem bits_Reader_Get.at_ (g : Nat) (b : List Int) (p : Nat) (n r : Int) (u : Value) (w : World) (b0 : Nat) (hbw : b0 ≤ w.heap.size) (h : Rst b0 w g b p u) (hp2 : p ≤ 8000000000) (hl : b.length < 1000000000)
    (hn : 0 ≤ n) (hn2 : n ≤ 24) (hnl : n ≤ b.length * 8 - p) (hr : getR b p n.toNat 0 0 = r) :
    Calls Try.prog 28 #[.pointer (some ⟨g, 0, none⟩), .int .i64 n] w fun e w' => e = .returned (.tuple #[.int .i64 r, .int .i64 0]) ∧ Rst b0 w' g b ((p + n.toNat : Nat) : Int) u ∧ Rto b0 w g w' := by
  subst hr
  exact bits_Reader_Get.calls g b p n u w b0 hbw h hp2 hl hn hn2 hnl
set_option maxHeartbeats 4000000 in
set_option maxRecDepth 100000 in
theorem edges_a (A : Option Addr) (c : Nat) (l : List Int) (n rv : Int) (s1 : BW) (L : List Int) (w : World) (hC : Kd.C (Kd.int .u8) w A l.length l) (hc : l.length ≤ c) (hl2 : l.length ≤ 2000) (hn : 0 ≤ n) (hn2 : n ≤ 24) (hf : bits_fits.f 0 n 24 = some true) (hs1 : putW n.toNat 0 ⟨[], 0, 0⟩ 0 = s1) (hL : L.length < 140737488355328 ∧ L.length < 1000000000 ∧ n ≤ (L.length : Int) * 8 - (0 : Nat)) (hrv : getR L 0 n.toNat 0 0 = rv) (hz : s1.i = 0) (hlb : bytesW ⟨s1.b ++ l, s1.p, s1.i⟩ = L) (hA : s1.b.length + l.length ≤ 900000000) (hm : n.toNat % 8 = 0 ∧ n.toNat / 8 + 1 ≤ L.length) (hpos : 0 < l.length) (h8 : Int.tmod n 8 = 0) :
    Calls Try.prog 9 #[.int .i64 n, .slice A l.length c] w fun e w' => e = .returned (.bool true) ∧ Below w.heap.size w w' := by
  have HN := Aside0.mk (And.intro hn hn2)
  have HF := Aside0.mk hf
  have HS1 := Aside0.mk hs1
  have HRV := Aside0.mk hrv
  have d1 : decide (n < 0) = false := decide_eq_false (by omega)
  have d2 : decide (24 < n) = false := decide_eq_false (by omega)
  have d3 : decide (2000 < (l.length : Int)) = false := decide_eq_false (by omega)
  have HZ := Aside0.mk hz
  have HA := Aside0.mk (And.intro hC (And.intro hc hA))
  have HLb := Aside0.mk (And.intro hlb hL)
  have HLs := Aside0.mk (show (s1.b ++ l).length < 1000000000 by rw [List.length_append]; omega)
  have HM := Aside0.mk hm
  have d4 : decide (0 < (l.length : Int)) = true := decide_eq_true (by omega)
  have d6 : decide (0 < l.length) = true := decide_eq_true hpos
  have d5 : (l = []) = False := eq_false (fun e => by subst e; simp at hpos)
  clear hC hc hn hn2 hf hs1 hL hrv hz hlb hA hm hpos hl2
  go_enter Try.func9, Try.ntmps9
  go_wp2_with (first | (go_at_call 11; refine (bits_New.made w).mono ?_; rintro e w1 ⟨rfl, h1, h2, h3⟩; have HU1 := Aside0.mk h1; have HB1 := Aside0.mk h2; clear h1 h2 h3) | ((with_reducible refine gate_callee (f := 12) rfl ?_); refine gate_guard (by rfl) ?_; dsimp only; refine goesL_ (some 34) rfl rfl Try.func12 (by kernel_rfl) rfl #[.pointer (some ⟨w.heap.size, 0, none⟩), .int .i64 0, .int .i64 n] rfl (by (try simp only [List.map_toArray, List.map_cons, List.map_nil]); first | done | rfl) ?_; refine (bits_Writer_Put.at_ w.heap.size ⟨[], 0, 0⟩ s1 0 n _ _ w.heap.size HB1.out.size HU1.out ⟨by decide, by decide, by simp⟩ HN.out.1 HN.out.2 HF.out HS1.out).mono ?_; rintro e w2 ⟨rfl, uR, h1, h2⟩; refine ⟨_, rfl, ?_⟩; have HU2 := Aside0.mk h1; have HB2 := Aside0.mk (HB1.out.trans h2.below); clear h1 h2) | ((with_reducible refine gate_callee (f := 22) rfl ?_); refine goesL_ (some 40) rfl rfl Try.func22 (by kernel_rfl) rfl #[.pointer (some ⟨w.heap.size, 0, none⟩), .slice (some ⟨_, 0, none⟩) 1 1] rfl (by (try simp only [List.map_toArray, List.map_cons, List.map_nil]); first | done | rfl) ?_; refine (raw_one w.heap.size s1 uR A c l w w2 HU2.out HB2.out HZ.out HA.out.1 HA.out.2.1 HA.out.2.2).mono ?_; rintro e w3 ⟨rfl, u3R, h1, h2⟩; refine ⟨_, rfl, ?_⟩; have HU3 := Aside0.mk h1; have HB3 := Aside0.mk (HB2.out.trans h2.below); clear h1 h2) | ((with_reducible refine gate_callee (f := 14) rfl ?_); refine goesL_ (some 57) rfl rfl Try.func14 (by kernel_rfl) rfl #[.pointer (some ⟨w.heap.size, 0, none⟩)] rfl (by (try simp only [List.map_toArray, List.map_cons, List.map_nil]); first | done | rfl) ?_; refine (bits_Writer_Bytes.calls w.heap.size ⟨s1.b ++ l, s1.p, s1.i⟩ _ _ w.heap.size HU3.out HLs.out).mono ?_; rintro e w6 ⟨v6, rfl, h1, h2⟩; refine ⟨_, rfl, ?_⟩; rw [HLb.out.1] at h1; obtain ⟨A6, c6, e6⟩ := Kd.R_slice h1; subst e6; have HO6 := Aside0.mk h1; have HB6 := Aside0.mk (HB3.out.trans (h2.mono HB3.out.size)); clear h1 h2) | ((with_reducible refine gate_callee (f := 27) rfl ?_); refine goesL_ (some 58) rfl rfl Try.func27 (by kernel_rfl) rfl #[.slice A6 L.length c6] rfl (by (try simp only [List.map_toArray, List.map_cons, List.map_nil]); first | done | rfl) ?_; refine (bits_Of.calls A6 c6 L _ (Kd.R_reads' HO6.out).2.2 (Kd.R_reads' HO6.out).2.1 HLb.out.2.1).mono ?_; rintro e w7 ⟨g, uQ, rfl, h1, h2, h3⟩; refine ⟨_, rfl, ?_⟩; have HR7 := Aside0.mk h1; have HB7 := Aside0.mk (HB6.out.trans (h2.mono HB6.out.size)); have HS7 := Aside0.mk h2.size; clear h1 h2 h3) | ((with_reducible refine gate_callee (f := 28) rfl ?_); refine goesL_ (some 62) rfl rfl Try.func28 (by kernel_rfl) rfl #[.pointer (some ⟨g, 0, none⟩), .int .i64 n] rfl (by (try simp only [List.map_toArray, List.map_cons, List.map_nil]); first | done | rfl) ?_; refine (bits_Reader_Get.at_ g L 0 n rv uQ _ w6.heap.size HS7.out HR7.out (by decide) HLb.out.2.2.1 HN.out.1 HN.out.2 HLb.out.2.2.2 HRV.out).mono ?_; rintro e w8 ⟨rfl, h1, h2⟩; refine ⟨_, rfl, ?_⟩; have HR8 := Aside0.mk h1; have HO8 := Aside0.mk h2; have HB8 := Aside0.mk (HB7.out.trans (h2.below.mono HB6.out.size)); clear h1 h2) | ((with_reducible refine gate_callee (f := 33) rfl ?_); refine goesL_ (some 67) rfl rfl Try.func33 (by kernel_rfl) rfl #[.pointer (some ⟨g, 0, none⟩), .int .i64 1] rfl (by (try simp only [List.map_toArray, List.map_cons, List.map_nil]); first | done | rfl) ?_; refine (bits_Reader_Raw.calls g L n.toNat 1 uQ _ w6.heap.size (Nat.le_trans HS7.out HO8.out.kept.1) (by have := HR8.out; rw [Nat.zero_add] at this; exact this) HLb.out.2.2.1 HM.out.1 HM.out.2).mono ?_; rintro e w9 ⟨v9, rfl, h0, h1, h2⟩; refine ⟨_, rfl, ?_⟩; obtain ⟨A9, c9, e9⟩ := Kd.R_slice h0; subst e9; have HB9 := Aside0.mk (HB8.out.trans (h2.below.mono HB6.out.size)); clear h0 h1 h2) | ((with_reducible refine gate_callee (f := 10) rfl ?_); refine gate_guard (by rfl) ?_; dsimp only; refine goesL_ (some 94) rfl rfl Try.func10 (by kernel_rfl) rfl #[] rfl (by (try simp only [List.map_toArray, List.map_cons, List.map_nil]); first | done | rfl) ?_; refine (rubricatorlaw1_known.calls _).mono ?_; rintro e wA ⟨rfl, hd⟩; refine ⟨_, rfl, ?_⟩; have HBA := Aside0.mk (HB9.out.trans (hd.mono HB9.out.size)); clear hd) | (go_at_call 10; refine (rubricatorlaw1_known.calls _).mono ?_; rintro e wA ⟨rfl, hd⟩; have HBA := Aside0.mk (HB9.out.trans (hd.mono HB9.out.size)); clear hd))
  go_ret
  exact ⟨rfl, HBA.out⟩
set_option maxHeartbeats 4000000 in
set_option maxRecDepth 100000 in
theorem edges_b (A : Option Addr) (c : Nat) (l : List Int) (n rv : Int) (s1 : BW) (L : List Int) (w : World) (hC : Kd.C (Kd.int .u8) w A l.length l) (hc : l.length ≤ c) (hl2 : l.length ≤ 2000) (hn : 0 ≤ n) (hn2 : n ≤ 24) (hf : bits_fits.f 0 n 24 = some true) (hs1 : putW n.toNat 0 ⟨[], 0, 0⟩ 0 = s1) (hL : L.length < 140737488355328 ∧ L.length < 1000000000 ∧ n ≤ (L.length : Int) * 8 - (0 : Nat)) (hrv : getR L 0 n.toNat 0 0 = rv) (hz : s1.i = 0) (hlb : bytesW ⟨s1.b ++ l, s1.p, s1.i⟩ = L) (hA : s1.b.length + l.length ≤ 900000000) (hm : n.toNat % 8 = 0 ∧ True ∧ n.toNat ≤ 8 * L.length ∧ (L.length : Int) - (n.toNat / 8 : Nat) < 1) (hpos : ¬ 0 < l.length) (h8 : Int.tmod n 8 = 0) :
    Calls Try.prog 9 #[.int .i64 n, .slice A l.length c] w fun e w' => e = .returned (.bool true) ∧ Below w.heap.size w w' := by
  have HN := Aside0.mk (And.intro hn hn2)
  have HF := Aside0.mk hf
  have HS1 := Aside0.mk hs1
  have HRV := Aside0.mk hrv
  have d1 : decide (n < 0) = false := decide_eq_false (by omega)
  have d2 : decide (24 < n) = false := decide_eq_false (by omega)
  have d3 : decide (2000 < (l.length : Int)) = false := decide_eq_false (by omega)
  have HZ := Aside0.mk hz
  have HA := Aside0.mk (And.intro hC (And.intro hc hA))
  have HLb := Aside0.mk (And.intro hlb hL)
  have HLs := Aside0.mk (show (s1.b ++ l).length < 1000000000 by rw [List.length_append]; omega)
  have HM := Aside0.mk hm
  have d4 : decide (0 < (l.length : Int)) = false := decide_eq_false (by omega)
  have d6 : decide (0 < l.length) = false := decide_eq_false hpos
  have d5 : (l = []) = True := eq_true (List.eq_nil_of_length_eq_zero (by omega))
  clear hC hc hn hn2 hf hs1 hL hrv hz hlb hA hm hpos hl2
  go_enter Try.func9, Try.ntmps9
  go_wp2_with (first | (go_at_call 11; refine (bits_New.made w).mono ?_; rintro e w1 ⟨rfl, h1, h2, h3⟩; have HU1 := Aside0.mk h1; have HB1 := Aside0.mk h2; clear h1 h2 h3) | ((with_reducible refine gate_callee (f := 12) rfl ?_); refine gate_guard (by rfl) ?_; dsimp only; refine goesL_ (some 34) rfl rfl Try.func12 (by kernel_rfl) rfl #[.pointer (some ⟨w.heap.size, 0, none⟩), .int .i64 0, .int .i64 n] rfl (by (try simp only [List.map_toArray, List.map_cons, List.map_nil]); first | done | rfl) ?_; refine (bits_Writer_Put.at_ w.heap.size ⟨[], 0, 0⟩ s1 0 n _ _ w.heap.size HB1.out.size HU1.out ⟨by decide, by decide, by simp⟩ HN.out.1 HN.out.2 HF.out HS1.out).mono ?_; rintro e w2 ⟨rfl, uR, h1, h2⟩; refine ⟨_, rfl, ?_⟩; have HU2 := Aside0.mk h1; have HB2 := Aside0.mk (HB1.out.trans h2.below); clear h1 h2) | ((with_reducible refine gate_callee (f := 22) rfl ?_); refine goesL_ (some 40) rfl rfl Try.func22 (by kernel_rfl) rfl #[.pointer (some ⟨w.heap.size, 0, none⟩), .slice (some ⟨_, 0, none⟩) 1 1] rfl (by (try simp only [List.map_toArray, List.map_cons, List.map_nil]); first | done | rfl) ?_; refine (raw_one w.heap.size s1 uR A c l w w2 HU2.out HB2.out HZ.out HA.out.1 HA.out.2.1 HA.out.2.2).mono ?_; rintro e w3 ⟨rfl, u3R, h1, h2⟩; refine ⟨_, rfl, ?_⟩; have HU3 := Aside0.mk h1; have HB3 := Aside0.mk (HB2.out.trans h2.below); clear h1 h2) | ((with_reducible refine gate_callee (f := 14) rfl ?_); refine goesL_ (some 57) rfl rfl Try.func14 (by kernel_rfl) rfl #[.pointer (some ⟨w.heap.size, 0, none⟩)] rfl (by (try simp only [List.map_toArray, List.map_cons, List.map_nil]); first | done | rfl) ?_; refine (bits_Writer_Bytes.calls w.heap.size ⟨s1.b ++ l, s1.p, s1.i⟩ _ _ w.heap.size HU3.out HLs.out).mono ?_; rintro e w6 ⟨v6, rfl, h1, h2⟩; refine ⟨_, rfl, ?_⟩; rw [HLb.out.1] at h1; obtain ⟨A6, c6, e6⟩ := Kd.R_slice h1; subst e6; have HO6 := Aside0.mk h1; have HB6 := Aside0.mk (HB3.out.trans (h2.mono HB3.out.size)); clear h1 h2) | ((with_reducible refine gate_callee (f := 27) rfl ?_); refine goesL_ (some 58) rfl rfl Try.func27 (by kernel_rfl) rfl #[.slice A6 L.length c6] rfl (by (try simp only [List.map_toArray, List.map_cons, List.map_nil]); first | done | rfl) ?_; refine (bits_Of.calls A6 c6 L _ (Kd.R_reads' HO6.out).2.2 (Kd.R_reads' HO6.out).2.1 HLb.out.2.1).mono ?_; rintro e w7 ⟨g, uQ, rfl, h1, h2, h3⟩; refine ⟨_, rfl, ?_⟩; have HR7 := Aside0.mk h1; have HB7 := Aside0.mk (HB6.out.trans (h2.mono HB6.out.size)); have HS7 := Aside0.mk h2.size; clear h1 h2 h3) | ((with_reducible refine gate_callee (f := 28) rfl ?_); refine goesL_ (some 62) rfl rfl Try.func28 (by kernel_rfl) rfl #[.pointer (some ⟨g, 0, none⟩), .int .i64 n] rfl (by (try simp only [List.map_toArray, List.map_cons, List.map_nil]); first | done | rfl) ?_; refine (bits_Reader_Get.at_ g L 0 n rv uQ _ w6.heap.size HS7.out HR7.out (by decide) HLb.out.2.2.1 HN.out.1 HN.out.2 HLb.out.2.2.2 HRV.out).mono ?_; rintro e w8 ⟨rfl, h1, h2⟩; refine ⟨_, rfl, ?_⟩; have HR8 := Aside0.mk h1; have HO8 := Aside0.mk h2; have HB8 := Aside0.mk (HB7.out.trans (h2.below.mono HB6.out.size)); clear h1 h2) | ((with_reducible refine gate_callee (f := 33) rfl ?_); refine goesL_ (some 67) rfl rfl Try.func33 (by kernel_rfl) rfl #[.pointer (some ⟨g, 0, none⟩), .int .i64 1] rfl (by (try simp only [List.map_toArray, List.map_cons, List.map_nil]); first | done | rfl) ?_; refine (bits_Reader_Raw.short g L n.toNat 1 uQ _ w6.heap.size (Nat.le_trans HS7.out HO8.out.kept.1) (by have := HR8.out; rw [Nat.zero_add] at this; exact this) HM.out.2.2.1 HLb.out.2.2.1 (by decide) HM.out.1 HM.out.2.2.2).mono ?_; rintro e w9 ⟨rfl, hd⟩; refine ⟨_, rfl, ?_⟩; have HB9 := Aside0.mk (HB8.out.trans (hd.below.mono HB8.out.size)); clear hd) | ((with_reducible refine gate_callee (f := 10) rfl ?_); refine gate_guard (by rfl) ?_; dsimp only; refine goesL_ (some 94) rfl rfl Try.func10 (by kernel_rfl) rfl #[] rfl (by (try simp only [List.map_toArray, List.map_cons, List.map_nil]); first | done | rfl) ?_; refine (rubricatorlaw1_known.calls _).mono ?_; rintro e wA ⟨rfl, hd⟩; refine ⟨_, rfl, ?_⟩; have HBA := Aside0.mk (HB9.out.trans (hd.mono HB9.out.size)); clear hd) | (go_at_call 10; refine (rubricatorlaw1_known.calls _).mono ?_; rintro e wA ⟨rfl, hd⟩; have HBA := Aside0.mk (HB9.out.trans (hd.mono HB9.out.size)); clear hd))
  go_ret
  exact ⟨rfl, HBA.out⟩
theorem raw_no (g : Nat) (s : BW) (u : Value) (v : Value) (W : World) (b0 : Nat) (h : Wst b0 W g s.b s.p s.i u) (hi : 0 < s.i) :
    Calls Try.prog 22 #[.pointer (some ⟨g, 0, none⟩), .slice (some ⟨W.heap.size, 0, none⟩) 1 1] (W.alloc (.cells #[v] 29)) fun e w' => e = .returned (.int .i64 1) ∧ Below W.heap.size W w' := by
  have ha : Below W.heap.size W (W.alloc (.cells #[v] 29)) := below_alloc (Below.refl _ _) _
  refine (bits_Writer_Raw.refuses g s u _ 1 1 _ b0 (h.below ha) hi).mono ?_
  rintro e w' ⟨he, hd⟩
  exact ⟨he, ha.trans (hd.below.mono ha.size)⟩
theorem bits_Reader_Align.at_ (g : Nat) (b : List Int) (p P : Nat) (r : Int) (u : Value) (w : World) (b0 : Nat) (hbw : b0 ≤ w.heap.size) (h : Rst b0 w g b p u) (hp2 : p ≤ 8000000000) (hr : (((p + 7) / 8 : Nat) : Int) = r) (hP : (p + 7) / 8 * 8 = P) :
    Calls Try.prog 31 #[.pointer (some ⟨g, 0, none⟩)] w fun e w' => e = .returned (.int .i64 r) ∧ Rst b0 w' g b (P : Int) u ∧ Rto b0 w g w' := by
  subst hr
  subst hP
  exact bits_Reader_Align.calls g b p u w b0 hbw h hp2
theorem bits_Reader_Left.at_ (g : Nat) (b : List Int) (p r : Int) (u : Value) (w : World) (b0 : Nat) (hbw : b0 ≤ w.heap.size) (h : Rst b0 w g b p u) (hp : 0 ≤ p) (hp2 : p ≤ 8000000000) (hl : b.length < 1000000000) (hr : (b.length : Int) * 8 - p = r) :
    Calls Try.prog 29 #[.pointer (some ⟨g, 0, none⟩)] w fun e w' => e = .returned (.int .i64 r) ∧ Drawn0 w w' := by
  subst hr
  exact bits_Reader_Left.calls g b p u w b0 hbw h hp hp2 hl
set_option maxHeartbeats 4000000 in
set_option maxRecDepth 100000 in
theorem edges_c (A : Option Addr) (c : Nat) (l : List Int) (n rv : Int) (s1 : BW) (L : List Int) (w : World) (hC : Kd.C (Kd.int .u8) w A l.length l) (hc : l.length ≤ c) (hl2 : l.length ≤ 2000) (hn : 0 ≤ n) (hn2 : n ≤ 24) (hf : bits_fits.f 0 n 24 = some true) (hs1 : putW n.toNat 0 ⟨[], 0, 0⟩ 0 = s1) (hL : L.length < 140737488355328 ∧ L.length < 1000000000 ∧ n ≤ (L.length : Int) * 8 - (0 : Nat)) (hrv : getR L 0 n.toNat 0 0 = rv) (s3 : BW) (P ks : Nat) (kk : Int) (hz : 0 < s1.i) (hz3 : s3.i = 0) (hok : s1.ok 800000000 ∧ alignW 8 s1 = s3) (hlb : bytesW ⟨s3.b ++ l, s3.p, s3.i⟩ = L) (hA : s3.b.length + l.length ≤ 900000000)
    (hm : n.toNat % 8 ≠ 0 ∧ (((n.toNat + 7) / 8 : Nat) : Int) = kk ∧ (n.toNat + 7) / 8 * 8 = P ∧ P % 8 = 0 ∧ P / 8 + l.length ≤ L.length ∧ (L.take (P / 8 + l.length)).drop (P / 8) = l ∧ ((P + 8 * l.length : Nat) : Int) ≤ 8000000000 ∧ (L.length : Int) * 8 - ((P + 8 * l.length : Nat) : Int) = 0)
    (hks : rubricatorlaw1_same.f ks l l = some true) (hkk : wrap64 (Int.tdiv (wrap64 (n + 7)) 8) = kk) (h8 : (Int.tmod n 8 == 0) = false) :
    Calls Try.prog 9 #[.int .i64 n, .slice A l.length c] w fun e w' => e = .returned (.bool true) ∧ Below w.heap.size w w' := by
  have HN := Aside0.mk (And.intro hn hn2)
  have HF := Aside0.mk hf
  have HS1 := Aside0.mk hs1
  have HRV := Aside0.mk hrv
  have d1 : decide (n < 0) = false := decide_eq_false (by omega)
  have d2 : decide (24 < n) = false := decide_eq_false (by omega)
  have d3 : decide (2000 < (l.length : Int)) = false := decide_eq_false (by omega)
  have HZ := Aside0.mk hz
  have HZ3 := Aside0.mk hz3
  have HOK := Aside0.mk hok
  have HKS := Aside0.mk hks
  have HA := Aside0.mk (And.intro hC (And.intro hc hA))
  have HLb := Aside0.mk (And.intro hlb hL)
  have HLs := Aside0.mk (show (s3.b ++ l).length < 1000000000 by rw [List.length_append]; omega)
  have HM := Aside0.mk hm
  have h8b : (Int.tmod n 8 != 0) = true := by rw [bne, h8]; rfl
  have hkw : IntKind.i64.wrap (Int.tdiv (wrap64 (n + 7)) 8) = kk := (i64_w _).trans hkk
  clear hC hc hn hn2 hf hs1 hL hrv hz hlb hA hm hl2 hz3 hok hks
  go_enter Try.func9, Try.ntmps9
  go_wp2_with (first | (go_at_call 11; refine (bits_New.made w).mono ?_; rintro e w1 ⟨rfl, h1, h2, h3⟩; have HU1 := Aside0.mk h1; have HB1 := Aside0.mk h2; clear h1 h2 h3) | ((with_reducible refine gate_callee (f := 12) rfl ?_); refine gate_guard (by rfl) ?_; dsimp only; refine goesL_ (some 34) rfl rfl Try.func12 (by kernel_rfl) rfl #[.pointer (some ⟨w.heap.size, 0, none⟩), .int .i64 0, .int .i64 n] rfl (by (try simp only [List.map_toArray, List.map_cons, List.map_nil]); first | done | rfl) ?_; refine (bits_Writer_Put.at_ w.heap.size ⟨[], 0, 0⟩ s1 0 n _ _ w.heap.size HB1.out.size HU1.out ⟨by decide, by decide, by simp⟩ HN.out.1 HN.out.2 HF.out HS1.out).mono ?_; rintro e w2 ⟨rfl, uR, h1, h2⟩; refine ⟨_, rfl, ?_⟩; have HU2 := Aside0.mk h1; have HB2 := Aside0.mk (HB1.out.trans h2.below); clear h1 h2) | ((with_reducible refine gate_callee (f := 22) rfl ?_); refine goesL_ (some 40) rfl rfl Try.func22 (by kernel_rfl) rfl #[.pointer (some ⟨w.heap.size, 0, none⟩), .slice (some ⟨_, 0, none⟩) 1 1] rfl (by (try simp only [List.map_toArray, List.map_cons, List.map_nil]); first | done | rfl) ?_; refine (raw_no w.heap.size s1 uR _ w2 w.heap.size HU2.out HZ.out).mono ?_; rintro e w3 ⟨rfl, hd⟩; refine ⟨_, rfl, ?_⟩; have HU3 := Aside0.mk (HU2.out.below hd); have HB3 := Aside0.mk (HB2.out.trans (hd.mono HB2.out.size)); clear hd) | ((with_reducible refine gate_callee (f := 19) rfl ?_); refine goesL_ (some 50) rfl rfl Try.func19 (by kernel_rfl) rfl #[.pointer (some ⟨w.heap.size, 0, none⟩)] rfl (by (try simp only [List.map_toArray, List.map_cons, List.map_nil]); first | done | rfl) ?_; refine (bits_Writer_Align.at_ w.heap.size s1 s3 uR _ w.heap.size HB3.out.size HU3.out HOK.out.1 HOK.out.2).mono ?_; rintro e w4 ⟨rfl, uS, h1, h2⟩; refine ⟨_, rfl, ?_⟩; have HU4 := Aside0.mk h1; have HB4 := Aside0.mk (HB3.out.trans h2.below); clear h1 h2) | ((with_reducible refine gate_callee (f := 22) rfl ?_); refine goesL_ (some 54) rfl rfl Try.func22 (by kernel_rfl) rfl #[.pointer (some ⟨w.heap.size, 0, none⟩), .slice (some ⟨_, 0, none⟩) 1 1] rfl (by (try simp only [List.map_toArray, List.map_cons, List.map_nil]); first | done | rfl) ?_; refine (raw_one w.heap.size s3 uS A c l w w4 HU4.out HB4.out HZ3.out HA.out.1 HA.out.2.1 HA.out.2.2).mono ?_; rintro e w5 ⟨rfl, u5R, h1, h2⟩; refine ⟨_, rfl, ?_⟩; have HU5 := Aside0.mk h1; have HB5 := Aside0.mk (HB4.out.trans h2.below); clear h1 h2) | ((with_reducible refine gate_callee (f := 14) rfl ?_); refine goesL_ (some 57) rfl rfl Try.func14 (by kernel_rfl) rfl #[.pointer (some ⟨w.heap.size, 0, none⟩)] rfl (by (try simp only [List.map_toArray, List.map_cons, List.map_nil]); first | done | rfl) ?_; refine (bits_Writer_Bytes.calls w.heap.size ⟨s3.b ++ l, s3.p, s3.i⟩ _ _ w.heap.size HU5.out HLs.out).mono ?_; rintro e w6 ⟨v6, rfl, h1, h2⟩; refine ⟨_, rfl, ?_⟩; rw [HLb.out.1] at h1; obtain ⟨A6, c6, e6⟩ := Kd.R_slice h1; subst e6; have HO6 := Aside0.mk h1; have HB6 := Aside0.mk (HB5.out.trans (h2.mono HB5.out.size)); clear h1 h2) | ((with_reducible refine gate_callee (f := 27) rfl ?_); refine goesL_ (some 58) rfl rfl Try.func27 (by kernel_rfl) rfl #[.slice A6 L.length c6] rfl (by (try simp only [List.map_toArray, List.map_cons, List.map_nil]); first | done | rfl) ?_; refine (bits_Of.calls A6 c6 L _ (Kd.R_reads' HO6.out).2.2 (Kd.R_reads' HO6.out).2.1 HLb.out.2.1).mono ?_; rintro e w7 ⟨g, uQ, rfl, h1, h2, h3⟩; refine ⟨_, rfl, ?_⟩; have HR7 := Aside0.mk h1; have HB7 := Aside0.mk (HB6.out.trans (h2.mono HB6.out.size)); have HS7 := Aside0.mk h2.size; clear h1 h2 h3) | ((with_reducible refine gate_callee (f := 28) rfl ?_); refine goesL_ (some 62) rfl rfl Try.func28 (by kernel_rfl) rfl #[.pointer (some ⟨g, 0, none⟩), .int .i64 n] rfl (by (try simp only [List.map_toArray, List.map_cons, List.map_nil]); first | done | rfl) ?_; refine (bits_Reader_Get.at_ g L 0 n rv uQ _ w6.heap.size HS7.out HR7.out (by decide) HLb.out.2.2.1 HN.out.1 HN.out.2 HLb.out.2.2.2 HRV.out).mono ?_; rintro e w8 ⟨rfl, h1, h2⟩; refine ⟨_, rfl, ?_⟩; have HR8 := Aside0.mk h1; have HO8 := Aside0.mk h2; have HB8 := Aside0.mk (HB7.out.trans (h2.below.mono HB6.out.size)); clear h1 h2) | ((with_reducible refine gate_callee (f := 33) rfl ?_); refine goesL_ (some 67) rfl rfl Try.func33 (by kernel_rfl) rfl #[.pointer (some ⟨g, 0, none⟩), .int .i64 1] rfl (by (try simp only [List.map_toArray, List.map_cons, List.map_nil]); first | done | rfl) ?_; refine (bits_Reader_Raw.refuses g L n.toNat 1 uQ _ w6.heap.size (by have := HR8.out; rw [Nat.zero_add] at this; exact this) (.inr HM.out.1)).mono ?_; rintro e w9 ⟨rfl, hd⟩; refine ⟨_, rfl, ?_⟩; have HR9 := Aside0.mk (Rst.below (by have := HR8.out; rw [Nat.zero_add] at this; exact this) hd.below); have HO9 := Aside0.mk (HO8.out.trans (Rto.drawn (hd.below.mono (Nat.le_trans HS7.out HO8.out.kept.1)) hd.below)); have HB9 := Aside0.mk (HB8.out.trans (hd.below.mono HB8.out.size)); clear hd) | ((with_reducible refine gate_callee (f := 31) rfl ?_); refine goesL_ (some 97) rfl rfl Try.func31 (by kernel_rfl) rfl #[.pointer (some ⟨g, 0, none⟩)] rfl (by (try simp only [List.map_toArray, List.map_cons, List.map_nil]); first | done | rfl) ?_; refine (bits_Reader_Align.at_ g L n.toNat P kk uQ _ w6.heap.size (Nat.le_trans HS7.out HO9.out.kept.1) HR9.out (by have := HN.out; omega) HM.out.2.1 HM.out.2.2.1).mono ?_; rintro e w10 ⟨rfl, h1, h2⟩; refine ⟨_, rfl, ?_⟩; have HR10 := Aside0.mk h1; have HO10 := Aside0.mk (HO9.out.trans h2); have HB10 := Aside0.mk (HB9.out.trans (h2.below.mono HB6.out.size)); clear h1 h2) | ((with_reducible refine gate_callee (f := 33) rfl ?_); refine goesL_ (some 102) rfl rfl Try.func33 (by kernel_rfl) rfl #[.pointer (some ⟨g, 0, none⟩), .int .i64 (l.length : Int)] rfl (by (try simp only [List.map_toArray, List.map_cons, List.map_nil]); first | done | rfl) ?_; refine (bits_Reader_Raw.calls g L P l.length uQ _ w6.heap.size (Nat.le_trans HS7.out HO10.out.kept.1) HR10.out HLb.out.2.2.1 HM.out.2.2.2.1 HM.out.2.2.2.2.1).mono ?_; rintro e w11 ⟨v11, rfl, h0, h1, h2⟩; refine ⟨_, rfl, ?_⟩; rw [HM.out.2.2.2.2.2.1] at h0; obtain ⟨A11, c11, e11⟩ := Kd.R_slice h0; subst e11; have HO11 := Aside0.mk h0; have HR11 := Aside0.mk h1; have HQ11 := Aside0.mk (HO10.out.trans h2); have HB11 := Aside0.mk (HB10.out.trans (h2.below.mono HB6.out.size)); clear h0 h1 h2) | ((with_reducible refine gate_callee (f := 13) rfl ?_); refine gate_guard (by rfl) ?_; dsimp only; refine goesL_ (some 115) rfl rfl Try.func13 (by kernel_rfl) rfl #[.slice A11 l.length c11, .slice A l.length c] rfl (by (try simp only [List.map_toArray, List.map_cons, List.map_nil]); first | done | rfl) ?_; refine (rubricatorlaw1_same.calls ks A11 c11 l A c l true _ (Kd.R_reads' HO11.out).2.2 (Kd.R_reads' HO11.out).2.1 (Kd.C_below HA.out.1 HB11.out) HA.out.2.1 HKS.out).mono ?_; rintro e w12 ⟨rfl, hd⟩; refine ⟨_, rfl, ?_⟩; have HR12 := Aside0.mk (HR11.out.below hd.below); have HS12 := Aside0.mk (Nat.le_trans HQ11.out.kept.1 hd.below.size); have HB12 := Aside0.mk (HB11.out.trans (hd.below.mono HB11.out.size)); clear hd) | ((with_reducible refine gate_callee (f := 29) rfl ?_); refine gate_guard (by rfl) ?_; dsimp only; refine goesL_ (some 119) rfl rfl Try.func29 (by kernel_rfl) rfl #[.pointer (some ⟨g, 0, none⟩)] rfl (by (try simp only [List.map_toArray, List.map_cons, List.map_nil]); first | done | rfl) ?_; refine (bits_Reader_Left.at_ g L ((P + 8 * l.length : Nat) : Int) 0 uQ _ w6.heap.size (Nat.le_trans HS7.out HS12.out) HR12.out (by omega) HM.out.2.2.2.2.2.2.1 HLb.out.2.2.1 HM.out.2.2.2.2.2.2.2).mono ?_; rintro e w13 ⟨rfl, hd⟩; refine ⟨_, rfl, ?_⟩; have HB13 := Aside0.mk (HB12.out.trans (hd.below.mono HB12.out.size)); clear hd) | ((with_reducible refine gate_callee (f := 10) rfl ?_); refine gate_guard (by rfl) ?_; dsimp only; refine goesL_ (some 123) rfl rfl Try.func10 (by kernel_rfl) rfl #[] rfl (by (try simp only [List.map_toArray, List.map_cons, List.map_nil]); first | done | rfl) ?_; refine (rubricatorlaw1_known.calls _).mono ?_; rintro e wA ⟨rfl, hd⟩; refine ⟨_, rfl, ?_⟩; have HBA := Aside0.mk (HB13.out.trans (hd.mono HB13.out.size)); clear hd) | (go_at_call 10; refine (rubricatorlaw1_known.calls _).mono ?_; rintro e wA ⟨rfl, hd⟩; have HBA := Aside0.mk (HB13.out.trans (hd.mono HB13.out.size)); clear hd))
  go_ret
  exact ⟨rfl, HBA.out⟩
set_option maxHeartbeats 4000000 in
set_option maxRecDepth 100000 in
theorem edges_out (A : Option Addr) (c : Nat) (l : List Int) (n : Int) (w : World) (h : decide (n < 0) = true ∨ (decide (n < 0) = false ∧ decide (24 < n) = true) ∨ (decide (n < 0) = false ∧ decide (24 < n) = false ∧ decide (2000 < (l.length : Int)) = true)) :
    Calls Try.prog 9 #[.int .i64 n, .slice A l.length c] w fun e w' => e = .returned (.bool true) ∧ Below w.heap.size w w' := by
  rcases h with d1 | ⟨d1, d2⟩ | ⟨d1, d2, d3⟩
  all_goals
    go_enter Try.func9, Try.ntmps9
    go_wp2_with (go_at_call 10; refine (rubricatorlaw1_known.calls _).mono ?_; rintro e wA ⟨rfl, hd⟩; have HB9 := Aside0.mk hd; clear hd)
    go_ret
    exact ⟨rfl, HB9.out⟩
theorem tdiv_nat (M : Nat) : Int.tdiv (M : Int) 8 = ((M / 8 : Nat) : Int) := rfl
theorem w64c (x : Int) (h0 : 0 ≤ x) (h1 : x < 1000000) : wrap64 x = x := by unfold wrap64; omega
theorem wdiv (m : Nat) (h : m ≤ 24) : wrap64 (Int.tdiv (wrap64 ((m : Int) + 7)) 8) = (((m + 7) / 8 : Nat) : Int) := by
  have e1 : wrap64 ((m : Int) + 7) = ((m + 7 : Nat) : Int) := by rw [w64c _ (by omega) (by omega)]; omega
  rw [e1, tdiv_nat]
  exact w64c _ (by omega) (by omega)
theorem bytesW_edge (b l : List Int) (p : Int) (i : Int) (hi : i = 0) : bytesW ⟨b ++ l, p, i⟩ = b ++ l := by
  unfold bytesW
  rw [if_neg (by simp only; omega)]
theorem rubricatorlaw1_BitsEdges.walk (n : Int) (A : Option Addr) (c : Nat) (l : List Int) (w : World) (_ : (Lit.int .i64 n).wf = true) (hC : Kd.C (Kd.int .u8) w A l.length l) (hc : l.length ≤ c) (_ : l.length ≤ maxLen) (_ : l.length * 1 ≤ 140737488351232) (_ : ∀ x ∈ l, (Lit.int .u8 x).wf = true) :
    Calls Try.prog 9 #[.int .i64 n, .slice A l.length c] w fun e w' => e = .returned (.bool true) ∧ Below w.heap.size w w' := by
  by_cases h1 : n < 0
  · exact edges_out A c l n w (.inl (decide_eq_true h1))
  by_cases h2 : 24 < n
  · exact edges_out A c l n w (.inr (.inl ⟨decide_eq_false h1, decide_eq_true h2⟩))
  by_cases h3 : 2000 < (l.length : Int)
  · exact edges_out A c l n w (.inr (.inr ⟨decide_eq_false h1, decide_eq_false h2, decide_eq_true h3⟩))
  obtain ⟨m, rfl⟩ := Int.eq_ofNat_of_zero_le (show 0 ≤ n by omega)
  have em : ((m : Nat) : Int).toNat = m := rfl
  obtain ⟨a1, a2, a3⟩ := putW_wf 0 (by decide) (by decide) m 0 _ wf0
  rw [T0, Nat.zero_add] at a3
  have hf : bits_fits.f 0 (m : Int) 24 = some true := fits_yes 0 m 24 (by omega) (by decide) (by decide) (Int.pow_pos (by decide))
  have h8 : Int.tmod (m : Int) 8 = ((m % 8 : Nat) : Int) := rfl
  have hT : 8 * (putW m 0 ⟨[], 0, 0⟩ 0).b.length + (putW m 0 ⟨[], 0, 0⟩ 0).i.toNat = m := a3
  have hi0 := a1.i0
  have hi8 := a1.i8
  by_cases hm : m % 8 = 0
  · have hz : (putW m 0 ⟨[], 0, 0⟩ 0).i = 0 := by omega
    have hLl : (bytesW ⟨(putW m 0 ⟨[], 0, 0⟩ 0).b ++ l, (putW m 0 ⟨[], 0, 0⟩ 0).p, (putW m 0 ⟨[], 0, 0⟩ 0).i⟩).length = (putW m 0 ⟨[], 0, 0⟩ 0).b.length + l.length := by
      rw [bytesW_edge _ _ _ _ hz, List.length_append]
    by_cases hl : 0 < l.length
    · exact edges_a A c l m _ (putW m 0 ⟨[], 0, 0⟩ 0) _ w hC hc (by omega) (by omega) (by omega) hf rfl ⟨by omega, by omega, by omega⟩ rfl hz rfl (by omega) (by rw [em]; omega) hl (by rw [h8, hm]; rfl)
    · exact edges_b A c l m _ (putW m 0 ⟨[], 0, 0⟩ 0) _ w hC hc (by omega) (by omega) (by omega) hf rfl ⟨by omega, by omega, by omega⟩ rfl hz rfl (by omega) ⟨by rw [em]; omega, trivial, by rw [em]; omega, by rw [em]; omega⟩ hl (by rw [h8, hm]; rfl)
  · obtain ⟨b1, b2, b3, b4⟩ := alignW_wf 8 (putW m 0 ⟨[], 0, 0⟩ 0) a1 (by omega)
    rw [a3] at b3
    have hT3 : 8 * (alignW 8 (putW m 0 ⟨[], 0, 0⟩ 0)).b.length + (alignW 8 (putW m 0 ⟨[], 0, 0⟩ 0)).i.toNat = (m + 7) / 8 * 8 := b3
    rw [b2] at hT3
    have hbl : (alignW 8 (putW m 0 ⟨[], 0, 0⟩ 0)).b.length = (m + 7) / 8 := by
      have : (0 : Int).toNat = 0 := rfl
      omega
    have hL := bytesW_edge (alignW 8 (putW m 0 ⟨[], 0, 0⟩ 0)).b l (alignW 8 (putW m 0 ⟨[], 0, 0⟩ 0)).p _ b2
    have hLl : (bytesW ⟨(alignW 8 (putW m 0 ⟨[], 0, 0⟩ 0)).b ++ l, (alignW 8 (putW m 0 ⟨[], 0, 0⟩ 0)).p, (alignW 8 (putW m 0 ⟨[], 0, 0⟩ 0)).i⟩).length = (m + 7) / 8 + l.length := by
      rw [hL, List.length_append, hbl]
    have hdr : ((bytesW ⟨(alignW 8 (putW m 0 ⟨[], 0, 0⟩ 0)).b ++ l, (alignW 8 (putW m 0 ⟨[], 0, 0⟩ 0)).p, (alignW 8 (putW m 0 ⟨[], 0, 0⟩ 0)).i⟩).take ((m + 7) / 8 * 8 / 8 + l.length)).drop ((m + 7) / 8 * 8 / 8) = l := by
      have e : (m + 7) / 8 * 8 / 8 = (alignW 8 (putW m 0 ⟨[], 0, 0⟩ 0)).b.length := by omega
      rw [hL, e, ← List.length_append, List.take_length, List.drop_left]
    obtain ⟨ks, hks⟩ := (Go.Proofs.Ytblneonbilbaiaa.Same.same_ev l l (by omega)).rounds
    rw [decide_eq_true rfl] at hks
    refine edges_c A c l m _ (putW m 0 ⟨[], 0, 0⟩ 0) _ w hC hc (by omega) (by omega) (by omega) hf rfl ⟨by omega, by omega, by omega⟩ rfl (alignW 8 (putW m 0 ⟨[], 0, 0⟩ 0)) ((m + 7) / 8 * 8) ks (((m + 7) / 8 : Nat) : Int) (by omega) b2 ⟨⟨hi0, hi8, by omega⟩, rfl⟩ rfl (by omega) ⟨by rw [em]; exact hm, by rw [em], by rw [em], by omega, by omega, hdr, by omega, by omega⟩ hks ?_ ?_
    · exact wdiv m (by omega)
    · rw [h8]
      exact beq_eq_false_iff_ne.mpr (by omega)
end Go.Proofs.Ytblneonbilbaiaa.PA
