/- What a script of a Reader tells, and the document answer to it. Rows below 900000000 bytes. -/
import Derived.Test.YtblneonbilbaiaaSpoil
namespace Go.Proofs.Ytblneonbilbaiaa.PA
open Go.Proofs.Ytblneonbilbaiaa.Mat Go.Proofs.YtblneonbilbaiaaAid Go.RowKit Go.Proofs.YtblneonbilbaiaaW.PrintWords Go.Proofs.YtblneonbilbaiaaW.PrintLast Go.Proofs.YtblneonbilbaiaaW.PrintMore
set_option linter.unusedVariables false
set_option linter.unusedSimpArgs false
/-- So many bits: what is told, the error, the place behind. -/
def getP (l : List Int) (p : Nat) (n : Int) : Int × Int × Nat := if n < 0 ∨ 24 < n then (0, 1, p) else if (l.length : Int) * 8 - p < n then (0, 2, p) else (getR l p n.toNat 0 0, 0, p + n.toNat)
def rawP (l : List Int) (p : Nat) (n : Int) : List Int × Int × Nat := if n < 0 ∨ p % 8 ≠ 0 then ([], 1, p) else if (l.length : Int) - (p / 8 : Nat) < n then ([], 2, p) else ((l.take (p / 8 + n.toNat)).drop (p / 8), 0, p + 8 * n.toNat)
theorem bits_Reader_Get.all (g : Nat) (b : List Int) (p : Nat) (n : Int) (u : Value) (w : World) (b0 : Nat) (hbw : b0 ≤ w.heap.size) (h : Rst b0 w g b p u) (hp : p ≤ 8 * b.length) (hl : b.length < 900000000) (r1 r2 : Int) (p2 : Nat) (hr : getP b p n = (r1, r2, p2)) :
    Calls Try.prog 28 #[.pointer (some ⟨g, 0, none⟩), .int .i64 n] w fun e w' => e = .returned (.tuple #[.int .i64 r1, .int .i64 r2]) ∧ Rst b0 w' g b (p2 : Int) u ∧ Rto b0 w g w' := by
  unfold getP at hr
  by_cases h1 : n < 0 ∨ 24 < n
  · rw [if_pos h1] at hr
    simp only [Prod.mk.injEq] at hr
    obtain ⟨rfl, rfl, rfl⟩ := hr
    refine (bits_Reader_Get.refuses (some ⟨g, 0, none⟩) n w (.inr h1)).mono ?_
    rintro e w' ⟨he, hd⟩
    exact ⟨he, h.below hd.below, Rto.drawn (hd.below.mono hbw) hd.below⟩
  · rw [if_neg h1] at hr
    by_cases h2 : (b.length : Int) * 8 - p < n
    · rw [if_pos h2] at hr
      simp only [Prod.mk.injEq] at hr
      obtain ⟨rfl, rfl, rfl⟩ := hr
      refine (bits_Reader_Get.short g b p n u w b0 hbw h (by omega) (by omega) (by omega) (by omega) h2).mono ?_
      rintro e w' ⟨he, hd⟩
      exact ⟨he, h.below hd.below, Rto.drawn (hd.below.mono hbw) hd.below⟩
    · rw [if_neg h2] at hr
      simp only [Prod.mk.injEq] at hr
      obtain ⟨rfl, rfl, rfl⟩ := hr
      exact bits_Reader_Get.calls g b p n u w b0 hbw h (by omega) (by omega) (by omega) (by omega) (by omega)
theorem bits_Reader_Raw.all (g : Nat) (b : List Int) (p : Nat) (n : Int) (u : Value) (w : World) (b0 : Nat) (hbw : b0 ≤ w.heap.size) (h : Rst b0 w g b p u) (hp : p ≤ 8 * b.length) (hl : b.length < 900000000) (r1 : List Int) (r2 : Int) (p2 : Nat) (hr : rawP b p n = (r1, r2, p2)) :
    Calls Try.prog 33 #[.pointer (some ⟨g, 0, none⟩), .int .i64 n] w fun e w' => ∃ v, e = .returned (.tuple #[v, .int .i64 r2]) ∧ Kd.R (Kd.int .u8) 5 w' w.heap.size (fun _ => True) v r1 ∧ Rst b0 w' g b (p2 : Int) u ∧ Rto b0 w g w' := by
  unfold rawP at hr
  by_cases h1 : n < 0 ∨ p % 8 ≠ 0
  · rw [if_pos h1] at hr
    simp only [Prod.mk.injEq] at hr
    obtain ⟨rfl, rfl, rfl⟩ := hr
    refine (bits_Reader_Raw.refuses g b p n u w b0 h h1).mono ?_
    rintro e w' ⟨he, hd⟩
    exact ⟨_, he, Kd.R_nil _ _ _ _ _, h.below hd.below, Rto.drawn (hd.below.mono hbw) hd.below⟩
  · rw [if_neg h1] at hr
    by_cases h2 : (b.length : Int) - (p / 8 : Nat) < n
    · rw [if_pos h2] at hr
      simp only [Prod.mk.injEq] at hr
      obtain ⟨rfl, rfl, rfl⟩ := hr
      refine (bits_Reader_Raw.short g b p n u w b0 hbw h hp (by omega) (by omega) (by omega) h2).mono ?_
      rintro e w' ⟨he, hd⟩
      exact ⟨_, he, Kd.R_nil _ _ _ _ _, h.below hd.below, Rto.drawn (hd.below.mono hbw) hd.below⟩
    · rw [if_neg h2] at hr
      simp only [Prod.mk.injEq] at hr
      obtain ⟨rfl, rfl, rfl⟩ := hr
      obtain ⟨m, rfl⟩ := Int.eq_ofNat_of_zero_le (show 0 ≤ n by omega)
      exact bits_Reader_Raw.calls g b p m u w b0 hbw h (by omega) (by omega) (by omega)
theorem tmod_nat (M : Nat) : Int.tmod (M : Int) 8 = ((M % 8 : Nat) : Int) := rfl
theorem w64b (x : Int) (h0 : 0 ≤ x) (h1 : x < 9000000000000) : wrap64 x = x := by unfold wrap64; omega
/-- The document's Reader at block x. -/
structure Xst (w0 W : World) (x : Nat) (A : Option Addr) (c : Nat) (b : List Int) (p : Int) : Prop where
  blk : W.heap[x]? = some (.cells #[.slice A b.length c, .int .i64 p] 53 (0, 0))
  base : w0.heap.size ≤ x
theorem Xst.below {w0 W W1 : World} {x : Nat} {A : Option Addr} {c : Nat} {b : List Int} {p : Int} (h : Xst w0 W x A c b p) (hb : Below W.heap.size W W1) : Xst w0 W1 x A c b p := ⟨(hb.block x (blk_lt h.blk)).trans h.blk, h.base⟩
theorem Xst.put {w0 W : World} {x : Nat} {A : Option Addr} {c : Nat} {b : List Int} {p : Int} (h : Xst w0 W x A c b p) (q : Int) : Xst w0 (W.setCell ⟨x, 1, none⟩ (.int .i64 q)) x A c b q :=
  ⟨blk_put (cs := #[.slice A b.length c, .int .i64 p]) (cs' := #[.slice A b.length c, .int .i64 q]) h.blk 1 (.int .i64 q) rfl, h.base⟩
theorem Xst.drewN {w0 W : World} {x : Nat} {A : Option Addr} {c : Nat} {b : List Int} {p : Int} (h : Xst w0 W x A c b p) (n : Nat) : Xst w0 (W.drewN n) x A c b p := h.below (Drawn0.mk ⟨n, rfl⟩ : Drawn0 W (W.drewN n)).below
set_option maxHeartbeats 4000000 in
set_option maxRecDepth 100000 in
theorem refLeft (x : Nat) (A : Option Addr) (c : Nat) (b : List Int) (p : Nat) (w0 w : World) (h : Xst w0 w x A c b p) (hl : b.length < 900000000) (hp : p ≤ 8 * b.length) (r : Int) (hr : (b.length : Int) * 8 - p = r) :
    Calls Try.prog 35 #[.pointer (some ⟨x, 0, none⟩)] w fun e w' => e = .returned (.int .i64 r) ∧ Drawn0 w w' := by
  obtain ⟨pp, hpp⟩ : ∃ j : Int, j = (p : Int) := ⟨_, rfl⟩
  have c0 : w.cell? ⟨x, 0, none⟩ = some (.slice A b.length c) := blk_cell h.blk 0
  have c1 : w.cell? ⟨x, 1, none⟩ = some (.int .i64 pp) := hpp ▸ blk_cell h.blk 1
  have f1 := blk_frozen h.blk 1
  have q0 := blk_lt h.blk
  have e1 : wrap64 (8 * (b.length : Int)) = 8 * (b.length : Int) := by unfold wrap64; omega
  have e2 : wrap64 (8 * (b.length : Int) - pp) = r := by unfold wrap64; omega
  clear h hp hl hr hpp
  go_enter Try.func35, Try.ntmps35
  go_wp2
  repeat (go_quiet (fail); try go_wp2)
  go_ret
  refine ⟨?_, by first | exact Drawn0.refl _ | exact (Drawn0.refl _).step _⟩
  show Ending.returned (Value.int .i64 (wrap64 (8 * (b.length : Int) - pp))) = _
  rw [e2]
set_option maxHeartbeats 4000000 in
set_option maxRecDepth 100000 in
theorem refAlign (x : Nat) (A : Option Addr) (c : Nat) (b : List Int) (p : Nat) (w0 w : World) (h : Xst w0 w x A c b p) (hl : b.length < 900000000) (hp : p ≤ 8 * b.length) (r : Int) (P : Nat) (hr : (((p + 7) / 8 : Nat) : Int) = r) (hP : (p + 7) / 8 * 8 = P) :
    Calls Try.prog 32 #[.pointer (some ⟨x, 0, none⟩)] w fun e w' => e = .returned (.int .i64 r) ∧ Xst w0 w' x A c b (P : Int) ∧ Rto w0.heap.size w x w' := by
  have HX := Aside0.mk h
  obtain ⟨pp, hpp⟩ : ∃ j : Int, j = (p : Int) := ⟨_, rfl⟩
  have c0 : w.cell? ⟨x, 0, none⟩ = some (.slice A b.length c) := blk_cell h.blk 0
  have c1 : w.cell? ⟨x, 1, none⟩ = some (.int .i64 pp) := hpp ▸ blk_cell h.blk 1
  have f1 := blk_frozen h.blk 1
  have q0 := blk_lt h.blk
  obtain ⟨kk, hkk⟩ : ∃ j : Int, wrap64 (Int.tdiv (wrap64 (pp + 7)) 8) = j := ⟨_, rfl⟩
  have e1 : wrap64 (pp + 7) = ((p + 7 : Nat) : Int) := by unfold wrap64; omega
  have ek : kk = r := by
    rw [← hkk, e1, tdiv_nat, ← hr]
    exact w64b _ (by omega) (by omega)
  obtain ⟨mm, hmm⟩ : ∃ j : Int, wrap64 (kk * 8) = j := ⟨_, rfl⟩
  have em : mm = (P : Int) := by
    rw [← hmm, ek, ← hr]
    exact (w64b _ (by omega) (by omega)).trans (by omega)
  have et : wrap64 (Int.tdiv mm 8) = kk := by
    rw [em, tdiv_nat, ek, ← hr]
    exact (w64b _ (by omega) (by omega)).trans (by omega)
  have HF := Aside0.mk (And.intro ek em)
  have HE := Aside0.mk et
  have HM := Aside0.mk (show wrap64 (wrap64 (Int.tdiv (wrap64 (pp + 7)) 8) * 8) = mm by rw [hkk]; exact hmm)
  clear h e1 ek em hpp hp hl hr hP et hkk hmm
  go_enter Try.func32, Try.ntmps32
  go_wp2
  go_ret
  rw [HM.out, HE.out, HF.out.1, HF.out.2]
  exact ⟨rfl, HX.out.put _, Rto.refl.put HX.out.base _⟩
set_option maxHeartbeats 4000000 in
set_option maxRecDepth 100000 in
theorem refGet (x : Nat) (A : Option Addr) (c : Nat) (b : List Int) (p : Nat) (w0 w : World) (h : Xst w0 w x A c b p) (hC : Kd.C (Kd.int .u8) w0 A b.length b) (hB : Below w0.heap.size w0 w) (hl : b.length < 900000000) (hp : p ≤ 8 * b.length) (n r1 r2 : Int) (p2 : Nat) (hr : getP b p n = (r1, r2, p2)) :
    Calls Try.prog 30 #[.pointer (some ⟨x, 0, none⟩), .int .i64 n] w fun e w' => e = .returned (.tuple #[.int .i64 r1, .int .i64 r2]) ∧ Xst w0 w' x A c b (p2 : Int) ∧ Rto w0.heap.size w x w' := by
  have HX := Aside0.mk h
  have HBw := Aside0.mk hB
  have HC := Aside0.mk hC
  unfold getP at hr
  by_cases h1 : n < 0
  · rw [if_pos (.inl h1)] at hr
    simp only [Prod.mk.injEq] at hr
    obtain ⟨rfl, rfl, rfl⟩ := hr
    have d1 : decide (n < 0) = true := decide_eq_true h1
    clear h h1 hl hp hB hC
    go_enter Try.func30, Try.ntmps30
    go_wp2
    go_ret2
    exact ⟨rfl, HX.out, Rto.refl⟩
  have d1 : decide (n < 0) = false := decide_eq_false h1
  by_cases h2 : 24 < n
  · rw [if_pos (.inr h2)] at hr
    simp only [Prod.mk.injEq] at hr
    obtain ⟨rfl, rfl, rfl⟩ := hr
    have d2 : decide (24 < n) = true := decide_eq_true h2
    clear h h1 h2 hl hp hB hC
    go_enter Try.func30, Try.ntmps30
    go_wp2
    go_ret2
    exact ⟨rfl, HX.out, Rto.refl⟩
  have d2 : decide (24 < n) = false := decide_eq_false h2
  rw [if_neg (by omega)] at hr
  obtain ⟨ll, hll⟩ : ∃ j : Int, (b.length : Int) * 8 - p = j := ⟨_, rfl⟩
  have HP := Aside0.mk (And.intro hl (And.intro hp hll))
  rw [hll] at hr
  by_cases h3 : ll < n
  · rw [if_pos h3] at hr
    simp only [Prod.mk.injEq] at hr
    obtain ⟨rfl, rfl, rfl⟩ := hr
    have d3 : decide (ll < n) = true := decide_eq_true h3
    clear h h1 h2 h3 hl hp hB hC hll
    go_enter Try.func30, Try.ntmps30
    go_wp2_with ((with_reducible refine gate_callee (f := 35) rfl ?_); refine goesL_ (some 16) rfl rfl Try.func35 (by kernel_rfl) rfl #[.pointer (some ⟨x, 0, none⟩)] rfl (by (try simp only [List.map_toArray, List.map_cons, List.map_nil]); first | done | rfl) ?_; refine (refLeft x A c b p w0 w HX.out HP.out.1 HP.out.2.1 ll HP.out.2.2).mono ?_; rintro e w1 ⟨rfl, h2⟩; refine ⟨_, rfl, ?_⟩; have HD1 := Aside0.mk h2; clear h2)
    go_ret2
    exact ⟨rfl, HX.out.below HD1.out.below, Rto.drawn (HD1.out.below.mono HBw.out.size) HD1.out.below⟩
  have d3 : decide (ll < n) = false := decide_eq_false h3
  rw [if_neg h3] at hr
  simp only [Prod.mk.injEq] at hr
  obtain ⟨hr1, rfl, hr3⟩ := hr
  have HR1 := Aside0.mk hr1
  have HR3 := Aside0.mk hr3
  have HN := Aside0.mk (show 0 ≤ n ∧ n ≤ 24 ∧ p + n.toNat ≤ 8 * b.length by omega)
  clear h h1 h2 h3 hl hp hB hC hll hr1 hr3
  go_enter Try.func30, Try.ntmps30
  go_wp2_with ((with_reducible refine gate_callee (f := 35) rfl ?_); refine goesL_ (some 16) rfl rfl Try.func35 (by kernel_rfl) rfl #[.pointer (some ⟨x, 0, none⟩)] rfl (by (try simp only [List.map_toArray, List.map_cons, List.map_nil]); first | done | rfl) ?_; refine (refLeft x A c b p w0 w HX.out HP.out.1 HP.out.2.1 ll HP.out.2.2).mono ?_; rintro e w1 ⟨rfl, h2⟩; refine ⟨_, rfl, ?_⟩; have HD1 := Aside0.mk h2; clear h2)
  have H0 := Aside0.mk (And.intro (HX.out.below HD1.out.below) (Rto.drawn (g := x) (HD1.out.below.mono HBw.out.size) HD1.out.below))
  clear HD1
  go_loopw [6, 7] (fun v6 v7 wr => ∃ (i d : Nat) (a ii : Int), v6 = .int .i64 a ∧ v7 = .int .i64 ii ∧ ii = (i : Int) ∧ i + d = n.toNat ∧ Aside0 (getR b p d i a = getR b p n.toNat 0 0) ∧ Aside0 (Xst w0 wr x A c b ((p + i : Nat) : Int)) ∧ Aside0 (Rto w0.heap.size w x wr)) (fun _ v7 _ => n.toNat - (intOf v7).toNat)
  case atStart =>
    exact ⟨0, n.toNat, 0, 0, rfl, rfl, rfl, by omega, ⟨rfl⟩, ⟨H0.out.1⟩, ⟨H0.out.2⟩⟩
  case round =>
    clear H0
    obtain ⟨i, d, a, ii, rfl, rfl, hii, hid, HI, HU, HO⟩ := hrel
    have hN := HN.out
    have hPP := HP.out
    by_cases hlt : ii < n
    · obtain ⟨d, rfl⟩ : ∃ d', d = d' + 1 := ⟨d - 1, by omega⟩
      have dlt : decide (ii < n) = true := decide_eq_true hlt
      obtain ⟨P, hP⟩ : ∃ P : Nat, P = p + i := ⟨_, rfl⟩
      rw [← hP] at HU
      have hPb : P < 8 * b.length := by omega
      obtain ⟨pp, hpp⟩ : ∃ j : Int, j = (P : Int) := ⟨_, rfl⟩
      obtain ⟨kk, hkk⟩ : ∃ j : Int, wrap64 (Int.tdiv pp 8) = j := ⟨_, rfl⟩
      have ek : kk = ((P / 8 : Nat) : Int) := by
        rw [← hkk, hpp, tdiv_nat]
        exact w64b _ (by omega) (by omega)
      have hkkw : (IntKind.i64.wrap (Int.tdiv pp 8)) = kk := (i64_w _).trans hkk
      obtain ⟨jj, hjj⟩ : ∃ j : Int, Int.tmod pp 8 = j := ⟨_, rfl⟩
      have ej : jj = ((P % 8 : Nat) : Int) := by
        rw [← hjj, hpp]
        rfl
      have k0 : 0 ≤ kk := by clear hkk hkkw hjj; omega
      have k1 : kk < (b.length : Int) := by clear hkk hkkw hjj; omega
      have j0 : 0 ≤ jj := by clear hkk hkkw hjj; omega
      have j8 : jj ≤ 8 := by clear hkk hkkw hjj; omega
      have jm : jj % 18446744073709551616 = jj := by clear hkk hkkw hjj; omega
      have jm2 : IntKind.u64.wrap jj = jj := by show jj % 18446744073709551616 = jj; exact jm
      have i0 : 0 ≤ ii := by clear hkk hkkw hjj jm2; omega
      have i64 : ii ≤ 64 := by clear hkk hkkw hjj jm2; omega
      have im : ii % 18446744073709551616 = ii := by clear hkk hkkw hjj jm2; omega
      have im2 : IntKind.u64.wrap ii = ii := by show ii % 18446744073709551616 = ii; exact im
      have dK0 : decide (0 ≤ kk) = true := decide_eq_true k0
      have dK1 : decide (kk < (b.length : Int)) = true := decide_eq_true k1
      have dJ0 : decide (0 ≤ jj) = true := decide_eq_true j0
      have dI0 : decide (0 ≤ ii) = true := decide_eq_true i0
      obtain ⟨y, hy⟩ : ∃ j : Int, rd b kk / 2 ^ min jj.toNat 8 = j := ⟨_, rfl⟩
      have hyz : jj ≤ 8 → rd b kk / 2 ^ jj.toNat = y := shr_small (k := .u8) hy
      obtain ⟨z, hz⟩ : ∃ j : Int, IntKind.i64.wrap (wrap64 (Go.bits .and .u8 y 1) * 2 ^ min ii.toNat 64) = j := ⟨_, rfl⟩
      have hzz : ii ≤ 64 → IntKind.i64.wrap (wrap64 (Go.bits .and .u8 y 1) * 2 ^ ii.toNat) = z := shl_small (k := .i64) hz
      have hzy : wrap64 (wrap64 (Go.bits .and .u8 y 1) * 2 ^ min ii.toNat 64) = z := (i64_w _).symm.trans hz
      have hzx : ii ≤ 64 → wrap64 (wrap64 (Go.bits .and .u8 y 1) * 2 ^ ii.toNat) = z := fun h_ => (i64_w _).symm.trans (hzz h_)
      have HF := Aside0.mk (And.intro hP (And.intro hpp (And.intro ek (And.intro ej (And.intro hii (And.intro (hyz j8) (hzx i64)))))))
      have c0 : wr.cell? ⟨x, 0, none⟩ = some (.slice A b.length c) := blk_cell HU.out.blk 0
      have c1 : wr.cell? ⟨x, 1, none⟩ = some (.int .i64 pp) := hpp ▸ blk_cell HU.out.blk 1
      have f1 := blk_frozen HU.out.blk 1
      have q1 := blk_lt HU.out.blk
      obtain ⟨ad, ead, hx⟩ := Kd.at_int (Kd.C_below HC.out (HBw.out.trans HO.out.below)) kk k0 k1
      cases ead
      have HK0 := Aside0.mk hid
      have t3 : wrap64 (pp + 1) = pp + 1 := by clear hkk hkkw hjj jm2 im2 hy hyz hz hzz hzy hzx; unfold wrap64; omega
      have t5 : wrap64 (ii + 1) = ii + 1 := by clear hkk hkkw hjj jm2 im2 hy hyz hz hzz hzy hzx t3; unfold wrap64; omega
      clear hlt ek ej hpp hP hPb hid hii hN hPP
      replace k0 := eq_true k0
      replace k1 := eq_true k1
      replace j0 := eq_true j0
      replace i0 := eq_true i0
      go_wp2
      go_quiet (fail)
      go_wp2
      go_roundw
      case rel =>
        have e := HI.out
        rw [getR] at e
        obtain ⟨f1, f2, f3, f4, f5, f6, f7⟩ := HF.out
        have e2 : z = wrap64 (wrap64 (Go.bits .and .u8 (rd b (((p + i) / 8 : Nat) : Int) / 2 ^ ((p + i) % 8)) 1) * 2 ^ i) := by
          rw [← f7, ← f6, f3, f4, f5, f1]
          rfl
        rw [← e2] at e
        refine ⟨i + 1, d, _, ii + 1, rfl, by first | rfl | exact congrArg _ t5, by clear e e2 f6 f7 t3 t5; omega, by have := HK0.out; clear e e2 f6 f7 t3 t5; omega, ⟨e⟩, ⟨?_⟩, ⟨?_⟩⟩
        · rw [show ((p + (i + 1) : Nat) : Int) = pp + 1 by clear e e2 f6 f7 t3 t5; omega]
          exact (HU.out.drewN nq).put _
        · exact (HO.out.drewN (Nat.le_trans HBw.out.size HO.out.kept.1) nq).put HU.out.base _
      case measure =>
        obtain ⟨f1, f2, f3, f4, f5, f6, f7⟩ := HF.out
        have := HK0.out
        simp only [intOf, t5]
        clear f6 f7 t3 t5
        omega
    · have dlt : decide (ii < n) = false := decide_eq_false hlt
      have hd : d = 0 := by omega
      subst hd
      have HE := Aside0.mk (show i = n.toNat by omega)
      clear hid hii hlt hN hPP
      go_wp2
      go_ret2
      have e := HI.out
      rw [getR] at e
      rw [e, HR1.out, ← HR3.out, ← HE.out]
      exact ⟨rfl, HU.out, HO.out⟩
set_option maxHeartbeats 4000000 in
set_option maxRecDepth 100000 in
theorem refRaw_no (x : Nat) (A : Option Addr) (c : Nat) (b : List Int) (p : Nat) (w0 w : World) (h : Xst w0 w x A c b p) (n : Int) (hr : n < 0 ∨ p % 8 ≠ 0) :
    Calls Try.prog 34 #[.pointer (some ⟨x, 0, none⟩), .int .i64 n] w fun e w' => e = .returned (.tuple #[.slice none 0 0, .int .i64 1]) ∧ Drawn0 w w' := by
  obtain ⟨pp, hpp⟩ : ∃ j : Int, j = (p : Int) := ⟨_, rfl⟩
  have c0 : w.cell? ⟨x, 0, none⟩ = some (.slice A b.length c) := blk_cell h.blk 0
  have c1 : w.cell? ⟨x, 1, none⟩ = some (.int .i64 pp) := hpp ▸ blk_cell h.blk 1
  have f1 := blk_frozen h.blk 1
  have q0 := blk_lt h.blk
  by_cases h1 : n < 0
  · have d1 : decide (n < 0) = true := decide_eq_true h1
    clear h h1 hr hpp
    go_enter Try.func34, Try.ntmps34
    go_wp2
    go_ret2
    exact ⟨rfl, Drawn0.refl _⟩
  · have d1 : decide (n < 0) = false := decide_eq_false h1
    obtain ⟨jj, hjj⟩ : ∃ j : Int, Int.tmod pp 8 = j := ⟨_, rfl⟩
    have ej : jj = ((p % 8 : Nat) : Int) := by
      rw [← hjj, hpp]
      rfl
    have d2 : (jj != 0) = true := bne_iff_ne.mpr (by omega)
    clear h h1 hr ej hpp
    go_enter Try.func34, Try.ntmps34
    go_wp2
    go_ret2
    exact ⟨rfl, Drawn0.refl _⟩
set_option maxHeartbeats 4000000 in
set_option maxRecDepth 100000 in
theorem refRaw_short (x : Nat) (A : Option Addr) (c : Nat) (b : List Int) (p : Nat) (w0 w : World) (h : Xst w0 w x A c b p) (n : Int) (hl : b.length < 900000000) (hp : p ≤ 8 * b.length) (hn : 0 ≤ n) (h8 : p % 8 = 0) (hs : (b.length : Int) - (p / 8 : Nat) < n) :
    Calls Try.prog 34 #[.pointer (some ⟨x, 0, none⟩), .int .i64 n] w fun e w' => e = .returned (.tuple #[.slice none 0 0, .int .i64 2]) ∧ Drawn0 w w' := by
  obtain ⟨pp, hpp⟩ : ∃ j : Int, j = (p : Int) := ⟨_, rfl⟩
  have c0 : w.cell? ⟨x, 0, none⟩ = some (.slice A b.length c) := blk_cell h.blk 0
  have c1 : w.cell? ⟨x, 1, none⟩ = some (.int .i64 pp) := hpp ▸ blk_cell h.blk 1
  have f1 := blk_frozen h.blk 1
  have q0 := blk_lt h.blk
  have d1 : decide (n < 0) = false := decide_eq_false (by omega)
  have hjj : Int.tmod pp 8 = 0 := by
    rw [hpp, tmod_nat, h8]
    rfl
  obtain ⟨ff, hff⟩ : ∃ j : Int, wrap64 (Int.tdiv pp 8) = j := ⟨_, rfl⟩
  have ef : ff = ((p / 8 : Nat) : Int) := by
    rw [← hff, hpp, tdiv_nat]
    exact w64b _ (by omega) (by omega)
  have hffw : IntKind.i64.wrap (Int.tdiv pp 8) = ff := (i64_w _).trans hff
  have e1 : wrap64 ((b.length : Int) - ff) = (b.length : Int) - ff := by clear hff hffw hjj; unfold wrap64; omega
  have d2 : decide ((b.length : Int) - ff < n) = true := decide_eq_true (by clear hff hffw hjj e1; omega)
  clear h hpp ef hl hp hs h8
  go_enter Try.func34, Try.ntmps34
  go_wp2
  go_ret2
  exact ⟨rfl, Drawn0.refl _⟩
set_option maxHeartbeats 4000000 in
set_option maxRecDepth 100000 in
theorem refRaw_yes (x : Nat) (A : Option Addr) (c : Nat) (b : List Int) (p : Nat) (w0 w : World) (h : Xst w0 w x A c b p) (hC : Kd.C (Kd.int .u8) w0 A b.length b) (hc : b.length ≤ c) (hB : Below w0.heap.size w0 w) (n : Nat) (hl : b.length < 900000000) (h8 : p % 8 = 0) (hs : p / 8 + n ≤ b.length) :
    Calls Try.prog 34 #[.pointer (some ⟨x, 0, none⟩), .int .i64 (n : Int)] w fun e w' => ∃ v, e = .returned (.tuple #[v, .int .i64 0]) ∧ Kd.R (Kd.int .u8) 5 w' w.heap.size (fun _ => True) v ((b.take (p / 8 + n)).drop (p / 8)) ∧ Xst w0 w' x A c b ((p + 8 * n : Nat) : Int) ∧ Rto w0.heap.size w x w' := by
  have HX := Aside0.mk h
  have HBw := Aside0.mk hB
  have HCC := Aside0.mk hC
  obtain ⟨pp, hpp⟩ : ∃ j : Int, j = (p : Int) := ⟨_, rfl⟩
  have c0 : w.cell? ⟨x, 0, none⟩ = some (.slice A b.length c) := blk_cell h.blk 0
  have c1 : w.cell? ⟨x, 1, none⟩ = some (.int .i64 pp) := hpp ▸ blk_cell h.blk 1
  have f1 := blk_frozen h.blk 1
  have q0 := blk_lt h.blk
  obtain ⟨nn, hnn⟩ : ∃ j : Int, j = (n : Int) := ⟨_, rfl⟩
  rw [← hnn]
  have d1 : decide (nn < 0) = false := decide_eq_false (by omega)
  have hjj : Int.tmod pp 8 = 0 := by
    rw [hpp, tmod_nat, h8]
    rfl
  obtain ⟨ff, hff⟩ : ∃ j : Int, wrap64 (Int.tdiv pp 8) = j := ⟨_, rfl⟩
  have ef : ff = ((p / 8 : Nat) : Int) := by
    rw [← hff, hpp, tdiv_nat]
    exact w64b _ (by omega) (by omega)
  have hffw : IntKind.i64.wrap (Int.tdiv pp 8) = ff := (i64_w _).trans hff
  have e1 : wrap64 ((b.length : Int) - ff) = (b.length : Int) - ff := by clear hff hffw hjj; unfold wrap64; omega
  have d2 : decide ((b.length : Int) - ff < nn) = false := decide_eq_false (by clear hff hffw hjj e1; omega)
  have e2 : wrap64 (8 * nn) = 8 * nn := by clear hff hffw hjj e1; unfold wrap64; omega
  have e3 : wrap64 (pp + 8 * nn) = pp + 8 * nn := by clear hff hffw hjj e1 e2; unfold wrap64; omega
  have e4 : wrap64 (ff + nn) = ff + nn := by clear hff hffw hjj e1 e2 e3; unfold wrap64; omega
  obtain ⟨i09, hi09, _, hsz9, _⟩ := info_parts info5
  have g0 : 0 ≤ ff ∧ ff ≤ ff + nn ∧ ff + nn ≤ (b.length : Int) := by clear hff hffw hjj e1 e2 e3 e4 hi09 hsz9; omega
  obtain ⟨A', hcut, hA, hC2⟩ := print_mid_of (P := Try.prog) (Value.int .u8) 0 29 5 .i64 .i64 Try.underlying29 hi09 hsz9 A c b ff (ff + nn) g0.1 g0.2.1 g0.2.2 hc
  have HA := Aside0.mk hA
  have HC := Aside0.mk hC2
  have HP := Aside0.mk (And.intro hpp (And.intro hnn (And.intro hl (And.intro hs ef))))
  have HB1 := Aside0.mk (hB.setCell (p := ⟨x, 1, none⟩) h.base (.int .i64 (pp + 8 * nn)))
  have HX1 := Aside0.mk (h.put (pp + 8 * nn))
  have HO1 := Aside0.mk ((Rto.refl (b0 := w0.heap.size) (w := w) (g := x)).put h.base (.int .i64 (pp + 8 * nn)))
  clear h hpp ef hl hs h8 hA hC2 hi09 hsz9 hnn hc hB hC g0
  go_enter Try.func34, Try.ntmps34
  go_wp2_with (first | ((with_reducible refine gate_dst (N := 41) rfl ?_); refine Kd.R_lit (Kd.int .u8) _ 5 ?hg (N := 41) ?hd (xs := ([] : List Int)) (inner := []) (ok := fun _ => True) (okp := fun _ => True) ?hr ?hp (fun _ hk => hk) trivial (Below.refl _ _) (Nat.le_refl _) (by simp) ?_; (case hd => rfl); (case hg => rfl); (case hr => first | (go_simp; done) | (go_simp; rfl)); (case hp => exact (Reps.none _ _)); intro v1 w1 ho9 hb hg_ hnew_; clear hg_ hnew_; have c0 : w1.cell? ⟨x, 0, none⟩ = some (.slice A b.length c) := blk_cell (HX1.out.below hb).blk 0; have HV1 := Aside0.mk (Kd.R_lower ho9 HO1.out.kept.1); have HX2 := Aside0.mk (HX1.out.below hb); have HB2 := Aside0.mk (HB1.out.trans (hb.mono HB1.out.size)); have HO2 := Aside0.mk (HO1.out.trans (Rto.drawn (hb.mono HB1.out.size) hb)); clear hb ho9) | ((with_reducible refine gate_builtin (b := .append) (xs := #[.tmp 41, .tmp 50]) rfl ?_); at_builtin; refine Kd.R_append_rows (Kd.int .u8) (w0 := w1) w.heap.size rfl (.tmp 41) (.tmp 50) 29 5 (.int .u8 0) 1 rfl Try.underlying29 info5B rfl (by decide) (by decide) v1 [] ((b.take (ff + nn).toNat).drop ff.toNat) A' _ _ (fun _ => True) (fun _ => False) rfl rfl ?aO ?aR (fun _ _ h => h) (fun _ h => h.elim) ?aF ?aB ?aS ?aL ?_; (case aR => rw [show (min (ff + nn).toNat b.length - ff.toNat) = ((b.take (ff + nn).toNat).drop ff.toNat).length from by simp]; exact (Kd.C_of_reads (h1 := fun _ => rfl) (HA.out _ (Kd.reads_of_C (Kd.C_below HCC.out HB2.out))))); (case aB => exact Below.refl _ _); (case aF => exact (fun _ _ => trivial)); (case aO => exact HV1.out); (case aS => exact HO2.out.kept.1); (case aL => have := HP.out.2.2.1; simp; omega); intro v2 w2 ho hb hg hat; have HV2 := Aside0.mk ho; have HGr := Aside0.mk hg; have HAt := Aside0.mk hat; have HB3 := Aside0.mk hb; clear ho hb hg hat))
  go_ret2
  obtain ⟨x1, x2, x3, x4, x5⟩ := HP.out
  have hown : ∀ k, v1.ownBlock = some k → w.heap.size ≤ k := fun k hk => ((Kd.R_bound HV1.out).1 k hk).2.1
  have hxl := blk_lt HX.out.blk
  have hblk := (HGr.out.block x (blk_lt HX2.out.blk) (fun e => by have := hown x e.symm; omega)).trans HX2.out.blk
  have hk : Kept w w2 (fun k => k = x) := HO2.out.kept.then_ (Kept.of_grown (S := fun k => v1.ownBlock = some k) HGr.out (Kept.refl _ _) (fun k hk => .inl hk)) (fun k hk => .inr (hown k hk))
  refine ⟨_, rfl, ?_, ⟨?_, HX.out.base⟩, ⟨hk, HO2.out.below.trans (HB3.out.mono HBw.out.size)⟩⟩
  · have := HV2.out
    rw [List.nil_append, x5, show ((p / 8 : Nat) : Int) + nn = ((p / 8 + n : Nat) : Int) by clear x5; omega] at this
    exact this
  · rw [show ((p + 8 * n : Nat) : Int) = pp + 8 * nn by clear x5; omega]
    exact hblk
theorem refRaw (x : Nat) (A : Option Addr) (c : Nat) (b : List Int) (p : Nat) (w0 w : World) (h : Xst w0 w x A c b p) (hC : Kd.C (Kd.int .u8) w0 A b.length b) (hc : b.length ≤ c) (hB : Below w0.heap.size w0 w) (hl : b.length < 900000000) (hp : p ≤ 8 * b.length) (n : Int) (r1 : List Int) (r2 : Int) (p2 : Nat) (hr : rawP b p n = (r1, r2, p2)) :
    Calls Try.prog 34 #[.pointer (some ⟨x, 0, none⟩), .int .i64 n] w fun e w' => ∃ v, e = .returned (.tuple #[v, .int .i64 r2]) ∧ Kd.R (Kd.int .u8) 5 w' w.heap.size (fun _ => True) v r1 ∧ Xst w0 w' x A c b (p2 : Int) ∧ Rto w0.heap.size w x w' := by
  unfold rawP at hr
  by_cases h1 : n < 0 ∨ p % 8 ≠ 0
  · rw [if_pos h1] at hr
    simp only [Prod.mk.injEq] at hr
    obtain ⟨rfl, rfl, rfl⟩ := hr
    refine (refRaw_no x A c b p w0 w h n h1).mono ?_
    rintro e w' ⟨he, hd⟩
    exact ⟨_, he, Kd.R_nil _ _ _ _ _, h.below hd.below, Rto.drawn (hd.below.mono hB.size) hd.below⟩
  · rw [if_neg h1] at hr
    by_cases h2 : (b.length : Int) - (p / 8 : Nat) < n
    · rw [if_pos h2] at hr
      simp only [Prod.mk.injEq] at hr
      obtain ⟨rfl, rfl, rfl⟩ := hr
      refine (refRaw_short x A c b p w0 w h n hl hp (by omega) (by omega) h2).mono ?_
      rintro e w' ⟨he, hd⟩
      exact ⟨_, he, Kd.R_nil _ _ _ _ _, h.below hd.below, Rto.drawn (hd.below.mono hB.size) hd.below⟩
    · rw [if_neg h2] at hr
      simp only [Prod.mk.injEq] at hr
      obtain ⟨rfl, rfl, rfl⟩ := hr
      obtain ⟨m, rfl⟩ := Int.eq_ofNat_of_zero_le (show 0 ≤ n by omega)
      exact refRaw_yes x A c b p w0 w h hC hc hB m hl (by omega) (by omega)
theorem getP_le {l : List Int} {p : Nat} {n r1 r2 : Int} {p2 : Nat} (hp : p ≤ 8 * l.length) (h : getP l p n = (r1, r2, p2)) : p2 ≤ 8 * l.length := by
  unfold getP at h
  split at h
  · simp only [Prod.mk.injEq] at h; omega
  · split at h
    · simp only [Prod.mk.injEq] at h; omega
    · simp only [Prod.mk.injEq] at h; omega
theorem rawP_le {l : List Int} {p : Nat} {n : Int} {r1 : List Int} {r2 : Int} {p2 : Nat} (hp : p ≤ 8 * l.length) (h : rawP l p n = (r1, r2, p2)) : p2 ≤ 8 * l.length ∧ r1.length ≤ l.length := by
  unfold rawP at h
  split at h
  · simp only [Prod.mk.injEq] at h
    obtain ⟨rfl, _, rfl⟩ := h
    exact ⟨hp, by simp⟩
  · split at h
    · simp only [Prod.mk.injEq] at h
      obtain ⟨rfl, _, rfl⟩ := h
      exact ⟨hp, by simp⟩
    · simp only [Prod.mk.injEq] at h
      obtain ⟨rfl, _, rfl⟩ := h
      refine ⟨by omega, ?_⟩
      rw [List.length_drop, List.length_take]
      omega
end Go.Proofs.Ytblneonbilbaiaa.PA
