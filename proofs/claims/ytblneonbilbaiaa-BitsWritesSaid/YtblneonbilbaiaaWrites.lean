/- The document's Writer of bits: its walks. Fewer than 800000000 bits. -/
import Derived.Test.YtblneonbilbaiaaKnown
import Derived.Test.YtblneonbilbaiaaRaw
import Derived.Test.YtblneonbilbaiaaMath
namespace Go.Proofs.Ytblneonbilbaiaa.PA
open Go.Proofs.Ytblneonbilbaiaa.Mat Go.RowKit Go.Proofs.YtblneonbilbaiaaW.PrintWords Go.Proofs.YtblneonbilbaiaaW.PrintLast Go.Proofs.YtblneonbilbaiaaW.PrintMore
set_option linter.unusedVariables false
set_option linter.unusedSimpArgs false
/-- The document's Writer at block x: its bits, one number each. -/
structure Tst (b0 : Nat) (w : World) (x : Nat) (L : List Int) (u : Value) : Prop where
  blk : w.heap[x]? = some (.cells #[u] 36 (0, 0))
  row : Kd.R (Kd.int .u8) 5 w b0 (fun k => k ≠ x) u L
  base : b0 ≤ x
theorem Tst.below {b0 : Nat} {w w1 : World} {x : Nat} {L : List Int} {u : Value} (h : Tst b0 w x L u) (hb : Below w.heap.size w w1) : Tst b0 w1 x L u :=
  ⟨(hb.block x (blk_lt h.blk)).trans h.blk, Kd.R_below h.row hb, h.base⟩
theorem Tst.grow {b0 : Nat} {w W : World} {x : Nat} {L L2 : List Int} {u v : Value} (h : Tst b0 w x L u) (hr : Kd.R (Kd.int .u8) 5 W b0 (fun k => k ≠ x) v L2) (hg : w.grownBy W u.ownBlock) : Tst b0 (W.setCell ⟨x, 0, none⟩ v) x L2 v := by
  have hb : W.heap[x]? = some (.cells #[u] 36 (0, 0)) := (hg.block x (blk_lt h.blk) (fun e => h.row.1 x e.symm rfl)).trans h.blk
  exact ⟨blk_put (cs := #[u]) (cs' := #[v]) hb 0 v rfl, Kd.R_far (p := ⟨x, 0, none⟩) hr (fun _ hk => hk) v, h.base⟩
theorem Tst.apart {b0 : Nat} {w w1 : World} {x : Nat} {L : List Int} {u : Value} {S : Nat → Prop} (h : Tst b0 w x L u) (hk : Kept w w1 S) (hg : ¬ S x) (hu : ∀ j, u.ownBlock = some j → ¬ S j) : Tst b0 w1 x L u :=
  ⟨blk_kept h.blk hk hg, Kd.R_mono (Kd.R_kept (R_tight h.row) hk hu) h.row.1, h.base⟩
/-- Bits of v from the i-th on, the lowest first. -/
def ups : Nat → Nat → Int → List Int
  | 0, _, _ => []
  | d + 1, i, v => v / 2 ^ i % 2 :: ups d (i + 1) v
/-- d bits of v, the highest first. -/
def downs : Nat → Int → List Int
  | 0, _ => []
  | d + 1, v => v / 2 ^ d % 2 :: downs d v
theorem ups_len : ∀ d i v, (ups d i v).length = d
  | 0, _, _ => rfl
  | d + 1, i, v => by rw [ups, List.length_cons, ups_len d]
theorem downs_len : ∀ d v, (downs d v).length = d
  | 0, _ => rfl
  | d + 1, v => by rw [downs, List.length_cons, downs_len d]
theorem shr_at (v : Int) (i : Nat) (h : i ≤ 64) : v / 2 ^ min i 64 = v / 2 ^ i := by rw [Nat.min_eq_left h]
set_option maxHeartbeats 4000000 in
set_option maxRecDepth 100000 in
theorem refPut (x : Nat) (L : List Int) (v n : Int) (u : Value) (w : World) (b0 : Nat) (hbw : b0 ≤ w.heap.size) (h : Tst b0 w x L u) (hL : L.length ≤ 800000000) (hn : 0 ≤ n) (hn2 : n ≤ 24) (hv : 0 ≤ v) (hv2 : v < 2 ^ n.toNat) :
    Calls Try.prog 16 #[.pointer (some ⟨x, 0, none⟩), .int .i64 v, .int .i64 n] w fun e w' => e = .returned (.int .i64 0) ∧ ∃ u', Tst b0 w' x (L ++ ups n.toNat 0 v) u' ∧ Wto b0 w x u w' u' := by
  have HLn := Aside0.mk hL
  have d1 : decide (n < 0) = false := decide_eq_false (by omega)
  have d2 : decide (24 < n) = false := decide_eq_false (by omega)
  have d3 : decide (v < 0) = false := decide_eq_false (by omega)
  have d0 : decide (0 ≤ n) = true := decide_eq_true hn
  have p0 : (0 ≤ n) = True := eq_true hn
  have m0 : n.toNat ≤ 24 := by omega
  have m1 : min n.toNat 64 = n.toNat := Nat.min_eq_left (by omega)
  have m3 : (2 : Int) ^ n.toNat ≤ 16777216 := by
    have := Nat.pow_le_pow_right (n := 2) (by decide) m0
    have e : ((2 ^ n.toNat : Nat) : Int) = (2 : Int) ^ n.toNat := by simp
    rw [← e]
    omega
  have hv3 : v < 16777216 := by omega
  obtain ⟨sh, hsh⟩ : ∃ j : Int, j = 2 ^ n.toNat := ⟨_, rfl⟩
  have n64 : IntKind.u64.wrap n = n := by show n % 18446744073709551616 = n; omega
  have HN := Aside0.mk (show 0 ≤ n ∧ n ≤ 24 ∧ 0 ≤ v ∧ v < 16777216 from ⟨hn, by omega, hv, hv3⟩)
  have H0 := Aside0.mk (show Tst b0 w x L u ∧ Wto b0 w x u w u from ⟨h, Wto.refl⟩)
  have hsb : sh ≤ 16777216 ∧ 0 ≤ sh := by omega
  have hvv : v < sh := by omega
  clear h hL hn hn2 hv hv2 hv3 m0 m3
  have hsw : wrap64 (2 ^ n.toNat) = sh := by rw [← hsh]; unfold wrap64; omega
  have d4 : decide (wrap64 (2 ^ n.toNat) ≤ v) = false := by rw [hsw]; exact decide_eq_false (by clear hsw; omega)
  clear hsw hsh hsb hvv
  go_enter Try.func16, Try.ntmps16
  go_wp2
  go_loopw [7] (fun v7 wr => ∃ (i d : Nat) (ii : Int) (M : List Int) (ut : Value), v7 = .int .i64 ii ∧ ii = (i : Int) ∧ i + d = n.toNat ∧ Aside0 (M ++ ups d i v = L ++ ups n.toNat 0 v) ∧ Aside0 (M.length ≤ 800000000 + i) ∧ Aside0 (Tst b0 wr x M ut) ∧ Aside0 (Wto b0 w x u wr ut)) (fun v7 _ => n.toNat - (intOf v7).toNat)
  case atStart =>
    exact ⟨0, n.toNat, 0, L, u, rfl, rfl, by omega, ⟨rfl⟩, HLn, ⟨H0.out.1⟩, ⟨H0.out.2⟩⟩
  case round =>
    clear H0
    obtain ⟨i, d, ii, M, ut, rfl, hii, hid, HI, HML, HU, HO⟩ := hrel
    have hN := HN.out
    by_cases hlt : ii < n
    · obtain ⟨d, rfl⟩ : ∃ d', d = d' + 1 := ⟨d - 1, by omega⟩
      have dlt : decide (ii < n) = true := decide_eq_true hlt
      have i0 : (0 ≤ ii) = True := eq_true (by omega)
      have di0 : decide (0 ≤ ii) = true := decide_eq_true (by omega)
      have ii2 : IntKind.u64.wrap ii = ii := by show ii % 18446744073709551616 = ii; omega
      have mi : min ii.toNat 64 = ii.toNat := Nat.min_eq_left (by omega)
      have hyr := div_range v ii.toNat hN.2.2.1 (by omega)
      obtain ⟨y, hy⟩ : ∃ y : Int, v / 2 ^ ii.toNat = y := ⟨_, rfl⟩
      rw [hy] at hyr
      obtain ⟨bb, hb1⟩ : ∃ y2 : Int, Go.bits .and .i64 y 1 = y2 := ⟨_, rfl⟩
      have hbe : bb = y % 2 := by rw [← hb1]; exact and1 y hyr.1 hyr.2
      have hb2 : bb % 256 = bb := by clear hb1 hy; omega
      have hb3 : IntKind.u8.wrap bb = bb := hb2
      have HB := Aside0.mk (show bb = v / 2 ^ i % 2 by rw [hbe, ← hy, hii, Int.toNat_natCast])
      have HM := Aside0.mk (show M.length ≤ 900000000 by have := HML.out; clear hb1 hy hb2 hb3 hbe; omega)
      clear hyr hbe
      have t5 : wrap64 (ii + 1) = ii + 1 := by clear hy hb1 hb2 hb3 ii2; unfold wrap64; omega
      have HK := Aside0.mk (show ii = (i : Int) ∧ i + (d + 1) = n.toNat from ⟨hii, hid⟩)
      have c0 : wr.cell? ⟨x, 0, none⟩ = some ut := blk_cell HU.out.blk 0
      have f0 := blk_frozen HU.out.blk 0
      have q1 := blk_lt HU.out.blk
      clear hlt hii hid hN
      go_wp2_with ((with_reducible refine gate_builtin (b := .append) (xs := #[.tmp 34, .tmp 41]) rfl ?_); at_builtin; refine Kd.R_append (Kd.int .u8) (w0 := wr) b0 rfl (.tmp 34) (.tmp 41) 29 5 (.int .u8 0) 1 rfl Try.underlying29 info5B rfl (by decide) (by omega) ut M bb [.int .u8 bb] (fun k => k ≠ x) (fun _ => False) rfl rfl ?aP (fun _ hk => hk.elim) ?aF ?aO ?aB ?aS ?aL ?_; (case aP => exact rfl); (case aB => exact Below.refl _ _); (case aF => exact (fun k hk he => by have := blk_lt HU.out.blk; omega)); (case aO => exact HU.out.row); (case aS => exact Nat.le_trans hbw HO.out.kept.1); (case aL => have := HM.out; omega); intro v2 w2 ho hb hg hat; obtain ⟨A2, c2_, e2⟩ := Kd.R_slice ho; subst e2; have HB2 := Aside0.mk hb; have HO2 := Aside0.mk ho; have HG2 := Aside0.mk hg; have HT2 := Aside0.mk hat; have f0 := blk_frozen ((hg.block x (blk_lt HU.out.blk) (fun e => HU.out.row.1 x e.symm rfl)).trans HU.out.blk) 0; have c0 : w2.cell? ⟨x, 0, none⟩ = some ut := blk_cell ((hg.block x (blk_lt HU.out.blk) (fun e => HU.out.row.1 x e.symm rfl)).trans HU.out.blk) 0; have q1 : x < w2.heap.size := blk_lt ((hg.block x (blk_lt HU.out.blk) (fun e => HU.out.row.1 x e.symm rfl)).trans HU.out.blk); clear ho hb hg hat)
      go_roundw
      case rel =>
        obtain ⟨z1, z2⟩ := HK.out
        refine ⟨i + 1, d, _, M ++ [bb], .slice A2 (M.length + 1) c2_, rfl, by rw [t5]; omega, by omega, ⟨?_⟩, ⟨?_⟩, ⟨?_⟩, ⟨?_⟩⟩
        · have e := HI.out
          rw [ups] at e
          rw [List.append_assoc, List.singleton_append, HB.out]
          exact e
        · have := HML.out
          rw [List.length_append, List.length_singleton]
          omega
        · have e := HO2.out
          rw [List.length_append, List.length_singleton] at e
          exact HU.out.grow e HG2.out
        · have e := HT2.out
          rw [List.length_append, List.length_singleton] at e
          exact HO.out.trans (Wto.grow HG2.out e HB2.out HU.out.base)
      case measure =>
        have := HK.out
        simp only [intOf, t5]
        omega
    · have dlt : decide (ii < n) = false := decide_eq_false hlt
      obtain rfl : d = 0 := by omega
      have e := HI.out
      rw [ups, List.append_nil] at e
      clear hlt hii hid hN HI HML
      subst e
      go_wp2
      go_ret
      exact ⟨rfl, ut, HU.out, HO.out⟩
set_option maxHeartbeats 4000000 in
set_option maxRecDepth 100000 in
theorem refPut_no (p : Option Addr) (v n : Int) (w : World) (h : n < 0 ∨ 24 < n ∨ v < 0 ∨ (0 ≤ n ∧ n ≤ 24 ∧ 2 ^ n.toNat ≤ v)) :
    Calls Try.prog 16 #[.pointer p, .int .i64 v, .int .i64 n] w fun e w' => e = .returned (.int .i64 1) ∧ Drawn0 w w' := by
  by_cases h1 : n < 0
  · have d1 : decide (n < 0) = true := decide_eq_true h1
    clear h h1
    go_enter Try.func16, Try.ntmps16
    go_wp2
    go_ret
    exact ⟨rfl, Drawn0.refl _⟩
  have d1 : decide (n < 0) = false := decide_eq_false h1
  by_cases h2 : 24 < n
  · have d2 : decide (24 < n) = true := decide_eq_true h2
    clear h h1 h2
    go_enter Try.func16, Try.ntmps16
    go_wp2
    go_ret
    exact ⟨rfl, Drawn0.refl _⟩
  have d2 : decide (24 < n) = false := decide_eq_false h2
  by_cases h3 : v < 0
  · have d3 : decide (v < 0) = true := decide_eq_true h3
    clear h h1 h2 h3
    go_enter Try.func16, Try.ntmps16
    go_wp2
    go_ret
    exact ⟨rfl, Drawn0.refl _⟩
  have d3 : decide (v < 0) = false := decide_eq_false h3
  have h4 : 2 ^ n.toNat ≤ v := by omega
  have d0 : decide (0 ≤ n) = true := decide_eq_true (by omega)
  have p0 : (0 ≤ n) = True := eq_true (by omega)
  have m0 : n.toNat ≤ 24 := by omega
  have m1 : min n.toNat 64 = n.toNat := Nat.min_eq_left (by omega)
  have m3 : (2 : Int) ^ n.toNat ≤ 16777216 ∧ 0 ≤ (2 : Int) ^ n.toNat := by
    have := Nat.pow_le_pow_right (n := 2) (by decide) (show n.toNat ≤ 24 by omega)
    have e : ((2 ^ n.toNat : Nat) : Int) = (2 : Int) ^ n.toNat := by simp
    rw [← e]
    exact ⟨by omega, Int.natCast_nonneg _⟩
  obtain ⟨sh, hsh⟩ : ∃ j : Int, j = 2 ^ n.toNat := ⟨_, rfl⟩
  have n64 : IntKind.u64.wrap n = n := by show n % 18446744073709551616 = n; omega
  rw [← hsh] at m3 h4
  clear h h1 h2 h3 m0
  have hsw : wrap64 (2 ^ n.toNat) = sh := by rw [← hsh]; unfold wrap64; omega
  have d4 : decide (wrap64 (2 ^ n.toNat) ≤ v) = true := by rw [hsw]; exact decide_eq_true h4
  clear hsw hsh m3 h4
  go_enter Try.func16, Try.ntmps16
  go_wp2
  go_ret
  exact ⟨rfl, Drawn0.refl _⟩
set_option maxHeartbeats 4000000 in
set_option maxRecDepth 100000 in
theorem refCode_no (p : Option Addr) (v n : Int) (w : World) (h : n < 0 ∨ 15 < n ∨ v < 0 ∨ (0 ≤ n ∧ n ≤ 15 ∧ 2 ^ n.toNat ≤ v)) :
    Calls Try.prog 18 #[.pointer p, .int .i64 v, .int .i64 n] w fun e w' => e = .returned (.int .i64 1) ∧ Drawn0 w w' := by
  by_cases h1 : n < 0
  · have d1 : decide (n < 0) = true := decide_eq_true h1
    clear h h1
    go_enter Try.func18, Try.ntmps18
    go_wp2
    go_ret
    exact ⟨rfl, Drawn0.refl _⟩
  have d1 : decide (n < 0) = false := decide_eq_false h1
  by_cases h2 : 15 < n
  · have d2 : decide (15 < n) = true := decide_eq_true h2
    clear h h1 h2
    go_enter Try.func18, Try.ntmps18
    go_wp2
    go_ret
    exact ⟨rfl, Drawn0.refl _⟩
  have d2 : decide (15 < n) = false := decide_eq_false h2
  by_cases h3 : v < 0
  · have d3 : decide (v < 0) = true := decide_eq_true h3
    clear h h1 h2 h3
    go_enter Try.func18, Try.ntmps18
    go_wp2
    go_ret
    exact ⟨rfl, Drawn0.refl _⟩
  have d3 : decide (v < 0) = false := decide_eq_false h3
  have h4 : 2 ^ n.toNat ≤ v := by omega
  have d0 : decide (0 ≤ n) = true := decide_eq_true (by omega)
  have p0 : (0 ≤ n) = True := eq_true (by omega)
  have m0 : n.toNat ≤ 15 := by omega
  have m1 : min n.toNat 64 = n.toNat := Nat.min_eq_left (by omega)
  have m3 : (2 : Int) ^ n.toNat ≤ 16777216 ∧ 0 ≤ (2 : Int) ^ n.toNat := by
    have := Nat.pow_le_pow_right (n := 2) (by decide) (show n.toNat ≤ 24 by omega)
    have e : ((2 ^ n.toNat : Nat) : Int) = (2 : Int) ^ n.toNat := by simp
    rw [← e]
    exact ⟨by omega, Int.natCast_nonneg _⟩
  obtain ⟨sh, hsh⟩ : ∃ j : Int, j = 2 ^ n.toNat := ⟨_, rfl⟩
  have n64 : IntKind.u64.wrap n = n := by show n % 18446744073709551616 = n; omega
  rw [← hsh] at m3 h4
  clear h h1 h2 h3 m0
  have hsw : wrap64 (2 ^ n.toNat) = sh := by rw [← hsh]; unfold wrap64; omega
  have d4 : decide (wrap64 (2 ^ n.toNat) ≤ v) = true := by rw [hsw]; exact decide_eq_true h4
  clear hsw hsh m3 h4
  go_enter Try.func18, Try.ntmps18
  go_wp2
  go_ret
  exact ⟨rfl, Drawn0.refl _⟩
set_option maxHeartbeats 4000000 in
set_option maxRecDepth 100000 in
theorem refCode (x : Nat) (L : List Int) (v n : Int) (u : Value) (w : World) (b0 : Nat) (hbw : b0 ≤ w.heap.size) (h : Tst b0 w x L u) (hL : L.length ≤ 800000000) (hn : 0 ≤ n) (hn2 : n ≤ 15) (hv : 0 ≤ v) (hv2 : v < 2 ^ n.toNat) :
    Calls Try.prog 18 #[.pointer (some ⟨x, 0, none⟩), .int .i64 v, .int .i64 n] w fun e w' => e = .returned (.int .i64 0) ∧ ∃ u', Tst b0 w' x (L ++ downs n.toNat v) u' ∧ Wto b0 w x u w' u' := by
  have HLn := Aside0.mk hL
  have d1 : decide (n < 0) = false := decide_eq_false (by omega)
  have d2 : decide (15 < n) = false := decide_eq_false (by omega)
  have d3 : decide (v < 0) = false := decide_eq_false (by omega)
  have d0 : decide (0 ≤ n) = true := decide_eq_true hn
  have p0 : (0 ≤ n) = True := eq_true hn
  have m0 : n.toNat ≤ 24 := by omega
  have m1 : min n.toNat 64 = n.toNat := Nat.min_eq_left (by omega)
  have m3 : (2 : Int) ^ n.toNat ≤ 16777216 := by
    have := Nat.pow_le_pow_right (n := 2) (by decide) m0
    have e : ((2 ^ n.toNat : Nat) : Int) = (2 : Int) ^ n.toNat := by simp
    rw [← e]
    omega
  have hv3 : v < 16777216 := by omega
  obtain ⟨sh, hsh⟩ : ∃ j : Int, j = 2 ^ n.toNat := ⟨_, rfl⟩
  have n64 : IntKind.u64.wrap n = n := by show n % 18446744073709551616 = n; omega
  have HN := Aside0.mk (show 0 ≤ n ∧ n ≤ 24 ∧ 0 ≤ v ∧ v < 16777216 from ⟨hn, by omega, hv, hv3⟩)
  have H0 := Aside0.mk (show Tst b0 w x L u ∧ Wto b0 w x u w u from ⟨h, Wto.refl⟩)
  have hsb : sh ≤ 16777216 ∧ 0 ≤ sh := by omega
  have hvv : v < sh := by omega
  clear h hL hn hn2 hv hv2 hv3 m0 m3
  have hsw : wrap64 (2 ^ n.toNat) = sh := by rw [← hsh]; unfold wrap64; omega
  have d4 : decide (wrap64 (2 ^ n.toNat) ≤ v) = false := by rw [hsw]; exact decide_eq_false (by clear hsw; omega)
  clear hsw hsh hsb hvv
  have HTN := Aside0.mk (show wrap64 (n - 1) = n - 1 by have := HN.out; unfold wrap64; omega)
  go_enter Try.func18, Try.ntmps18
  go_wp2
  go_loopw [7] (fun v7 wr => ∃ (d : Nat) (ii : Int) (M : List Int) (ut : Value), v7 = .int .i64 ii ∧ ii = (d : Int) - 1 ∧ d ≤ n.toNat ∧ Aside0 (M ++ downs d v = L ++ downs n.toNat v) ∧ Aside0 (M.length + d ≤ 800000000 + 24) ∧ Aside0 (Tst b0 wr x M ut) ∧ Aside0 (Wto b0 w x u wr ut)) (fun v7 _ => (intOf v7 + 1).toNat)
  case atStart =>
    exact ⟨n.toNat, _, L, u, rfl, by rw [HTN.out]; have := HN.out; omega, Nat.le_refl _, ⟨rfl⟩, ⟨by have := HLn.out; have := HN.out; omega⟩, ⟨H0.out.1⟩, ⟨H0.out.2⟩⟩
  case round =>
    clear H0
    obtain ⟨d, ii, M, ut, rfl, hii, hid, HI, HML, HU, HO⟩ := hrel
    have hN := HN.out
    by_cases hlt : 0 ≤ ii
    · obtain ⟨d, rfl⟩ : ∃ d', d = d' + 1 := ⟨d - 1, by omega⟩
      have hii2 : ii = (d : Int) := by omega
      clear hii
      have hii := hii2
      clear hii2
      have i0 : (0 ≤ ii) = True := eq_true (by omega)
      have di0 : decide (0 ≤ ii) = true := decide_eq_true (by omega)
      have ii2 : IntKind.u64.wrap ii = ii := by show ii % 18446744073709551616 = ii; omega
      have mi : min ii.toNat 64 = ii.toNat := Nat.min_eq_left (by omega)
      have hyr := div_range v ii.toNat hN.2.2.1 (by omega)
      obtain ⟨y, hy⟩ : ∃ y : Int, v / 2 ^ ii.toNat = y := ⟨_, rfl⟩
      rw [hy] at hyr
      obtain ⟨bb, hb1⟩ : ∃ y2 : Int, Go.bits .and .i64 y 1 = y2 := ⟨_, rfl⟩
      have hbe : bb = y % 2 := by rw [← hb1]; exact and1 y hyr.1 hyr.2
      have hb2 : bb % 256 = bb := by clear hb1 hy; omega
      have hb3 : IntKind.u8.wrap bb = bb := hb2
      have HB := Aside0.mk (show bb = v / 2 ^ d % 2 by rw [hbe, ← hy, hii, Int.toNat_natCast])
      have HM := Aside0.mk (show M.length ≤ 900000000 by have := HML.out; clear hb1 hy hb2 hb3 hbe; omega)
      clear hyr hbe
      have t5 : wrap64 (ii - 1) = ii - 1 := by clear hy hb1 hb2 hb3 ii2; unfold wrap64; omega
      have HK := Aside0.mk (show ii = (d : Int) ∧ d + 1 ≤ n.toNat from ⟨hii, hid⟩)
      have c0 : wr.cell? ⟨x, 0, none⟩ = some ut := blk_cell HU.out.blk 0
      have f0 := blk_frozen HU.out.blk 0
      have q1 := blk_lt HU.out.blk
      clear hlt hii hid hN
      go_wp2_with ((with_reducible refine gate_builtin (b := .append) (xs := #[.tmp 35, .tmp 42]) rfl ?_); at_builtin; refine Kd.R_append (Kd.int .u8) (w0 := wr) b0 rfl (.tmp 35) (.tmp 42) 29 5 (.int .u8 0) 1 rfl Try.underlying29 info5B rfl (by decide) (by omega) ut M bb [.int .u8 bb] (fun k => k ≠ x) (fun _ => False) rfl rfl ?aP (fun _ hk => hk.elim) ?aF ?aO ?aB ?aS ?aL ?_; (case aP => exact rfl); (case aB => exact Below.refl _ _); (case aF => exact (fun k hk he => by have := blk_lt HU.out.blk; omega)); (case aO => exact HU.out.row); (case aS => exact Nat.le_trans hbw HO.out.kept.1); (case aL => have := HM.out; omega); intro v2 w2 ho hb hg hat; obtain ⟨A2, c2_, e2⟩ := Kd.R_slice ho; subst e2; have HB2 := Aside0.mk hb; have HO2 := Aside0.mk ho; have HG2 := Aside0.mk hg; have HT2 := Aside0.mk hat; have f0 := blk_frozen ((hg.block x (blk_lt HU.out.blk) (fun e => HU.out.row.1 x e.symm rfl)).trans HU.out.blk) 0; have c0 : w2.cell? ⟨x, 0, none⟩ = some ut := blk_cell ((hg.block x (blk_lt HU.out.blk) (fun e => HU.out.row.1 x e.symm rfl)).trans HU.out.blk) 0; have q1 : x < w2.heap.size := blk_lt ((hg.block x (blk_lt HU.out.blk) (fun e => HU.out.row.1 x e.symm rfl)).trans HU.out.blk); clear ho hb hg hat)
      go_roundw
      case rel =>
        obtain ⟨z1, z2⟩ := HK.out
        refine ⟨d, _, M ++ [bb], .slice A2 (M.length + 1) c2_, rfl, by rw [t5]; omega, by omega, ⟨?_⟩, ⟨?_⟩, ⟨?_⟩, ⟨?_⟩⟩
        · have e := HI.out
          rw [downs] at e
          rw [List.append_assoc, List.singleton_append, HB.out]
          exact e
        · have := HML.out
          rw [List.length_append, List.length_singleton]
          omega
        · have e := HO2.out
          rw [List.length_append, List.length_singleton] at e
          exact HU.out.grow e HG2.out
        · have e := HT2.out
          rw [List.length_append, List.length_singleton] at e
          exact HO.out.trans (Wto.grow HG2.out e HB2.out HU.out.base)
      case measure =>
        have := HK.out
        simp only [intOf, t5]
        omega
    · have dlt : decide (0 ≤ ii) = false := decide_eq_false hlt
      obtain rfl : d = 0 := by omega
      have e := HI.out
      rw [downs, List.append_nil] at e
      clear hlt hii hid hN HI HML
      subst e
      go_wp2
      go_ret
      exact ⟨rfl, ut, HU.out, HO.out⟩
/-- How many noughts lead to the next edge. -/
def padN (m : Nat) : Nat := (8 - m % 8) % 8
def padLeft (x : Nat) (w : World) : Nat := match w.cell? ⟨x, 0, none⟩ with
  | some (.slice _ m _) => padN m
  | _ => 0
theorem padLeft_of {b0 : Nat} {w : World} {x : Nat} {L : List Int} {A : Option Addr} {m c : Nat} (h : Tst b0 w x L (.slice A m c)) : padLeft x w = padN m := by
  unfold padLeft
  rw [show w.cell? ⟨x, 0, none⟩ = some (.slice A m c) from blk_cell h.blk 0]
theorem tmod_n (M : Nat) : Int.tmod (M : Int) 8 = ((M % 8 : Nat) : Int) := rfl
set_option maxHeartbeats 4000000 in
set_option maxRecDepth 100000 in
theorem refAlign_ (x : Nat) (L : List Int) (u : Value) (w : World) (b0 : Nat) (hbw : b0 ≤ w.heap.size) (h : Tst b0 w x L u) (hL : L.length ≤ 800000000) :
    Calls Try.prog 20 #[.pointer (some ⟨x, 0, none⟩)] w fun e w' => e = .returned (.tuple #[]) ∧ ∃ u', Tst b0 w' x (L ++ List.replicate (padN L.length) 0) u' ∧ Wto b0 w x u w' u' := by
  have HL := Aside0.mk hL
  have H0 := Aside0.mk (show Tst b0 w x L u ∧ Wto b0 w x u w u from ⟨h, Wto.refl⟩)
  clear h hL
  go_enter Try.func20, Try.ntmps20
  go_wp2
  go_loopw [] (fun wr => ∃ (d m : Nat) (M : List Int) (A : Option Addr) (c : Nat), M.length = m ∧ Aside0 (M ++ List.replicate d 0 = L ++ List.replicate (padN L.length) 0) ∧ d = padN m ∧ Aside0 (m + d ≤ 800000008) ∧ Aside0 (Tst b0 wr x M (.slice A m c)) ∧ Aside0 (Wto b0 w x u wr (.slice A m c))) (fun wr => padLeft x wr)
  case atStart =>
    obtain ⟨h1, h2⟩ := H0.out
    obtain ⟨A, c, rfl⟩ := Kd.R_slice h1.row
    exact ⟨_, L.length, L, A, c, rfl, ⟨rfl⟩, rfl, ⟨by have := HL.out; unfold padN; omega⟩, ⟨h1⟩, ⟨h2⟩⟩
  case round =>
    clear H0
    obtain ⟨d, m, M, A, c, hm, HI, hd, HML, HU, HO⟩ := hrel
    have c0 : wr.cell? ⟨x, 0, none⟩ = some (.slice A m c) := blk_cell HU.out.blk 0
    have f0 := blk_frozen HU.out.blk 0
    have q1 := blk_lt HU.out.blk
    obtain ⟨jj, hjj⟩ : ∃ j : Int, Int.tmod (m : Int) 8 = j := ⟨_, rfl⟩
    have ej : jj = ((m % 8 : Nat) : Int) := by rw [← hjj]; rfl
    by_cases h8 : m % 8 = 0
    · have dj : (jj != 0) = false := by rw [ej, h8]; rfl
      obtain rfl : d = 0 := by rw [hd]; unfold padN; omega
      have e := HI.out
      rw [List.replicate_zero, List.append_nil] at e
      subst e
      clear ej h8 hd hm
      go_wp2
      refine bodyPost_end (results_none rfl _ _ _) rfl ?_
      exact ⟨rfl, _, HU.out, HO.out⟩
    · have dj : (jj != 0) = true := bne_iff_ne.mpr (by omega)
      obtain ⟨d2, hd2⟩ : ∃ d2, d = d2 + 1 := ⟨d - 1, by rw [hd]; unfold padN; omega⟩
      subst hd2
      have HK := Aside0.mk (show M.length = m ∧ d2 + 1 = padN m ∧ padN (m + 1) = d2 from ⟨hm, hd, by unfold padN at hd ⊢; omega⟩)
      have HM := Aside0.mk (show m ≤ 900000000 by have := HML.out; omega)
      have HPL := Aside0.mk (padLeft_of HU.out)
      clear ej h8 hd
      subst hm
      go_wp2_with ((with_reducible refine gate_builtin (b := .append) (xs := #[.tmp 13, .tmp 14]) rfl ?_); at_builtin; refine Kd.R_append (Kd.int .u8) (w0 := wr) b0 rfl (.tmp 13) (.tmp 14) 29 5 (.int .u8 0) 1 rfl Try.underlying29 info5B rfl (by decide) (by omega) (.slice A M.length c) M 0 [.int .u8 0] (fun k => k ≠ x) (fun _ => False) rfl rfl ?aP (fun _ hk => hk.elim) ?aF ?aO ?aB ?aS ?aL ?_; (case aP => exact rfl); (case aB => exact Below.refl _ _); (case aF => exact (fun k hk he => by have := blk_lt HU.out.blk; omega)); (case aO => exact HU.out.row); (case aS => exact Nat.le_trans hbw HO.out.kept.1); (case aL => have := HM.out; omega); intro v2 w2 ho hb hg hat; obtain ⟨A2, c2_, e2⟩ := Kd.R_slice ho; subst e2; have HB2 := Aside0.mk hb; have HO2 := Aside0.mk ho; have HG2 := Aside0.mk hg; have HT2 := Aside0.mk hat; have f0 := blk_frozen ((hg.block x (blk_lt HU.out.blk) (fun e => HU.out.row.1 x e.symm rfl)).trans HU.out.blk) 0; have c0 : w2.cell? ⟨x, 0, none⟩ = some (.slice A M.length c) := blk_cell ((hg.block x (blk_lt HU.out.blk) (fun e => HU.out.row.1 x e.symm rfl)).trans HU.out.blk) 0; have q1 : x < w2.heap.size := blk_lt ((hg.block x (blk_lt HU.out.blk) (fun e => HU.out.row.1 x e.symm rfl)).trans HU.out.blk); clear ho hb hg hat)
      go_roundw
      case rel =>
        obtain ⟨z0, z1, z2⟩ := HK.out
        refine ⟨d2, M.length + 1, M ++ [0], A2, c2_, by simp, ⟨?_⟩, z2.symm, ⟨?_⟩, ⟨?_⟩, ⟨?_⟩⟩
        · rw [List.append_assoc, List.singleton_append, ← List.replicate_succ]
          exact HI.out
        · have := HML.out
          omega
        · have e := HO2.out
          rw [List.length_append, List.length_singleton] at e
          exact HU.out.grow e HG2.out
        · have e := HT2.out
          rw [List.length_append, List.length_singleton] at e
          exact HO.out.trans (Wto.grow HG2.out e HB2.out HU.out.base)
      case measure =>
        obtain ⟨z0, z1, z2⟩ := HK.out
        have e := HO2.out
        rw [List.length_append, List.length_singleton] at e
        rw [HPL.out, padLeft_of (HU.out.grow e HG2.out), z2, ← z1]
        omega
set_option maxHeartbeats 4000000 in
set_option maxRecDepth 100000 in
theorem refRaw_refuses (x : Nat) (L : List Int) (u : Value) (p : Value) (w : World) (b0 : Nat) (h : Tst b0 w x L u) (h8 : L.length % 8 ≠ 0) (A : Option Addr) (n c : Nat) (hp : p = .slice A n c) :
    Calls Try.prog 23 #[.pointer (some ⟨x, 0, none⟩), p] w fun e w' => e = .returned (.int .i64 1) ∧ Drawn0 w w' := by
  subst hp
  obtain ⟨A1, c1, rfl⟩ := Kd.R_slice h.row
  have c0 : w.cell? ⟨x, 0, none⟩ = some (.slice A1 L.length c1) := blk_cell h.blk 0
  have q1 := blk_lt h.blk
  obtain ⟨jj, hjj⟩ : ∃ j : Int, Int.tmod (L.length : Int) 8 = j := ⟨_, rfl⟩
  have ej : jj = ((L.length % 8 : Nat) : Int) := by rw [← hjj]; rfl
  have dj : (jj != 0) = true := bne_iff_ne.mpr (by omega)
  clear h h8 ej
  go_enter Try.func23, Try.ntmps23
  go_wp2
  go_ret
  exact ⟨rfl, Drawn0.refl _⟩
/-- Bytes as bits. -/
def bits8 (l : List Int) : List Int := (l.map (fun c => ups 8 0 c)).flatten
theorem bits8_append (a b : List Int) : bits8 (a ++ b) = bits8 a ++ bits8 b := by unfold bits8; simp
theorem bits8_one (c : Int) : bits8 [c] = ups 8 0 c := by unfold bits8; simp
theorem bits8_len (l : List Int) : (bits8 l).length = 8 * l.length := by
  induction l with
  | nil => rfl
  | cons c l ih =>
    rw [show c :: l = [c] ++ l from rfl, bits8_append, bits8_one, List.length_append, ups_len, ih, List.length_append, List.length_singleton]
    omega
theorem take_rd (l : List Int) (i : Nat) (h : i < l.length) : l.take (i + 1) = l.take i ++ [rd l (i : Int)] := by
  rw [List.take_succ_eq_append_getElem h]
  unfold rd
  rw [Int.toNat_natCast, List.getD_eq_getElem?_getD, List.getElem?_eq_getElem h]
  rfl
set_option maxHeartbeats 4000000 in
set_option maxRecDepth 100000 in
theorem refRaw_calls (x : Nat) (L : List Int) (u : Value) (k n : Nat) (rs : List Lie) (w : World) (b0 : Nat) (hbw : b0 ≤ w.heap.size) (h : Tst b0 w x L u) (h8 : L.length % 8 = 0) (hk : k ≠ x ∧ u.ownBlock ≠ some k) (hn : rs.length = n) (hb : w.heap[k]? = some (.cells (rs.map Lie.v).toArray 29 (0, 0))) (hr : ∀ r ∈ rs, r.reads w x u) (hby : ∀ r ∈ rs, ∀ c ∈ r.l, Byte c) (hl : L.length + 8 * (flat rs).length ≤ 800000000) (hn2 : n ≤ 1000) :
    Calls Try.prog 23 #[.pointer (some ⟨x, 0, none⟩), .slice (some ⟨k, 0, none⟩) n n] w fun e w' => e = .returned (.int .i64 0) ∧ ∃ u', Tst b0 w' x (L ++ bits8 (flat rs)) u' ∧ Wto b0 w x u w' u' := by
  have HA := Aside0.mk (And.intro hk (And.intro hb (And.intro hr hby)))
  have HL := Aside0.mk (And.intro hl (And.intro hn hn2))
  obtain ⟨jj, hjj⟩ : ∃ j : Int, Int.tmod (L.length : Int) 8 = j := ⟨_, rfl⟩
  have ej : jj = ((L.length % 8 : Nat) : Int) := by rw [← hjj]; rfl
  have dj : (jj != 0) = false := by rw [ej, h8]; rfl
  obtain ⟨A1, c1, rfl⟩ := Kd.R_slice h.row
  have c0 : w.cell? ⟨x, 0, none⟩ = some (.slice A1 L.length c1) := blk_cell h.blk 0
  have q1 := blk_lt h.blk
  have H0 := Aside0.mk h
  clear h h8 hk hb hr hby hl hn hn2 ej
  go_enter Try.func23, Try.ntmps23
  go_wp2
  go_loopw [5] (fun v5 wr => ∃ (i : Nat) (ii : Int) (ut : Value), v5 = .int .i64 ii ∧ ii = (i : Int) ∧ i ≤ rs.length ∧ Aside0 (Tst b0 wr x (L ++ bits8 (flat (rs.take i))) ut) ∧ Aside0 (Wto b0 w x (.slice A1 L.length c1) wr ut)) (fun v5 _ => n - (intOf v5).toNat)
  case atStart =>
    exact ⟨0, 0, _, rfl, rfl, Nat.zero_le _, ⟨by simpa [flat, bits8] using H0.out⟩, ⟨Wto.refl⟩⟩
  case round =>
    clear H0 c0
    obtain ⟨i, ii, ut, rfl, hii, hir, HU, HO⟩ := hrel
    by_cases hlt : ii < (n : Int)
    · have dlt : decide (ii < (n : Int)) = true := decide_eq_true hlt
      have hil : i < rs.length := by have := HL.out; omega
      have p0 : 0 ≤ ii := by omega
      have d0 : decide (0 ≤ ii) = true := decide_eq_true p0
      obtain ⟨r, hr⟩ : ∃ r, rs[i] = r := ⟨_, rfl⟩
      have hmem : r ∈ rs := hr ▸ List.getElem_mem hil
      have HR := Aside0.mk (And.intro (HA.out.2.2.1 r hmem) (HA.out.2.2.2 r hmem))
      have ef : flat (rs.take (i + 1)) = flat (rs.take i) ++ r.l := by rw [flat_take rs i hil, hr]
      have hle := flat_le rs (i + 1)
      rw [ef, List.length_append] at hle
      have HI := Aside0.mk (show ii = (i : Int) ∧ i < rs.length ∧ flat (rs.take (i + 1)) = flat (rs.take i) ++ r.l ∧ L.length + 8 * ((flat (rs.take i)).length + r.l.length) ≤ 800000000 from ⟨hii, hil, ef, by have := HL.out.1; omega⟩)
      have t5 : wrap64 (ii + 1) = ii + 1 := by unfold wrap64; have := HL.out; omega
      have HCELL := Aside0.mk (show ∀ (W : World) (u2 : Value), Wto b0 w x (.slice A1 L.length c1) W u2 → W.cell? ⟨k, ii.toNat, none⟩ = some (.slice r.A r.l.length r.c) from fun W u2 hW => by
        have hwk : W.heap[k]? = some (.cells (rs.map Lie.v).toArray 29 (0, 0)) := blk_kept HA.out.2.1 hW.kept (fun hf => hf.elim HA.out.1.1 HA.out.1.2)
        rw [show ii.toNat = i by omega, blk_cell hwk i]
        simp [hil, hr, Lie.v])
      obtain ⟨T, hT⟩ : ∃ T, L ++ bits8 (flat (rs.take i)) = T := ⟨_, rfl⟩
      have HTl := Aside0.mk (show T.length + 8 * r.l.length ≤ 800000000 by have := HI.out.2.2.2; rw [← hT, List.length_append, bits8_len]; omega)
      rw [hT] at HU
      have HT := Aside0.mk hT
      have q0 := eq_true hlt
      clear hlt hil hr hmem ef hle hii hir hT
      replace p0 := eq_true p0
      go_wp2
      go_loopw [6] (fun v6 wr => ∃ (j : Nat) (jj : Int) (ut : Value), v6 = .int .i64 jj ∧ jj = (j : Int) ∧ j ≤ r.l.length ∧ Aside0 (Tst b0 wr x (T ++ bits8 (r.l.take j)) ut) ∧ Aside0 (Wto b0 w x (.slice A1 L.length c1) wr ut)) (fun v6 _ => r.l.length - (intOf v6).toNat)
      case atStart =>
        exact ⟨0, 0, ut, rfl, rfl, Nat.zero_le _, ⟨by simpa [bits8] using HU.out⟩, HO⟩
      case round =>
        clear HU HO
        obtain ⟨j, j2, ut, rfl, hj2, hjr, HU, HO⟩ := hrel
        have hx := HCELL.out _ _ HO.out
        by_cases hlj : j2 < (r.l.length : Int)
        · have dlj : decide (j2 < (r.l.length : Int)) = true := decide_eq_true hlj
          have hjl : j < r.l.length := by omega
          have pj : 0 ≤ j2 := by omega
          have dj0 : decide (0 ≤ j2) = true := decide_eq_true pj
          obtain ⟨ad, ead, hx2⟩ := Kd.at_int (HR.out.1.2 _ HO.out.kept) j2 pj hlj
          have hcc : Byte (rd r.l j2) := HR.out.2 _ (by
            unfold rd
            rw [show j2.toNat = j by omega, List.getD_eq_getElem?_getD, List.getElem?_eq_getElem hjl]
            exact List.getElem_mem hjl)
          have htk := take_rd r.l j hjl
          rw [← hj2] at htk
          obtain ⟨cc, hcq⟩ : ∃ cc, rd r.l j2 = cc := ⟨_, rfl⟩
          rw [hcq] at hcc hx2 htk
          have HCC := Aside0.mk hcc
          have cw : wrap64 cc = cc := by have := HCC.out; unfold Byte at this; unfold wrap64; omega
          have cw2 : IntKind.i64.wrap cc = cc := (i64_w _).trans cw
          rw [ead] at hx
          have HTK := Aside0.mk htk
          have HJ := Aside0.mk (show j2 = (j : Int) ∧ j < r.l.length from ⟨hj2, hjl⟩)
          have t6 : wrap64 (j2 + 1) = j2 + 1 := by clear cw cw2 t5; unfold wrap64; have := HTl.out; omega
          obtain ⟨M, hM⟩ : ∃ M, T ++ bits8 (r.l.take j) = M := ⟨_, rfl⟩
          have HML := Aside0.mk (show M.length ≤ 800000000 by have := HTl.out; rw [← hM, List.length_append, bits8_len, List.length_take]; omega)
          rw [hM] at HU
          have HMM := Aside0.mk hM
          have qj := eq_true hlj
          replace pj := eq_true pj
          clear hlj hjl hcc htk hcq hj2 hjr hM hjj
          go_wp2_with (go_at_call 16; (refine (refPut x M cc 8 ut _ b0 (Nat.le_trans hbw HO.out.kept.1) HU.out HML.out (by decide) (by decide) HCC.out.1 HCC.out.2).mono ?_); rintro e w3 ⟨rfl, u2, h1, h2⟩; have HU2 := Aside0.mk h1; have HO2 := Aside0.mk (HO.out.trans h2); clear h1 h2)
          go_roundw
          case rel =>
            obtain ⟨z1, z2⟩ := HJ.out
            refine ⟨j + 1, _, u2, rfl, by rw [t6]; omega, by omega, ⟨?_⟩, HO2⟩
            rw [HTK.out, bits8_append, bits8_one, ← List.append_assoc, HMM.out]
            exact HU2.out
          case measure =>
            have := HJ.out
            simp only [intOf, t6]
            omega
        · have dlj : decide (j2 < (r.l.length : Int)) = false := decide_eq_false hlj
          have hjl : j = r.l.length := by omega
          rw [hjl, List.take_length] at HU
          clear hjl hlj hj2 hjr hjj
          go_wp2
          go_roundw
          case rel =>
            obtain ⟨z1, z2, z3, z4⟩ := HI.out
            refine ⟨i + 1, _, ut, rfl, by rw [t5]; omega, by omega, ⟨?_⟩, HO⟩
            rw [z3, bits8_append, ← List.append_assoc, HT.out]
            exact HU.out
          case measure =>
            have := HI.out
            have := HL.out
            simp [intOf, t5]
            omega
    · have dlt : decide (ii < (n : Int)) = false := decide_eq_false hlt
      have hil : i = rs.length := by have := HL.out; omega
      rw [hil, List.take_length] at HU
      clear hil hii hir hlt
      go_wp2
      go_ret
      exact ⟨rfl, ut, HU.out, HO.out⟩
/-- The bits from the first to the j-th, each into its byte. -/
def orAt (o : List Int) (j : Nat) (z : Int) : List Int := o.set (j / 8) (Go.bits .or .u8 (rd o ((j / 8 : Nat) : Int)) (z * 2 ^ (j % 8) % 256))
def outN (L : List Int) : Nat → List Int
  | 0 => List.replicate ((L.length + 7) / 8) 0
  | j + 1 => orAt (outN L j) j (rd L (j : Int))
theorem outN_len (L : List Int) : ∀ j, (outN L j).length = (L.length + 7) / 8
  | 0 => by rw [outN, List.length_replicate]
  | j + 1 => by rw [outN, orAt, List.length_set, outN_len L j]
set_option maxHeartbeats 4000000 in
set_option maxRecDepth 100000 in
theorem refBytes (x : Nat) (L : List Int) (u : Value) (w : World) (b0 : Nat) (hbw : b0 ≤ w.heap.size) (h : Tst b0 w x L u) (hL : L.length ≤ 800000000) :
    Calls Try.prog 26 #[.pointer (some ⟨x, 0, none⟩)] w fun e w' => ∃ v, e = .returned v ∧ Kd.R (Kd.int .u8) 5 w' w.heap.size (fun _ => True) v (outN L L.length) ∧ Below w.heap.size w w' := by
  have HX := Aside0.mk h
  have HL := Aside0.mk hL
  obtain ⟨A1, c1, rfl⟩ := Kd.R_slice h.row
  have c0 : w.cell? ⟨x, 0, none⟩ = some (.slice A1 L.length c1) := blk_cell h.blk 0
  have q1 := blk_lt h.blk
  obtain ⟨m, hm⟩ : ∃ m, (L.length + 7) / 8 = m := ⟨_, rfl⟩
  have t0 : wrap64 ((L.length : Int) + 7) = ((L.length + 7 : Nat) : Int) := by unfold wrap64; omega
  obtain ⟨mm, hmm⟩ : ∃ j : Int, wrap64 (Int.tdiv ((L.length + 7 : Nat) : Int) 8) = j := ⟨_, rfl⟩
  have em : mm = (m : Int) := by
    rw [← hmm, show Int.tdiv ((L.length + 7 : Nat) : Int) 8 = (((L.length + 7) / 8 : Nat) : Int) from rfl, hm]
    unfold wrap64
    omega
  have hmm2 : wrap64 (Int.tdiv (wrap64 ((L.length : Int) + 7)) 8) = mm := by rw [t0]; exact hmm
  have HM := Aside0.mk (show mm = (m : Int) ∧ (L.length + 7) / 8 = m from ⟨em, hm⟩)
  have hmk : ∀ W : World, (Instr.makeSlice 29 (.int .i64 mm) (.int .i64 mm)).run Try.prog W = .ok (.slice (some ⟨W.heap.size, 0, none⟩) m m) (W.alloc (.cells (madeCells #[.int .u8 0] m) 5)) := by
    have h1 := print_make_int (P := Try.prog) 29 5 (.int .u8 0) 1 Try.underlying29 info5B rfl (by decide) mm (by omega) (by omega)
    rw [show mm.toNat = m by omega] at h1
    exact h1
  obtain ⟨o, ho⟩ : ∃ o, o = w.heap.size := ⟨_, rfl⟩
  have H0 := Aside0.mk (show Kd.R (Kd.int .u8) 5 (w.alloc (.cells (madeCells #[.int .u8 0] m) 5)) w.heap.size (fun _ => True) (.slice (some ⟨o, 0, none⟩) m m) (outN L 0) ∧ Below w.heap.size w (w.alloc (.cells (madeCells #[.int .u8 0] m) 5)) from by
    refine ⟨?_, below_alloc (Below.refl _ _) _⟩
    have h1 := own_made_of' (enc := Value.int .u8) (d := (0 : Int)) w w.heap.size 5 m (Nat.le_refl _) (by omega)
    rw [ho, outN, hm]
    exact Kd.R_of_own (h1 := fun _ => rfl) (by simpa using h1) (fun _ _ => trivial))
  clear h hL em hm t0 hmm
  go_enter Try.func26, Try.ntmps26
  go_wp2
  rw [← ho]
  clear ho hmm2 hmk c0
  generalize w.alloc (.cells (madeCells #[.int .u8 0] m) 5) = w1 at H0 ⊢
  go_loopw [4] (fun v4 wr => ∃ (i : Nat) (ii : Int), v4 = .int .i64 ii ∧ ii = (i : Int) ∧ i ≤ L.length ∧ Aside0 (Kd.R (Kd.int .u8) 5 wr w.heap.size (fun _ => True) (.slice (some ⟨o, 0, none⟩) m m) (outN L i)) ∧ Aside0 (Below w.heap.size w wr)) (fun v4 _ => L.length - (intOf v4).toNat)
  case atStart =>
    exact ⟨0, 0, rfl, rfl, Nat.zero_le _, ⟨H0.out.1⟩, ⟨H0.out.2⟩⟩
  case round =>
    clear H0
    obtain ⟨i, ii, rfl, hii, hir, HO, HB⟩ := hrel
    have HXr := Aside0.mk (HX.out.below HB.out)
    have c0 : wr.cell? ⟨x, 0, none⟩ = some (.slice A1 L.length c1) := blk_cell HXr.out.blk 0
    have q0 := blk_lt HXr.out.blk
    by_cases hlt : ii < (L.length : Int)
    · have dlt : decide (ii < (L.length : Int)) = true := decide_eq_true hlt
      have p0 : 0 ≤ ii := by omega
      have d0 : decide (0 ≤ ii) = true := decide_eq_true p0
      have hl8 := HL.out
      have hmo := HM.out.2
      have holen := outN_len L i
      obtain ⟨kk, hkk⟩ : ∃ j : Int, wrap64 (Int.tdiv ii 8) = j := ⟨_, rfl⟩
      have ek : kk = ((i / 8 : Nat) : Int) := by
        rw [← hkk, hii, show Int.tdiv (i : Int) 8 = ((i / 8 : Nat) : Int) from rfl]
        unfold wrap64
        omega
      have hkkw : IntKind.i64.wrap (Int.tdiv ii 8) = kk := (i64_w _).trans hkk
      obtain ⟨jj, hjj⟩ : ∃ j : Int, Int.tmod ii 8 = j := ⟨_, rfl⟩
      have ej : jj = ((i % 8 : Nat) : Int) := by
        rw [← hjj, hii]
        rfl
      have k0 : 0 ≤ kk := by clear hkk hkkw hjj; omega
      have k1 : kk < (m : Int) := by clear hkk hkkw hjj; omega
      have j0 : 0 ≤ jj := by clear hkk hkkw hjj; omega
      have j8 : jj ≤ 8 := by clear hkk hkkw hjj; omega
      have jm2 : IntKind.u64.wrap jj = jj := by show jj % 18446744073709551616 = jj; clear hkk hkkw hjj; omega
      have dK0 : decide (0 ≤ kk) = true := decide_eq_true k0
      have dK1 : decide (kk < (m : Int)) = true := decide_eq_true k1
      have dJ0 : decide (0 ≤ jj) = true := decide_eq_true j0
      obtain ⟨outl, ho⟩ : ∃ y, outN L i = y := ⟨_, rfl⟩
      rw [ho] at HO holen
      have hmn : outl.length = m := by clear hkk hkkw hjj; omega
      have hRC := Kd.R_cell (e := 5) (d := (0 : Int)) (enc := Value.int .u8) (h1 := fun _ => rfl) (xs := outl) (by rw [hmn]; exact HO.out) kk k0 (by rw [hmn]; exact k1)
      obtain ⟨y, hy⟩ : ∃ y, rd outl kk = y := ⟨_, rfl⟩
      have cy : wr.cell? ⟨o, kk.toNat, none⟩ = some (.int .u8 y) := by rw [← hy]; exact hRC.1
      have fy := hRC.2
      have qo : o < wr.heap.size := Kd.R_lt HO.out o rfl
      obtain ⟨ad, ead, hx⟩ := Kd.at_int (Kd.R_reads' HXr.out.row).2.2 ii p0 hlt
      obtain ⟨z, hz⟩ : ∃ z, rd L ii = z := ⟨_, rfl⟩
      rw [hz] at hx
      obtain ⟨s1, hs1⟩ : ∃ j : Int, IntKind.u8.wrap (z * 2 ^ min jj.toNat 8) = j := ⟨_, rfl⟩
      have hsz : jj ≤ 8 → IntKind.u8.wrap (z * 2 ^ jj.toNat) = s1 := shl_small (k := .u8) hs1
      have hs2 : z * 2 ^ min jj.toNat 8 % 256 = s1 := hs1
      have hs3 : z * 2 ^ jj.toNat % 256 = s1 := hsz j8
      have HF := Aside0.mk (show ii = (i : Int) ∧ i < L.length ∧ outN L i = outl ∧ outl.length = m ∧ orAt outl i (rd L (i : Int)) = outl.set kk.toNat (Go.bits .or .u8 y s1) from by
        refine ⟨hii, by omega, ho, hmn, ?_⟩
        unfold orAt
        rw [← ek, hy, ← hs3, ← hii, hz, ek, ej, Int.toNat_natCast, Int.toNat_natCast])
      have t5 : wrap64 (ii + 1) = ii + 1 := by clear hkk hkkw hjj jm2 hs1 hsz hs2 hs3; unfold wrap64; omega
      subst ead
      have qlt := eq_true hlt
      clear hRC hl8 hmo holen ek ej ho hmn hz hy hlt hii hir
      replace k0 := eq_true k0
      replace k1 := eq_true k1
      replace j0 := eq_true j0
      replace p0 := eq_true p0
      go_wp2
      go_region
      go_wp2
      go_roundw
      case rel =>
        obtain ⟨z1, z2, z3, z4, z5⟩ := HF.out
        refine ⟨i + 1, _, rfl, by rw [t5]; omega, by omega, ⟨?_⟩, ⟨?_⟩⟩
        · rw [outN, z3, z5]
          exact Kd.R_drew (Kd.R_putn (enc := Value.int .u8) (h1 := fun _ => rfl) HO.out kk _)
        · exact (HB.out.setCell (p := ⟨o, kk.toNat, none⟩) ((Kd.R_bound HO.out).1 o rfl).2.1 _).drew
      case measure =>
        have := HF.out
        simp only [intOf, t5]
        omega
    · have dlt : decide (ii < (L.length : Int)) = false := decide_eq_false hlt
      obtain rfl : i = L.length := by omega
      clear hlt hii hir
      go_wp2
      go_ret
      exact ⟨_, rfl, HO.out, HB.out⟩
end Go.Proofs.Ytblneonbilbaiaa.PA
