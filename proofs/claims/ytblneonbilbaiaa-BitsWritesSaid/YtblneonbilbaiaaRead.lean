/- A Reader of bits: the walks through its methods. No conditions beside sizes. -/
import Derived.Test.YtblneonbilbaiaaWrite
namespace Go.Proofs.Ytblneonbilbaiaa.PA
open Go.RowKit Go.Proofs.YtblneonbilbaiaaW.PrintWords Go.Proofs.YtblneonbilbaiaaW.PrintLast Go.Proofs.YtblneonbilbaiaaW.PrintMore
set_option linter.unusedVariables false
set_option linter.unusedSimpArgs false
/-- A Reader at block g: its bytes and how many bits were read. -/
structure Rst (b0 : Nat) (w : World) (g : Nat) (b : List Int) (at_ : Int) (u : Value) : Prop where
  blk : w.heap[g]? = some (.cells #[u, .int .i64 at_] 69 (0, 0))
  row : Kd.R (Kd.int .u8) 5 w b0 (fun k => k ≠ g) u b
  base : b0 ≤ g
theorem Rst.below {b0 : Nat} {w w1 : World} {g : Nat} {b : List Int} {p : Int} {u : Value} (h : Rst b0 w g b p u) (hb : Below w.heap.size w w1) : Rst b0 w1 g b p u :=
  ⟨(hb.block g (blk_lt h.blk)).trans h.blk, Kd.R_below h.row hb, h.base⟩
/-- From w to w' the place at g alone has moved. -/
structure Rto (b0 : Nat) (w : World) (g : Nat) (w' : World) : Prop where
  kept : Kept w w' (fun k => k = g)
  below : Below b0 w w'
theorem Rto.refl {b0 : Nat} {w : World} {g : Nat} : Rto b0 w g w := ⟨Kept.refl _ _, Below.refl _ _⟩
theorem Rto.trans {b0 : Nat} {w w1 w2 : World} {g : Nat} (h : Rto b0 w g w1) (k : Rto b0 w1 g w2) : Rto b0 w g w2 :=
  ⟨h.kept.then_ k.kept (fun j hj => .inl hj), h.below.trans k.below⟩
theorem Rto.drawn {b0 : Nat} {w w1 : World} {g : Nat} (hb : Below b0 w w1) (hk : Below w.heap.size w w1) : Rto b0 w g w1 := ⟨Kept.of_below hk _, hb⟩
theorem Rst.put {b0 : Nat} {w : World} {g : Nat} {b : List Int} {p : Int} {u : Value} (h : Rst b0 w g b p u) (q : Int) : Rst b0 (w.setCell ⟨g, 1, none⟩ (.int .i64 q)) g b q u :=
  ⟨blk_put (cs := #[u, .int .i64 p]) (cs' := #[u, .int .i64 q]) h.blk 1 (.int .i64 q) rfl, Kd.R_far (p := ⟨g, 1, none⟩) h.row (fun _ hk => hk) _, h.base⟩
theorem Rto.put {b0 : Nat} {w w1 : World} {g : Nat} (h : Rto b0 w g w1) (hg : b0 ≤ g) (v : Value) : Rto b0 w g (w1.setCell ⟨g, 1, none⟩ v) :=
  ⟨h.kept.setCell (p := ⟨g, 1, none⟩) (.inl rfl) v, h.below.setCell (p := ⟨g, 1, none⟩) hg v⟩
theorem Rto.drewN {b0 : Nat} {w w1 : World} {g : Nat} (h : Rto b0 w g w1) (hb : b0 ≤ w1.heap.size) (n : Nat) : Rto b0 w g (w1.drewN n) :=
  h.trans (Rto.drawn ((Drawn0.mk ⟨n, rfl⟩ : Drawn0 w1 (w1.drewN n)).below.mono hb) (Drawn0.mk ⟨n, rfl⟩ : Drawn0 w1 (w1.drewN n)).below)
theorem Rst.drewN {b0 : Nat} {w : World} {g : Nat} {b : List Int} {p : Int} {u : Value} (h : Rst b0 w g b p u) (n : Nat) : Rst b0 (w.drewN n) g b p u :=
  h.below (Drawn0.mk ⟨n, rfl⟩ : Drawn0 w (w.drewN n)).below
set_option maxHeartbeats 4000000 in
set_option maxRecDepth 100000 in
theorem bits_Of.calls (A0 : Option Addr) (c0 : Nat) (l0 : List Int) (w : World) (hr0 : Kd.C (Kd.int .u8) w A0 l0.length l0) (hc0 : l0.length ≤ c0) (hl : l0.length < 140737488355328) :
    Calls Try.prog 27 #[.slice A0 l0.length c0] w fun e w' => ∃ g u, e = .returned (.pointer (some ⟨g, 0, none⟩)) ∧ Rst w.heap.size w' g l0 0 u ∧ Below w.heap.size w w' ∧ g < w'.heap.size := by
  have HR := Aside0.mk hr0
  have HL := Aside0.mk hl
  have HC := Aside0.mk hc0
  clear hr0 hl hc0
  go_enter Try.func27, Try.ntmps27
  go_wp2_with ((with_reducible refine gate_callee (f := 38) rfl ?_); refine goesL_ (some 4) rfl rfl Try.func38 (by kernel_rfl) rfl #[.slice A0 l0.length c0] rfl (by (try simp only [List.map_toArray, List.map_cons, List.map_nil]); first | done | rfl) ?_; refine (bytes_Clone.calls A0 c0 l0 _ HR.out HC.out HL.out).mono ?_; rintro e w1 ⟨v1, rfl, h1, h2⟩; obtain ⟨A1, c1, e1⟩ := Kd.R_slice h1; subst e1; refine ⟨_, rfl, ?_⟩; have HO1 := Aside0.mk h1; have HB1 := Aside0.mk h2; clear h1 h2)
  go_ret
  have q := HB1.out.size
  refine ⟨w1.heap.size, _, rfl, ⟨blk_new w1 _, ⟨fun j hj => Nat.ne_of_lt (Kd.R_lt HO1.out j hj), (Kd.R_below HO1.out (below_alloc (Below.refl _ _) _)).2.imp_ (fun _ _ hp => hp)⟩, q⟩, below_alloc HB1.out _, by simp⟩
set_option maxHeartbeats 4000000 in
set_option maxRecDepth 100000 in
theorem bits_Reader_Left.calls (g : Nat) (b : List Int) (p : Int) (u : Value) (w : World) (b0 : Nat) (hbw : b0 ≤ w.heap.size) (h : Rst b0 w g b p u) (hp : 0 ≤ p) (hp2 : p ≤ 8000000000) (hl : b.length < 1000000000) :
    Calls Try.prog 29 #[.pointer (some ⟨g, 0, none⟩)] w fun e w' => e = .returned (.int .i64 (b.length * 8 - p)) ∧ Drawn0 w w' := by
  have HW := Aside0.mk h
  obtain ⟨Au, cu, eu⟩ := Kd.R_slice h.row
  subst eu
  have c0 : w.cell? ⟨g, 0, none⟩ = some (.slice Au b.length cu) := blk_cell h.blk 0
  have c1 : w.cell? ⟨g, 1, none⟩ = some (.int .i64 p) := blk_cell h.blk 1
  have e1 : wrap64 ((b.length : Int) * 8) = (b.length : Int) * 8 := by unfold wrap64; omega
  have e2 : wrap64 ((b.length : Int) * 8 - p) = (b.length : Int) * 8 - p := by unfold wrap64; omega
  have q0 := blk_lt h.blk
  clear h hp hp2 hl
  go_enter Try.func29, Try.ntmps29
  go_wp2
  go_region
  all_goals go_wp2
  go_ret
  refine ⟨?_, (Drawn0.refl w).step 1⟩
  show Ending.returned (Value.int .i64 (wrap64 ((b.length : Int) * 8 - p))) = _
  rw [e2]
/-- d bits from place p + i on, over a: the lowest first. -/
def getR (b : List Int) (p : Nat) : Nat → Nat → Int → Int
  | 0, _, a => a
  | d + 1, i, a => getR b p d (i + 1) (Go.bits .or .i64 a (wrap64 (wrap64 (Go.bits .and .u8 (rd b (((p + i) / 8 : Nat) : Int) / 2 ^ ((p + i) % 8)) 1) * 2 ^ i)))
set_option maxHeartbeats 4000000 in
set_option maxRecDepth 100000 in
theorem bits_Reader_Get.calls (g : Nat) (b : List Int) (p : Nat) (n : Int) (u : Value) (w : World) (b0 : Nat) (hbw : b0 ≤ w.heap.size) (h : Rst b0 w g b p u) (hp2 : p ≤ 8000000000) (hl : b.length < 1000000000)
    (hn : 0 ≤ n) (hn2 : n ≤ 24) (hnl : n ≤ b.length * 8 - p) :
    Calls Try.prog 28 #[.pointer (some ⟨g, 0, none⟩), .int .i64 n] w fun e w' => e = .returned (.tuple #[.int .i64 (getR b p n.toNat 0 0), .int .i64 0]) ∧ Rst b0 w' g b ((p + n.toNat : Nat) : Int) u ∧ Rto b0 w g w' := by
  have HW := Aside0.mk h
  have HP := Aside0.mk (And.intro hp2 (And.intro hl hnl))
  have d1 : decide (n < 0) = false := decide_eq_false (by omega)
  have d2 : decide (24 < n) = false := decide_eq_false (by omega)
  have d3 : decide ((b.length : Int) * 8 - p < n) = false := decide_eq_false (by omega)
  have q0 := blk_lt h.blk
  clear h hp2 hl hnl
  go_enter Try.func28, Try.ntmps28
  go_wp2_with ((with_reducible refine gate_callee (f := 29) rfl ?_); refine goesL_ (some 20) rfl rfl Try.func29 (by kernel_rfl) rfl #[.pointer (some ⟨g, 0, none⟩)] rfl (by (try simp only [List.map_toArray, List.map_cons, List.map_nil]); first | done | rfl) ?_; refine (bits_Reader_Left.calls g b p u w b0 hbw HW.out (by omega) (by have := HP.out.1; omega) HP.out.2.1).mono ?_; rintro e w1 ⟨rfl, h2⟩; refine ⟨_, rfl, ?_⟩; have HD1 := Aside0.mk h2; clear h2)
  have H0 := Aside0.mk (And.intro (HW.out.below HD1.out.below) (Rto.drawn (g := g) (HD1.out.below.mono hbw) HD1.out.below))
  clear HD1
  go_loopw [6, 23] (fun v6 v23 wr => ∃ (i d : Nat) (a ii : Int), v6 = .int .i64 a ∧ v23 = .int .i64 ii ∧ ii = (i : Int) ∧ i + d = n.toNat ∧ Aside0 (getR b p d i a = getR b p n.toNat 0 0) ∧ Aside0 (Rst b0 wr g b ((p + i : Nat) : Int) u) ∧ Aside0 (Rto b0 w g wr)) (fun _ v23 _ => n.toNat - (intOf v23).toNat)
  case atStart =>
    exact ⟨0, n.toNat, 0, 0, rfl, rfl, rfl, by omega, ⟨rfl⟩, ⟨H0.out.1⟩, ⟨H0.out.2⟩⟩
  case round =>
    clear H0
    obtain ⟨i, d, a, ii, rfl, rfl, hii, hid, HI, HU, HO⟩ := hrel
    by_cases hlt : ii < n
    · obtain ⟨d, rfl⟩ : ∃ d', d = d' + 1 := ⟨d - 1, by omega⟩
      have dlt : decide (ii < n) = true := decide_eq_true hlt
      have hi24 : i < 24 := by omega
      obtain ⟨P, hP⟩ : ∃ P : Nat, P = p + i := ⟨_, rfl⟩
      rw [← hP] at HU
      have hPb : P < 8 * b.length := by have := HP.out.2.2; omega
      have hbl := HP.out.2.1
      obtain ⟨pp, hpp⟩ : ∃ j : Int, j = (P : Int) := ⟨_, rfl⟩
      obtain ⟨kk, hkk⟩ : ∃ j : Int, wrap64 (Int.tdiv pp 8) = j := ⟨_, rfl⟩
      have ek : kk = ((P / 8 : Nat) : Int) := by
        rw [← hkk, hpp, show Int.tdiv (P : Int) 8 = ((P / 8 : Nat) : Int) from rfl]
        unfold wrap64
        omega
      have hkkw : (IntKind.i64.wrap (Int.tdiv pp 8)) = kk := (i64_w _).trans hkk
      obtain ⟨jj, hjj⟩ : ∃ j : Int, Int.tmod pp 8 = j := ⟨_, rfl⟩
      have ej : jj = ((P % 8 : Nat) : Int) := by
        rw [← hjj, hpp]
        rfl
      have k0 : 0 ≤ kk := by omega
      have k1 : kk < (b.length : Int) := by omega
      have j0 : 0 ≤ jj := by omega
      have j8 : jj ≤ 8 := by omega
      have i0 : 0 ≤ ii := by omega
      have i64 : ii ≤ 64 := by omega
      have dK0 : decide (0 ≤ kk) = true := decide_eq_true k0
      have dK1 : decide (kk < (b.length : Int)) = true := decide_eq_true k1
      have dJ0 : decide (0 ≤ jj) = true := decide_eq_true j0
      have dI0 : decide (0 ≤ ii) = true := decide_eq_true i0
      obtain ⟨y, hy⟩ : ∃ j : Int, rd b kk / 2 ^ min jj.toNat 8 = j := ⟨_, rfl⟩
      have hyz : jj ≤ 8 → rd b kk / 2 ^ jj.toNat = y := shr_small (k := .u8) hy
      obtain ⟨z, hz⟩ : ∃ j : Int, IntKind.i64.wrap (wrap64 (Go.bits .and .u8 y 1) * 2 ^ min ii.toNat 64) = j := ⟨_, rfl⟩
      have hzz : ii ≤ 64 → IntKind.i64.wrap (wrap64 (Go.bits .and .u8 y 1) * 2 ^ ii.toNat) = z := shl_small (k := .i64) hz
      have hzy : wrap64 (wrap64 (Go.bits .and .u8 y 1) * 2 ^ min ii.toNat 64) = z := (i64_w _).symm.trans hz
      have hzx : ii ≤ 64 → wrap64 (wrap64 (Go.bits .and .u8 y 1) * 2 ^ ii.toNat) = z := fun h_ => (i64_w _).symm.trans (hzz h_)
      have HF := Aside0.mk (And.intro hP (And.intro hpp (And.intro ek (And.intro ej (And.intro hii (And.intro (hyz j8) (hzx i64)))))))
      have hu := HU.out
      obtain ⟨Au, cu, eu⟩ := Kd.R_slice hu.row
      subst eu
      have c0 : wr.cell? ⟨g, 0, none⟩ = some (.slice Au b.length cu) := blk_cell hu.blk 0
      have c1 : wr.cell? ⟨g, 1, none⟩ = some (.int .i64 pp) := hpp ▸ blk_cell hu.blk 1
      have f1 := blk_frozen hu.blk 1
      have q1 := blk_lt hu.blk
      obtain ⟨ad, ead, hx⟩ := Kd.at_int (Kd.R_reads' hu.row).2.2 kk k0 k1
      cases ead
      have HK0 := Aside0.mk hid
      have t3 : wrap64 (pp + 1) = pp + 1 := by unfold wrap64; omega
      have t5 : wrap64 (ii + 1) = ii + 1 := by unfold wrap64; omega
      clear hu hlt ek ej hpp hP hPb hbl hid hi24 hii
      replace k0 := eq_true k0
      replace k1 := eq_true k1
      replace j0 := eq_true j0
      replace i0 := eq_true i0
      go_wp2
      go_quiet (fail)
      go_wp2
      go_roundw
      case rel =>
        have e := HI.out
        rw [getR] at e
        obtain ⟨f1, f2, f3, f4, f5, f6, f7⟩ := HF.out
        have e2 : z = wrap64 (wrap64 (Go.bits .and .u8 (rd b (((p + i) / 8 : Nat) : Int) / 2 ^ ((p + i) % 8)) 1) * 2 ^ i) := by
          rw [← f7, ← f6, f3, f4, f5, f1]
          rfl
        rw [← e2] at e
        refine ⟨i + 1, d, _, ii + 1, rfl, congrArg _ t5, by omega, by have := HK0.out; omega, ⟨e⟩, ⟨?_⟩, ⟨?_⟩⟩
        · rw [show ((p + (i + 1) : Nat) : Int) = pp + 1 by omega]
          exact (HU.out.drewN nq).put _
        · exact (HO.out.drewN (Nat.le_trans hbw HO.out.kept.1) nq).put HU.out.base _
      case measure =>
        have := HK0.out
        have := HF.out
        simp [intOf, t5]
        omega
    · have dlt : decide (ii < n) = false := decide_eq_false hlt
      have hd : d = 0 := by omega
      subst hd
      have HE := Aside0.mk (show i = n.toNat by omega)
      clear hid hii hlt
      go_wp2
      go_ret2
      have e := HI.out
      rw [getR] at e
      rw [← e, ← HE.out]
      exact ⟨rfl, HU.out, HO.out⟩
set_option maxHeartbeats 4000000 in
set_option maxRecDepth 100000 in
theorem bits_Reader_Get.refuses (A : Option Addr) (n : Int) (w : World) (h : A = none ∨ n < 0 ∨ 24 < n) :
    Calls Try.prog 28 #[.pointer A, .int .i64 n] w fun e w' => e = .returned (.tuple #[.int .i64 0, .int .i64 1]) ∧ Drawn0 w w' := by
  cases A with
  | none =>
    clear h
    go_enter Try.func28, Try.ntmps28
    go_wp2
    go_ret2
    exact ⟨rfl, Drawn0.refl _⟩
  | some a =>
    by_cases h1 : n < 0
    · have d1 : decide (n < 0) = true := decide_eq_true h1
      clear h h1
      go_enter Try.func28, Try.ntmps28
      go_wp2
      go_ret2
      exact ⟨rfl, Drawn0.refl _⟩
    · have d1 : decide (n < 0) = false := decide_eq_false h1
      have d2 : decide (24 < n) = true := decide_eq_true (by rcases h with h | h | h <;> simp_all)
      clear h h1
      go_enter Try.func28, Try.ntmps28
      go_wp2
      go_ret2
      exact ⟨rfl, Drawn0.refl _⟩
set_option maxHeartbeats 4000000 in
set_option maxRecDepth 100000 in
theorem bits_Reader_Get.short (g : Nat) (b : List Int) (p : Nat) (n : Int) (u : Value) (w : World) (b0 : Nat) (hbw : b0 ≤ w.heap.size) (h : Rst b0 w g b p u) (hp2 : p ≤ 8000000000) (hl : b.length < 1000000000)
    (hn : 0 ≤ n) (hn2 : n ≤ 24) (hnl : b.length * 8 - p < n) :
    Calls Try.prog 28 #[.pointer (some ⟨g, 0, none⟩), .int .i64 n] w fun e w' => e = .returned (.tuple #[.int .i64 0, .int .i64 2]) ∧ Drawn0 w w' := by
  have HW := Aside0.mk h
  have HP := Aside0.mk (And.intro hp2 hl)
  have d1 : decide (n < 0) = false := decide_eq_false (by omega)
  have d2 : decide (24 < n) = false := decide_eq_false (by omega)
  have d3 : decide ((b.length : Int) * 8 - p < n) = true := decide_eq_true (by omega)
  clear h hp2 hl hnl
  go_enter Try.func28, Try.ntmps28
  go_wp2_with ((with_reducible refine gate_callee (f := 29) rfl ?_); refine goesL_ (some 20) rfl rfl Try.func29 (by kernel_rfl) rfl #[.pointer (some ⟨g, 0, none⟩)] rfl (by (try simp only [List.map_toArray, List.map_cons, List.map_nil]); first | done | rfl) ?_; refine (bits_Reader_Left.calls g b p u w b0 hbw HW.out (by omega) (by have := HP.out.1; omega) HP.out.2).mono ?_; rintro e w1 ⟨rfl, h2⟩; refine ⟨_, rfl, ?_⟩; have HD1 := Aside0.mk h2; clear h2)
  go_ret2
  exact ⟨rfl, HD1.out⟩
set_option maxHeartbeats 4000000 in
theorem bits_Reader_Left.nil (w : World) : Calls Try.prog 29 #[.pointer none] w fun e w' => e = .returned (.int .i64 0) ∧ Drawn0 w w' := by
  go_enter Try.func29, Try.ntmps29
  go_wp2
  go_ret
  exact ⟨rfl, Drawn0.refl _⟩
set_option maxHeartbeats 4000000 in
theorem bits_Reader_Align.nil (w : World) : Calls Try.prog 31 #[.pointer none] w fun e w' => e = .returned (.int .i64 0) ∧ Drawn0 w w' := by
  go_enter Try.func31, Try.ntmps31
  go_wp2
  go_ret
  exact ⟨rfl, Drawn0.refl _⟩
set_option maxHeartbeats 4000000 in
set_option maxRecDepth 100000 in
theorem bits_Reader_Align.calls (g : Nat) (b : List Int) (p : Nat) (u : Value) (w : World) (b0 : Nat) (hbw : b0 ≤ w.heap.size) (h : Rst b0 w g b p u) (hp2 : p ≤ 8000000000) :
    Calls Try.prog 31 #[.pointer (some ⟨g, 0, none⟩)] w fun e w' => e = .returned (.int .i64 (((p + 7) / 8 : Nat) : Int)) ∧ Rst b0 w' g b (((p + 7) / 8 * 8 : Nat) : Int) u ∧ Rto b0 w g w' := by
  have HW := Aside0.mk h
  obtain ⟨pp, hpp⟩ : ∃ j : Int, j = (p : Int) := ⟨_, rfl⟩
  have c1 : w.cell? ⟨g, 1, none⟩ = some (.int .i64 pp) := hpp ▸ blk_cell h.blk 1
  have f1 := blk_frozen h.blk 1
  have q0 := blk_lt h.blk
  obtain ⟨kk, hkk⟩ : ∃ j : Int, wrap64 (Int.tdiv (wrap64 (wrap64 (pp + 8) - 1)) 8) = j := ⟨_, rfl⟩
  have e1 : wrap64 (wrap64 (pp + 8) - 1) = ((p + 7 : Nat) : Int) := by unfold wrap64; omega
  have ek : kk = (((p + 7) / 8 : Nat) : Int) := by
    rw [← hkk, e1, show Int.tdiv ((p + 7 : Nat) : Int) 8 = (((p + 7) / 8 : Nat) : Int) from rfl]
    unfold wrap64
    omega
  obtain ⟨mm, hmm⟩ : ∃ j : Int, wrap64 (kk * 8) = j := ⟨_, rfl⟩
  have em : mm = (((p + 7) / 8 * 8 : Nat) : Int) := by
    rw [← hmm, ek]
    unfold wrap64
    omega
  have et : wrap64 (Int.tdiv mm 8) = kk := by
    rw [em, show Int.tdiv (((p + 7) / 8 * 8 : Nat) : Int) 8 = (((p + 7) / 8 * 8 / 8 : Nat) : Int) from rfl, ek]
    unfold wrap64
    omega
  have HF := Aside0.mk (And.intro ek em)
  have HE := Aside0.mk et
  have HM := Aside0.mk (show wrap64 (wrap64 (Int.tdiv (wrap64 (wrap64 (pp + 8) - 1)) 8) * 8) = mm by rw [hkk]; exact hmm)
  clear h e1 ek em hpp hp2 et hkk hmm
  go_enter Try.func31, Try.ntmps31
  go_wp2
  go_ret
  rw [HM.out, HE.out, HF.out.1, HF.out.2]
  exact ⟨rfl, HW.out.put _, Rto.refl.put HW.out.base _⟩
set_option maxHeartbeats 4000000 in
theorem bits_Reader_Raw.nil (n : Int) (w : World) : Calls Try.prog 33 #[.pointer none, .int .i64 n] w fun e w' => e = .returned (.tuple #[.slice none 0 0, .int .i64 1]) ∧ Drawn0 w w' := by
  go_enter Try.func33, Try.ntmps33
  go_wp2
  go_ret2
  exact ⟨rfl, Drawn0.refl _⟩
set_option maxHeartbeats 4000000 in
set_option maxRecDepth 100000 in
theorem bits_Reader_Raw.refuses (g : Nat) (b : List Int) (p : Nat) (n : Int) (u : Value) (w : World) (b0 : Nat) (h : Rst b0 w g b p u) (hr : n < 0 ∨ p % 8 ≠ 0) :
    Calls Try.prog 33 #[.pointer (some ⟨g, 0, none⟩), .int .i64 n] w fun e w' => e = .returned (.tuple #[.slice none 0 0, .int .i64 1]) ∧ Drawn0 w w' := by
  by_cases h1 : n < 0
  · have d1 : decide (n < 0) = true := decide_eq_true h1
    clear h h1 hr
    go_enter Try.func33, Try.ntmps33
    go_wp2
    go_ret2
    exact ⟨rfl, Drawn0.refl _⟩
  · have d1 : decide (n < 0) = false := decide_eq_false h1
    obtain ⟨pp, hpp⟩ : ∃ j : Int, j = (p : Int) := ⟨_, rfl⟩
    have c1 : w.cell? ⟨g, 1, none⟩ = some (.int .i64 pp) := hpp ▸ blk_cell h.blk 1
    have q0 := blk_lt h.blk
    obtain ⟨jj, hjj⟩ : ∃ j : Int, Int.tmod pp 8 = j := ⟨_, rfl⟩
    have ej : jj = ((p % 8 : Nat) : Int) := by
      rw [← hjj, hpp]
      rfl
    have d2 : decide (0 < jj) = true := decide_eq_true (by omega)
    clear h h1 hr ej hpp
    go_enter Try.func33, Try.ntmps33
    go_wp2
    go_ret2
    exact ⟨rfl, Drawn0.refl _⟩
set_option maxHeartbeats 4000000 in
set_option maxRecDepth 100000 in
theorem bits_Reader_Raw.short (g : Nat) (b : List Int) (p : Nat) (n : Int) (u : Value) (w : World) (b0 : Nat) (hbw : b0 ≤ w.heap.size) (h : Rst b0 w g b p u) (hp : p ≤ 8 * b.length) (hl : b.length < 1000000000) (hn : 0 ≤ n) (h8 : p % 8 = 0) (hs : (b.length : Int) - (p / 8 : Nat) < n) :
    Calls Try.prog 33 #[.pointer (some ⟨g, 0, none⟩), .int .i64 n] w fun e w' => e = .returned (.tuple #[.slice none 0 0, .int .i64 2]) ∧ Drawn0 w w' := by
  have HW := Aside0.mk h
  have d1 : decide (n < 0) = false := decide_eq_false (by omega)
  obtain ⟨pp, hpp⟩ : ∃ j : Int, j = (p : Int) := ⟨_, rfl⟩
  have c1 : w.cell? ⟨g, 1, none⟩ = some (.int .i64 pp) := hpp ▸ blk_cell h.blk 1
  have q0 := blk_lt h.blk
  have hjj : Int.tmod pp 8 = 0 := by
    rw [hpp, show Int.tmod (p : Int) 8 = ((p % 8 : Nat) : Int) from rfl, h8]
    rfl
  obtain ⟨ll, hll⟩ : ∃ j : Int, (b.length : Int) * 8 - pp = j := ⟨_, rfl⟩
  obtain ⟨kk, hkk⟩ : ∃ j : Int, wrap64 (Int.tdiv ll 8) = j := ⟨_, rfl⟩
  have ek : kk = (b.length : Int) - (p / 8 : Nat) := by
    rw [← hkk, show ll = ((b.length * 8 - p : Nat) : Int) by omega, show Int.tdiv ((b.length * 8 - p : Nat) : Int) 8 = (((b.length * 8 - p) / 8 : Nat) : Int) from rfl]
    unfold wrap64
    omega
  have hkkw : IntKind.i64.wrap (Int.tdiv ll 8) = kk := (i64_w _).trans hkk
  have d2 : decide (kk < n) = true := decide_eq_true (by omega)
  have HP := Aside0.mk (And.intro hpp (And.intro hp (And.intro hl hll)))
  clear h hp hl hs ek h8 hpp hll
  go_enter Try.func33, Try.ntmps33
  go_wp2_with ((with_reducible refine gate_callee (f := 29) rfl ?_); refine goesL_ (some 23) rfl rfl Try.func29 (by kernel_rfl) rfl #[.pointer (some ⟨g, 0, none⟩)] rfl (by (try simp only [List.map_toArray, List.map_cons, List.map_nil]); first | done | rfl) ?_; refine (bits_Reader_Left.calls g b p u w b0 hbw HW.out (by omega) (by have := HP.out; omega) HP.out.2.2.1).mono ?_; rintro e w1 ⟨rfl, h2⟩; rw [← HP.out.1, HP.out.2.2.2]; refine ⟨_, rfl, ?_⟩; have HD1 := Aside0.mk h2; clear h2)
  go_ret2
  exact ⟨rfl, HD1.out⟩
set_option maxHeartbeats 4000000 in
set_option maxRecDepth 100000 in
theorem bits_Reader_Raw.calls (g : Nat) (b : List Int) (p : Nat) (n : Nat) (u : Value) (w : World) (b0 : Nat) (hbw : b0 ≤ w.heap.size) (h : Rst b0 w g b p u) (hl : b.length < 1000000000) (h8 : p % 8 = 0) (hs : p / 8 + n ≤ b.length) :
    Calls Try.prog 33 #[.pointer (some ⟨g, 0, none⟩), .int .i64 (n : Int)] w fun e w' => ∃ v, e = .returned (.tuple #[v, .int .i64 0]) ∧ Kd.R (Kd.int .u8) 5 w' w.heap.size (fun _ => True) v ((b.take (p / 8 + n)).drop (p / 8)) ∧ Rst b0 w' g b ((p + 8 * n : Nat) : Int) u ∧ Rto b0 w g w' := by
  have HW := Aside0.mk h
  obtain ⟨nn, hnn⟩ : ∃ j : Int, j = (n : Int) := ⟨_, rfl⟩
  rw [← hnn]
  have d1 : decide (nn < 0) = false := decide_eq_false (by omega)
  obtain ⟨pp, hpp⟩ : ∃ j : Int, j = (p : Int) := ⟨_, rfl⟩
  obtain ⟨Au, cu, eu⟩ := Kd.R_slice h.row
  subst eu
  have c0 : ∀ w', Drawn0 w w' → w'.cell? ⟨g, 0, none⟩ = some (.slice Au b.length cu) := fun w' hd => blk_cell (h.below hd.below).blk 0
  have c1 : w.cell? ⟨g, 1, none⟩ = some (.int .i64 pp) := hpp ▸ blk_cell h.blk 1
  have q0 := blk_lt h.blk
  have hjj : Int.tmod pp 8 = 0 := by
    rw [hpp, show Int.tmod (p : Int) 8 = ((p % 8 : Nat) : Int) from rfl, h8]
    rfl
  obtain ⟨ll, hll⟩ : ∃ j : Int, (b.length : Int) * 8 - pp = j := ⟨_, rfl⟩
  obtain ⟨kk, hkk⟩ : ∃ j : Int, wrap64 (Int.tdiv ll 8) = j := ⟨_, rfl⟩
  have ek : kk = (b.length : Int) - (p / 8 : Nat) := by
    rw [← hkk, show ll = ((b.length * 8 - p : Nat) : Int) by omega, show Int.tdiv ((b.length * 8 - p : Nat) : Int) 8 = (((b.length * 8 - p) / 8 : Nat) : Int) from rfl]
    unfold wrap64
    omega
  have hkkw : IntKind.i64.wrap (Int.tdiv ll 8) = kk := (i64_w _).trans hkk
  have d2 : decide (kk < nn) = false := decide_eq_false (by omega)
  obtain ⟨ff, hff⟩ : ∃ j : Int, wrap64 (Int.tdiv pp 8) = j := ⟨_, rfl⟩
  have ef : ff = ((p / 8 : Nat) : Int) := by
    rw [← hff, hpp, show Int.tdiv (p : Int) 8 = ((p / 8 : Nat) : Int) from rfl]
    unfold wrap64
    omega
  have hffw : IntKind.i64.wrap (Int.tdiv pp 8) = ff := (i64_w _).trans hff
  have e1 : wrap64 (nn * 8) = nn * 8 := by unfold wrap64; omega
  have e2 : wrap64 (pp + nn * 8) = pp + nn * 8 := by unfold wrap64; omega
  have e3 : wrap64 (ff + nn) = ff + nn := by unfold wrap64; omega
  obtain ⟨i09, hi09, _, hsz9, _⟩ := info_parts info5
  obtain ⟨A', hcut, hA, hC⟩ := print_mid_of (P := Try.prog) (Value.int .u8) 0 29 5 .i64 .i64 Try.underlying29 hi09 hsz9 Au cu b ff (ff + nn) (by omega) (by omega) (by omega) (Kd.R_reads' h.row).2.1
  have HA := Aside0.mk hA
  have HC := Aside0.mk hC
  have HP := Aside0.mk (And.intro hpp (And.intro hnn (And.intro hl (And.intro hs (And.intro hll ef)))))
  clear h hl hs ek h8 hpp hll hA hC hi09 hsz9 hnn ef
  go_enter Try.func33, Try.ntmps33
  go_wp2_with (first | ((with_reducible refine gate_callee (f := 29) rfl ?_); refine goesL_ (some 23) rfl rfl Try.func29 (by kernel_rfl) rfl #[.pointer (some ⟨g, 0, none⟩)] rfl (by (try simp only [List.map_toArray, List.map_cons, List.map_nil]); first | done | rfl) ?_; refine (bits_Reader_Left.calls g b p _ w b0 hbw HW.out (by omega) (by have := HP.out; omega) HP.out.2.2.1).mono ?_; rintro e w1 ⟨rfl, h2⟩; rw [← HP.out.1, HP.out.2.2.2.2.1]; refine ⟨_, rfl, ?_⟩; have HD1 := Aside0.mk h2; have HU1 := Aside0.mk (HW.out.below h2.below); have HO1 := Aside0.mk (Rto.drawn (g := g) (h2.below.mono hbw) h2.below); have c0 := c0 _ h2; have c1 : w1.cell? ⟨g, 1, none⟩ = some (.int .i64 pp) := HP.out.1 ▸ blk_cell HU1.out.blk 1; have f1 := blk_frozen HU1.out.blk 1; have q1 := blk_lt HU1.out.blk; clear h2) | (go_at_call 38; rw [show (min (ff + nn).toNat b.length - ff.toNat) = ((b.take (ff + nn).toNat).drop ff.toNat).length from by simp]; refine (bytes_Clone.calls A' (cu - ff.toNat) ((b.take (ff + nn).toNat).drop ff.toNat) _ (Kd.C_of_reads (h1 := fun _ => rfl) (HA.out _ (Kd.reads_of_C (Kd.R_reads' (HU1.out.put _).row).2.2))) HC.out (by have := HP.out.2.2.1; simp; omega)).mono ?_; rintro e w2 ⟨v1, rfl, h3, h4⟩; have HR2 := Aside0.mk h3; have HB2 := Aside0.mk h4; clear h3 h4))
  go_ret2
  have hz : w.heap.size ≤ (w1.setCell ⟨g, 1, none⟩ (.int .i64 (pp + nn * 8))).heap.size := (HO1.out.put HW.out.base _).kept.1
  obtain ⟨x1, x2, x3, x4, x5, x6⟩ := HP.out
  refine ⟨_, rfl, ?_, ?_, ?_⟩
  · have := Kd.R_lower HR2.out hz
    rw [x6, show ((p / 8 : Nat) : Int) + nn = ((p / 8 + n : Nat) : Int) by omega] at this
    exact this
  · rw [show ((p + 8 * n : Nat) : Int) = pp + nn * 8 by omega]
    exact (HU1.out.put _).below HB2.out
  · exact (HO1.out.put HW.out.base _).trans (Rto.drawn (HB2.out.mono (Nat.le_trans hbw hz)) HB2.out)
end Go.Proofs.Ytblneonbilbaiaa.PA
