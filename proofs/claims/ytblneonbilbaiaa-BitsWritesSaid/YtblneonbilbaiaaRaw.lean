/- A Writer's Raw: the walk. Few rows, sizes below 900000000. -/
import Derived.Test.YtblneonbilbaiaaWrite
namespace Go.Proofs.Ytblneonbilbaiaa.PA
open Go.RowKit Go.Proofs.YtblneonbilbaiaaW.PrintWords Go.Proofs.YtblneonbilbaiaaW.PrintLast Go.Proofs.YtblneonbilbaiaaW.PrintMore
set_option linter.unusedVariables false
set_option linter.unusedSimpArgs false
/-- A row as it lies: where, its room, its bytes. -/
structure Lie where
  A : Option Addr
  c : Nat
  l : List Int
def Lie.v (r : Lie) : Value := .slice r.A r.l.length r.c
/-- The row reads so, whatever the Writer does meanwhile. -/
def Lie.reads (w : World) (g : Nat) (u : Value) (r : Lie) : Prop := r.l.length ≤ r.c ∧ ∀ W, Kept w W (Foot g u) → Kd.C (Kd.int .u8) W r.A r.l.length r.l
theorem Wst.grow {b0 : Nat} {w W : World} {g : Nat} {b b2 : List Int} {p i : Int} {u v : Value} (h : Wst b0 w g b p i u) (hr : Kd.R (Kd.int .u8) 5 W b0 (fun k => k ≠ g) v b2) (hg : w.grownBy W u.ownBlock) : Wst b0 (W.setCell ⟨g, 0, none⟩ v) g b2 p i v := by
  have hb : W.heap[g]? = some (.cells #[u, .int .u8 p, .int .i64 i] 64 (0, 0)) := (hg.block g (blk_lt h.blk) (fun e => h.row.1 g e.symm rfl)).trans h.blk
  exact ⟨blk_put (cs := #[u, .int .u8 p, .int .i64 i]) (cs' := #[v, .int .u8 p, .int .i64 i]) hb 0 v rfl, Kd.R_far (p := ⟨g, 0, none⟩) hr (fun _ hk => hk) v, h.base⟩
theorem Wto.grow {b0 : Nat} {w W : World} {g : Nat} {u v : Value} (hg : w.grownBy W u.ownBlock) (hat : v.ownBlock = u.ownBlock ∨ ∃ k, v.ownBlock = some k ∧ w.heap.size ≤ k) (hb : Below b0 w W) (h0 : b0 ≤ g) : Wto b0 w g u (W.setCell ⟨g, 0, none⟩ v) v :=
  ⟨hat, (Kept.of_grown hg (Kept.refl _ _) (fun k hk => .inl (.inr hk))).setCell (p := ⟨g, 0, none⟩) (.inl (.inl rfl)) v, hb.setCell (p := ⟨g, 0, none⟩) h0 v⟩
def flat (rs : List Lie) : List Int := (rs.map (fun r => r.l)).flatten
theorem flat_take (rs : List Lie) (i : Nat) (hi : i < rs.length) : flat (rs.take (i + 1)) = flat (rs.take i) ++ rs[i].l := by
  unfold flat
  rw [List.take_succ_eq_append_getElem hi, List.map_append, List.flatten_append]
  simp
theorem flat_le (rs : List Lie) (i : Nat) : (flat (rs.take i)).length ≤ (flat rs).length := by
  have h : flat rs = flat (rs.take i) ++ flat (rs.drop i) := by
    unfold flat
    rw [← List.flatten_append, ← List.map_append, List.take_append_drop]
  rw [h, List.length_append]
  omega
set_option maxHeartbeats 4000000 in
set_option maxRecDepth 100000 in
theorem bits_Writer_Raw.refuses (g : Nat) (s : BW) (u : Value) (A : Option Addr) (n c : Nat) (w : World) (b0 : Nat) (h : Wst b0 w g s.b s.p s.i u) (hi : 0 < s.i) :
    Calls Try.prog 22 #[.pointer (some ⟨g, 0, none⟩), .slice A n c] w fun e w' => e = .returned (.int .i64 1) ∧ Drawn0 w w' := by
  have c2 : w.cell? ⟨g, 2, none⟩ = some (.int .i64 s.i) := blk_cell h.blk 2
  have q0 := blk_lt h.blk
  have d1 : decide (0 < s.i) = true := decide_eq_true hi
  clear h hi
  go_enter Try.func22, Try.ntmps22
  go_wp2
  go_ret
  exact ⟨rfl, Drawn0.refl _⟩
set_option maxHeartbeats 4000000 in
set_option maxRecDepth 100000 in
theorem bits_Writer_Raw.calls (g : Nat) (s : BW) (u : Value) (k n : Nat) (rs : List Lie) (w : World) (b0 : Nat) (hbw : b0 ≤ w.heap.size) (h : Wst b0 w g s.b s.p s.i u) (hi : s.i = 0) (hk : k ≠ g ∧ u.ownBlock ≠ some k) (hn : rs.length = n) (hb : w.heap[k]? = some (.cells (rs.map Lie.v).toArray 29 (0, 0))) (hr : ∀ r ∈ rs, r.reads w g u) (hl : s.b.length + (flat rs).length ≤ 900000000) (hn2 : n ≤ 1000) :
    Calls Try.prog 22 #[.pointer (some ⟨g, 0, none⟩), .slice (some ⟨k, 0, none⟩) n n] w fun e w' => e = .returned (.int .i64 0) ∧ ∃ u', Wst b0 w' g (s.b ++ flat rs) s.p s.i u' ∧ Wto b0 w g u w' u' := by
  have HW := Aside0.mk h
  have HA := Aside0.mk (And.intro hk (And.intro hb hr))
  have HL := Aside0.mk (And.intro hl (And.intro hn hn2))
  have c2 : w.cell? ⟨g, 2, none⟩ = some (.int .i64 s.i) := blk_cell h.blk 2
  have q0 := blk_lt h.blk
  have d1 : decide (0 < s.i) = false := decide_eq_false (by omega)
  have H0 := Aside0.mk (show ∃ u', Wst b0 w g s.b s.p s.i u' ∧ Wto b0 w g u w u' from ⟨u, h, Wto.refl⟩)
  clear h hi hk hb hr hl hn hn2
  go_enter Try.func22, Try.ntmps22
  go_wp2
  go_loopw [18] (fun v18 wr => ∃ (i : Nat) (ii : Int) (ut : Value), v18 = .int .i64 ii ∧ ii = (i : Int) ∧ i ≤ rs.length ∧ Aside0 (Wst b0 wr g (s.b ++ flat (rs.take i)) s.p s.i ut) ∧ Aside0 (Wto b0 w g u wr ut)) (fun v18 _ => n - (intOf v18).toNat)
  case atStart =>
    obtain ⟨u', h1, h2⟩ := H0.out
    exact ⟨0, 0, u', rfl, rfl, Nat.zero_le _, ⟨by simpa [flat] using h1⟩, ⟨h2⟩⟩
  case round =>
    clear H0
    obtain ⟨i, ii, ut, rfl, hii, hir, HU, HO⟩ := hrel
    by_cases hlt : ii < (n : Int)
    · have dlt : decide (ii < (n : Int)) = true := decide_eq_true hlt
      have hil : i < rs.length := by have := HL.out; omega
      have p0 : 0 ≤ ii := by omega
      have d0 : decide (0 ≤ ii) = true := decide_eq_true p0
      obtain ⟨r, hr⟩ : ∃ r, rs[i] = r := ⟨_, rfl⟩
      have hmem : r ∈ rs := hr ▸ List.getElem_mem hil
      have HR := Aside0.mk (HA.out.2.2 r hmem)
      have hbk := HA.out.2.1
      have hwk : wr.heap[k]? = some (.cells (rs.map Lie.v).toArray 29 (0, 0)) := blk_kept hbk HO.out.kept (fun hf => hf.elim HA.out.1.1 HA.out.1.2)
      have hx : wr.cell? ⟨k, ii.toNat, none⟩ = some (.slice r.A r.l.length r.c) := by
        rw [show ii.toNat = i by omega]
        have := blk_cell hwk i
        rw [this]
        simp [hil, hr, Lie.v]
      have hu := HU.out
      have c0 : wr.cell? ⟨g, 0, none⟩ = some ut := blk_cell hu.blk 0
      have f0 := blk_frozen hu.blk 0
      have q1 := blk_lt hu.blk
      have ef : flat (rs.take (i + 1)) = flat (rs.take i) ++ r.l := by rw [flat_take rs i hil, hr]
      have hle := flat_le rs (i + 1)
      rw [ef, List.length_append] at hle
      have HI := Aside0.mk (show ii = (i : Int) ∧ i < rs.length ∧ flat (rs.take (i + 1)) = flat (rs.take i) ++ r.l ∧ s.b.length + (flat (rs.take i)).length + r.l.length ≤ 900000000 from ⟨hii, hil, ef, by have := HL.out.1; omega⟩)
      have t5 : wrap64 (ii + 1) = ii + 1 := by unfold wrap64; have := HL.out; omega
      have q0 := eq_true hlt
      clear hu hlt hil hr hmem hbk hwk ef hle hii hir
      replace p0 := eq_true p0
      go_wp2_with ((with_reducible refine gate_builtin (b := .append) (xs := #[.tmp 26, .tmp 27]) rfl ?_); at_builtin; refine Kd.R_append_rows (Kd.int .u8) (w0 := wr) b0 rfl (.tmp 26) (.tmp 27) 29 5 (.int .u8 0) 1 rfl Try.underlying29 info5B rfl (by decide) (by omega) ut (s.b ++ flat (rs.take i)) r.l _ _ _ (fun k => k ≠ g) (fun _ => False) rfl rfl ?aO ?aR (fun _ _ h => h) (fun _ h => h.elim) ?aF ?aB ?aS ?aL ?_; (case aR => exact HR.out.2 _ HO.out.kept); (case aB => exact Below.refl _ _); (case aF => exact (fun k hk he => by have := blk_lt HU.out.blk; omega)); (case aO => exact HU.out.row); (case aS => exact Nat.le_trans hbw HO.out.kept.1); (case aL => have := HI.out; simp; omega); intro v2 w2 ho hb hg hat; obtain ⟨A2, c2_, e2⟩ := Kd.R_slice ho; subst e2; have HB2 := Aside0.mk (hb); have HO2 := Aside0.mk (ho); have HG2 := Aside0.mk hg; have HT2 := Aside0.mk hat; have f0 := blk_frozen ((hg.block g (blk_lt HU.out.blk) (fun e => HU.out.row.1 g e.symm rfl)).trans HU.out.blk) 0; have c0 : w2.cell? ⟨g, 0, none⟩ = some ut := blk_cell ((hg.block g (blk_lt HU.out.blk) (fun e => HU.out.row.1 g e.symm rfl)).trans HU.out.blk) 0; clear ho hb hg hat)
      go_roundw
      case rel =>
        obtain ⟨z1, z2, z3, z4⟩ := HI.out
        refine ⟨i + 1, _, .slice A2 (s.b.length + ((flat (rs.take i)).length + r.l.length)) c2_, rfl, by rw [t5]; omega, by omega, ⟨?_⟩, ⟨?_⟩⟩
        · rw [z3, ← List.append_assoc]
          simp only [List.length_append, Nat.add_assoc] at HO2 ⊢
          exact HU.out.grow HO2.out HG2.out
        · simp only [List.length_append, Nat.add_assoc] at HT2 ⊢
          exact HO.out.trans (Wto.grow HG2.out HT2.out (HB2.out) HU.out.base)
      case measure =>
        have := HI.out
        have := HL.out
        simp [intOf, t5]
        omega
    · have dlt : decide (ii < (n : Int)) = false := decide_eq_false hlt
      have hil : i = rs.length := by have := HL.out; omega
      rw [hil, List.take_length] at HU
      clear hil hii hir hlt
      go_wp2
      go_ret
      exact ⟨rfl, ut, HU.out, HO.out⟩
end Go.Proofs.Ytblneonbilbaiaa.PA
