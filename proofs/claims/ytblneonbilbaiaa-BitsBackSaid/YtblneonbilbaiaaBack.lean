/- BitsBack: numbers are laid and read by the same counts of bits. No conditions. -/
import Derived.Test.YtblneonbilbaiaaKnown
import Derived.Test.YtblneonbilbaiaaNothing
import Derived.Test.YtblneonbilbaiaaReadMath
namespace Go.Proofs.Ytblneonbilbaiaa.PA
open Go.Proofs.Ytblneonbilbaiaa.Mat Go.RowKit Go.Proofs.YtblneonbilbaiaaW.PrintWords Go.Proofs.YtblneonbilbaiaaW.PrintLast Go.Proofs.YtblneonbilbaiaaW.PrintMore
set_option linter.unusedVariables false
set_option linter.unusedSimpArgs false
/-- A Writer and two rows of numbers, each with blocks of its own. -/
structure Back (W : World) (b0 g : Nat) (s : BW) (u va vc : Value) (la lc : List Int) : Prop where
  wst : Wst b0 W g s.b s.p s.i u
  ra : Kd.R (Kd.int .i64) 3 W b0 (fun _ => True) va la
  rc : Kd.R (Kd.int .i64) 3 W b0 (fun _ => True) vc lc
  ag : ∀ j, va.ownBlock = some j → j ≠ g
  cg : ∀ j, vc.ownBlock = some j → j ≠ g
  au : ∀ j, va.ownBlock = some j → u.ownBlock ≠ some j
  cu : ∀ j, vc.ownBlock = some j → u.ownBlock ≠ some j
  ac : ∀ j, va.ownBlock = some j → vc.ownBlock ≠ some j
theorem R_true {k : IntKind} {e base : Nat} {w : World} {ok : Nat → Prop} {v : Value} {xs : List Int} (h : Kd.R (Kd.int k) e w base ok v xs) : Kd.R (Kd.int k) e w base (fun _ => True) v xs := Kd.R_mono h (fun _ _ => trivial)
theorem R_apart {k : IntKind} {e base : Nat} {w w1 : World} {ok S : Nat → Prop} {v : Value} {xs : List Int} (h : Kd.R (Kd.int k) e w base ok v xs) (hk : Kept w w1 S) (hu : ∀ j, v.ownBlock = some j → ¬ S j) : Kd.R (Kd.int k) e w1 base ok v xs :=
  Kd.R_mono (Kd.R_kept (R_tight h) hk hu) h.1
theorem Back.put {W W2 : World} {b0 g : Nat} {s t : BW} {u u2 va vc : Value} {la lc : List Int} (h : Back W b0 g s u va vc la lc) (hw : Wst b0 W2 g t.b t.p t.i u2) (ho : Wto b0 W g u W2 u2) : Back W2 b0 g t u2 va vc la lc := by
  have off : ∀ (v : Value) (xs : List Int), Kd.R (Kd.int .i64) 3 W b0 (fun _ => True) v xs → (∀ j, v.ownBlock = some j → j ≠ g) → (∀ j, v.ownBlock = some j → u.ownBlock ≠ some j) → (∀ j, v.ownBlock = some j → u2.ownBlock ≠ some j) := fun v xs hr hg hu j hj he => by
    rcases ho.own with e | ⟨k, e, hk⟩
    · exact hu j hj (e ▸ he)
    · rw [e] at he
      obtain rfl := Option.some.inj he
      exact absurd (Kd.R_lt hr k hj) (by omega)
  refine ⟨hw, R_apart h.ra ho.kept (fun j hj hf => hf.elim (fun e => h.ag j hj e) (fun e => h.au j hj e)), R_apart h.rc ho.kept (fun j hj hf => hf.elim (fun e => h.cg j hj e) (fun e => h.cu j hj e)), h.ag, h.cg, off va la h.ra h.ag h.au, off vc lc h.rc h.cg h.cu, h.ac⟩
theorem Back.appA {W W2 : World} {b0 g : Nat} {s : BW} {u va vc v2 : Value} {la lc l2 : List Int} (h : Back W b0 g s u va vc la lc) (hr : Kd.R (Kd.int .i64) 3 W2 b0 (fun _ => True) v2 l2) (hg : W.grownBy W2 va.ownBlock) (hat : v2.ownBlock = va.ownBlock ∨ ∃ b, v2.ownBlock = some b ∧ W.heap.size ≤ b) : Back W2 b0 g s u v2 vc l2 lc := by
  have hk : Kept W W2 (fun k => va.ownBlock = some k) := Kept.of_grown hg (Kept.refl _ _) (fun k hk => .inl hk)
  have hgl := blk_lt h.wst.blk
  refine ⟨h.wst.apart hk (fun e => h.ag g e rfl) (fun j hj e => h.au j e hj), hr, R_apart h.rc hk (fun j hj e => h.ac j e hj), ?_, h.cg, ?_, h.cu, ?_⟩
  · intro j hj
    rcases hat with e | ⟨b, e, hb⟩
    · exact h.ag j (e ▸ hj)
    · rw [e] at hj
      obtain rfl := Option.some.inj hj
      omega
  · intro j hj hu
    rcases hat with e | ⟨b, e, hb⟩
    · exact h.au j (e ▸ hj) hu
    · rw [e] at hj
      obtain rfl := Option.some.inj hj
      exact absurd (Kd.R_lt h.wst.row b hu) (by omega)
  · intro j hj hu
    rcases hat with e | ⟨b, e, hb⟩
    · exact h.ac j (e ▸ hj) hu
    · rw [e] at hj
      obtain rfl := Option.some.inj hj
      exact absurd (Kd.R_lt h.rc b hu) (by omega)
theorem Back.swap {W : World} {b0 g : Nat} {s : BW} {u va vc : Value} {la lc : List Int} (h : Back W b0 g s u va vc la lc) : Back W b0 g s u vc va lc la :=
  ⟨h.wst, h.rc, h.ra, h.cg, h.ag, h.cu, h.au, fun j hj e => h.ac j e hj⟩
theorem Back.appC {W W2 : World} {b0 g : Nat} {s : BW} {u va vc v2 : Value} {la lc l2 : List Int} (h : Back W b0 g s u va vc la lc) (hr : Kd.R (Kd.int .i64) 3 W2 b0 (fun _ => True) v2 l2) (hg : W.grownBy W2 vc.ownBlock) (hat : v2.ownBlock = vc.ownBlock ∨ ∃ b, v2.ownBlock = some b ∧ W.heap.size ≤ b) : Back W2 b0 g s u va v2 la l2 :=
  (h.swap.appA hr hg hat).swap
theorem Back.new {W : World} {b0 g : Nat} {u : Value} (h : Wst b0 W g [] 0 0 u) : Back W b0 g ⟨[], 0, 0⟩ u (.slice none 0 0) (.slice none 0 0) [] [] :=
  ⟨h, Kd.R_nil _ _ _ _ _, Kd.R_nil _ _ _ _ _, (fun j hj => by cases hj), (fun j hj => by cases hj), (fun j hj => by cases hj), (fun j hj => by cases hj), (fun j hj => by cases hj)⟩
theorem info3B : (Try.prog.info? 3).map (fun i => (i.zero, i.size, i.bytes)) = some (some (.int .i64 0), 1, 8) := by kernel_rfl
/-- Numbers and their counts of bits, packed. -/
def numP : List (Int × Nat) → Int
  | [] => 0
  | p :: ps => p.1 + 2 ^ p.2 * numP ps
def sumK : List (Int × Nat) → Nat
  | [] => 0
  | p :: ps => p.2 + sumK ps
def Fit (ps : List (Int × Nat)) : Prop := ∀ p ∈ ps, p.2 ≤ 24 ∧ 0 ≤ p.1 ∧ p.1 < 2 ^ p.2
theorem sumK_append (a b : List (Int × Nat)) : sumK (a ++ b) = sumK a + sumK b := by
  induction a with
  | nil => simp [sumK]
  | cons c a ih => rw [List.cons_append, sumK, sumK, ih]; omega
theorem numP_append (a b : List (Int × Nat)) : numP (a ++ b) = numP a + 2 ^ sumK a * numP b := by
  induction a with
  | nil => simp [numP, sumK]
  | cons c a ih => rw [List.cons_append, numP, numP, ih, sumK, Int.mul_add, Int.add_assoc, Int.pow_add, Int.mul_assoc]
theorem numP_range : ∀ (a : List (Int × Nat)), Fit a → 0 ≤ numP a ∧ numP a < 2 ^ sumK a
  | [], _ => by simp [numP, sumK]
  | p :: a, h => by
    obtain ⟨h0, h1⟩ := numP_range a (fun q hq => h q (by simp [hq]))
    obtain ⟨_, p0, p1⟩ := h p (by simp)
    have hp : (0 : Int) < 2 ^ p.2 := Int.pow_pos (by decide)
    have e : (2 : Int) ^ p.2 * numP a ≤ 2 ^ p.2 * (2 ^ sumK a - 1) := Int.mul_le_mul_of_nonneg_left (by omega) (Int.le_of_lt hp)
    have e0 : (0 : Int) ≤ 2 ^ p.2 * numP a := Int.mul_nonneg (Int.le_of_lt hp) h0
    rw [Int.mul_sub, Int.mul_one, ← Int.pow_add] at e
    rw [numP, sumK]
    omega
theorem numP_at (ps : List (Int × Nat)) (h : Fit ps) (j : Nat) (hj : j < ps.length) : numP ps / 2 ^ sumK (ps.take j) % 2 ^ ps[j].2 = ps[j].1 := by
  have e : ps = ps.take j ++ (ps[j] :: ps.drop (j + 1)) := by rw [← List.drop_eq_getElem_cons hj, List.take_append_drop]
  have hn := numP_append (ps.take j) (ps[j] :: ps.drop (j + 1))
  rw [← e, numP] at hn
  obtain ⟨r0, r1⟩ := numP_range (ps.take j) (fun q hq => h q (List.mem_of_mem_take hq))
  obtain ⟨_, p0, p1⟩ := h ps[j] (List.getElem_mem hj)
  have hp : (0 : Int) < 2 ^ sumK (ps.take j) := Int.pow_pos (by decide)
  rw [hn, Int.add_mul_ediv_left _ _ (Int.ne_of_gt hp), Int.ediv_eq_zero_of_lt r0 r1, Int.zero_add, Int.add_mul_emod_self_left, Int.emod_eq_of_lt p0 p1]
theorem sumK_take (ps : List (Int × Nat)) (j : Nat) (hj : j < ps.length) : sumK (ps.take (j + 1)) = sumK (ps.take j) + ps[j].2 := by
  rw [List.take_succ_eq_append_getElem hj, sumK_append]
  simp [sumK]
theorem sumK_le (ps : List (Int × Nat)) (j : Nat) : sumK (ps.take j) ≤ sumK ps := by
  have := sumK_append (ps.take j) (ps.drop j)
  rw [List.take_append_drop] at this
  omega
theorem sumK_bound : ∀ (ps : List (Int × Nat)), Fit ps → sumK ps ≤ 24 * ps.length
  | [], _ => by simp [sumK]
  | p :: a, h => by
    have := sumK_bound a (fun q hq => h q (by simp [hq]))
    have := (h p (by simp)).1
    rw [sumK, List.length_cons]
    omega
theorem and_mask (v : Int) (k : Nat) (hk : k ≤ 24) (h0 : -9223372036854775808 ≤ v) (h1 : v ≤ 9223372036854775807) : Go.bits .and .i64 v ((2 ^ k - 1 : Nat) : Int) = v % 2 ^ k := by
  have hp : (2 : Nat) ^ k ≤ 2 ^ 24 := Nat.pow_le_pow_right (by decide) hk
  have hp0 : 0 < (2 : Nat) ^ k := Nat.pow_pos (by decide)
  show IntKind.i64.wrap ((BitVec.ofInt 64 v &&& BitVec.ofInt 64 ((2 ^ k - 1 : Nat) : Int)).toNat : Int) = _
  have e1 : (BitVec.ofInt 64 v &&& BitVec.ofInt 64 ((2 ^ k - 1 : Nat) : Int)).toNat = (v % 18446744073709551616).toNat % 2 ^ k := by
    rw [BitVec.toNat_and, BitVec.ofInt_natCast, BitVec.toNat_ofNat, Nat.mod_eq_of_lt (by omega), Nat.and_two_pow_sub_one_eq_mod, BitVec.toNat_ofInt]
    rfl
  have hlt := Nat.mod_lt (v % 18446744073709551616).toNat hp0
  rw [e1, IntWalk.i64_in _ (by omega), Int.natCast_emod, Int.natCast_pow, Int.toNat_of_nonneg (by omega)]
  exact Int.emod_emod_of_dvd v (by
    refine ⟨2 ^ (64 - k), ?_⟩
    show (18446744073709551616 : Int) = (2 : Int) ^ k * 2 ^ (64 - k)
    rw [← Int.pow_add, show k + (64 - k) = 64 by omega]
    rfl)
theorem mask_k (v : Int) (h0 : -9223372036854775808 ≤ v) (h1 : v ≤ 9223372036854775807) : 0 ≤ Int.tmod (Go.bits .and .i64 v 1023) 25 ∧ Int.tmod (Go.bits .and .i64 v 1023) 25 ≤ 24 := by
  have e : Go.bits .and .i64 v 1023 = v % 2 ^ 10 := and_mask v 10 (by decide) h0 h1
  rw [e]
  have : 0 ≤ v % 2 ^ 10 := Int.emod_nonneg v (by decide)
  obtain ⟨m, hm⟩ := Int.eq_ofNat_of_zero_le this
  rw [hm, show Int.tmod (m : Int) 25 = ((m % 25 : Nat) : Int) from rfl]
  omega
theorem mask_x (v : Int) (k : Nat) (hk : k ≤ 24) (h0 : -9223372036854775808 ≤ v) (h1 : v ≤ 9223372036854775807) : Go.bits .and .i64 v (wrap64 (wrap64 (2 ^ k) - 1)) = v % 2 ^ k := by
  have hp : (2 : Nat) ^ k ≤ 2 ^ 24 := Nat.pow_le_pow_right (by decide) hk
  have hp0 : 0 < (2 : Nat) ^ k := Nat.pow_pos (by decide)
  have e : wrap64 (wrap64 (2 ^ k) - 1) = ((2 ^ k - 1 : Nat) : Int) := by
    have e1 : ((2 : Int) ^ k) = ((2 ^ k : Nat) : Int) := by rw [Int.natCast_pow]; rfl
    rw [e1]
    unfold wrap64
    omega
  rw [e, and_mask v k hk h0 h1]
theorem bits_Writer_Put.at_ (g : Nat) (s t : BW) (v n : Int) (u : Value) (w : World) (b0 : Nat) (hbw : b0 ≤ w.heap.size) (h : Wst b0 w g s.b s.p s.i u) (hs : s.ok 800000000) (hn : 0 ≤ n) (hn2 : n ≤ 24) (hf : bits_fits.f v n 24 = some true) (ht : putW n.toNat 0 s v = t) :
    Calls Try.prog 12 #[.pointer (some ⟨g, 0, none⟩), .int .i64 v, .int .i64 n] w fun e w' => e = .returned (.int .i64 0) ∧ ∃ u', Wst b0 w' g t.b t.p t.i u' ∧ Wto b0 w g u w' u' := by
  subst ht
  exact bits_Writer_Put.calls g s v n u w b0 hbw h hs hn hn2 hf
theorem rd_wf {l : List Int} (h : ∀ x ∈ l, (Lit.int .i64 x).wf = true) (i : Nat) (hi : i < l.length) : -9223372036854775808 ≤ rd l (i : Int) ∧ rd l (i : Int) ≤ 9223372036854775807 := by
  rw [Go.Proofs.Ytblneonbilbaiaa.Same.rd_get l i hi]
  exact Go.Proofs.YtblneonbilbaiaaAid.wf_i64 (h _ (List.getElem_mem hi))
theorem rd_map (f : Int × Nat → Int) (ps : List (Int × Nat)) (j : Nat) (hj : j < ps.length) : rd (ps.map f) (j : Int) = f ps[j] := by
  rw [Go.Proofs.Ytblneonbilbaiaa.Same.rd_get _ j (by rw [List.length_map]; exact hj), List.getElem_map]
theorem back_pure (ps : List (Int × Nat)) (s : BW) (hf : Fit ps) (hw : BW.wf s) (hn : BW.N s = numP ps) (ht : BW.T s = sumK ps) (h3 : ps.length ≤ 300) :
    ((bytesW s).length : Int) * 8 - (sumK ps : Nat) < 8 ∧ ∀ j, (hj : j < ps.length) → getR (bytesW s) (sumK (ps.take j)) ps[j].2 0 0 = ps[j].1 ∧ (ps[j].2 : Int) ≤ ((bytesW s).length : Int) * 8 - (sumK (ps.take j) : Nat) ∧ True ∧ (ps[j].2 : Int) ≤ 24 := by
  obtain ⟨b1, b2, b3⟩ := bytesW_wf hw
  rw [ht] at b3
  rw [hn] at b2
  refine ⟨by omega, fun j hj => ?_⟩
  have h1 := sumK_take ps j hj
  have h2 := sumK_le ps (j + 1)
  have h24 := (hf ps[j] (List.getElem_mem hj)).1
  refine ⟨?_, by omega, trivial, by omega⟩
  rw [get_eq _ b1 _ _ h24 (by omega), b2, numP_at ps hf j hj]
theorem bits_Reader_Get.at_ (g : Nat) (b : List Int) (p : Nat) (n r : Int) (u : Value) (w : World) (b0 : Nat) (hbw : b0 ≤ w.heap.size) (h : Rst b0 w g b p u) (hp2 : p ≤ 8000000000) (hl : b.length < 1000000000)
    (hn : 0 ≤ n) (hn2 : n ≤ 24) (hnl : n ≤ b.length * 8 - p) (hr : getR b p n.toNat 0 0 = r) :
    Calls Try.prog 28 #[.pointer (some ⟨g, 0, none⟩), .int .i64 n] w fun e w' => e = .returned (.tuple #[.int .i64 r, .int .i64 0]) ∧ Rst b0 w' g b ((p + n.toNat : Nat) : Int) u ∧ Rto b0 w g w' := by
  subst hr
  exact bits_Reader_Get.calls g b p n u w b0 hbw h hp2 hl hn hn2 hnl
theorem Back.below {W W2 : World} {b0 g : Nat} {s : BW} {u va vc : Value} {la lc : List Int} (h : Back W b0 g s u va vc la lc) (hb : Below W.heap.size W W2) : Back W2 b0 g s u va vc la lc :=
  ⟨h.wst.below hb, Kd.R_below h.ra hb, Kd.R_below h.rc hb, h.ag, h.cg, h.au, h.cu, h.ac⟩
set_option maxHeartbeats 4000000 in
set_option maxRecDepth 100000 in
theorem back_walk (A0 A1 : Option Addr) (c0 c1 : Nat) (lv ln : List Int) (w : World) (hv : Kd.C (Kd.int .i64) w A0 lv.length lv) (hn : Kd.C (Kd.int .i64) w A1 ln.length ln) (wv : ∀ x ∈ lv, (Lit.int .i64 x).wf = true) (wn : ∀ x ∈ ln, (Lit.int .i64 x).wf = true) (h1 : lv.length ≤ 300) (h2 : ln.length ≤ 300) :
    Calls Try.prog 5 #[.slice A0 lv.length c0, .slice A1 ln.length c1] w fun e w' => e = .returned (.bool true) ∧ Below w.heap.size w w' := by
  have HV := Aside0.mk hv
  have HN := Aside0.mk hn
  have HW := Aside0.mk (And.intro wv wn)
  have H300 := Aside0.mk (And.intro h1 h2)
  have d1 : decide (300 < (lv.length : Int)) = false := decide_eq_false (by omega)
  have d2 : decide (300 < (ln.length : Int)) = false := decide_eq_false (by omega)
  clear hv hn wv wn h1 h2
  go_enter Try.func5, Try.ntmps5
  go_wp2_with (go_at_call 11; refine (bits_New.made w).mono ?_; rintro e w1 ⟨rfl, h1, h2, h3⟩; have HU1 := Aside0.mk h1; have HB1 := Aside0.mk h2; clear h1 h2 h3)
  have H0 := Aside0.mk (Back.new HU1.out)
  go_loopw [6, 7, 8] (fun v6 v7 v8 wr => ∃ (i : Nat) (ii : Int) (ps : List (Int × Nat)) (s : BW) (uR : Value) (la lc : List Int), v8 = .int .i64 ii ∧ ii = (i : Int) ∧ i ≤ lv.length ∧ i ≤ ln.length ∧ Aside0 (ps.length = i ∧ la = ps.map (fun p => p.1) ∧ lc = ps.map (fun p => (p.2 : Int)) ∧ Fit ps ∧ BW.wf s ∧ BW.N s = numP ps ∧ BW.T s = sumK ps) ∧ Aside0 (Back wr w.heap.size w.heap.size s uR v6 v7 la lc) ∧ Aside0 (Below w.heap.size w wr)) (fun _ _ v8 _ => lv.length - (intOf v8).toNat)
  case atStart =>
    exact ⟨0, 0, [], ⟨[], 0, 0⟩, _, [], [], rfl, rfl, by omega, by omega, ⟨rfl, rfl, rfl, fun p hp => by simp at hp, wf0, N0, T0⟩, H0, HB1⟩
  case round =>
    clear H0 HB1 HU1
    obtain ⟨i, ii, ps, s, uR, la, lc, rfl, hii, hi1, hi2, HPS, HK, HB⟩ := hrel
    by_cases hll : ii < (lv.length : Int) ∧ ii < (ln.length : Int)
    · obtain ⟨hl1, hl2⟩ := hll
      have dl1 : decide (ii < (lv.length : Int)) = true := decide_eq_true hl1
      have dl2 : decide (ii < (ln.length : Int)) = true := decide_eq_true hl2
      have p0 : 0 ≤ ii := by omega
      have dl0 : decide (0 ≤ ii) = true := decide_eq_true p0
      obtain ⟨ad0, e0, hx0⟩ := Kd.at_int (Kd.C_below HV.out HB.out) ii p0 hl1
      cases e0
      obtain ⟨ad1, e1, hx1⟩ := Kd.at_int (Kd.C_below HN.out HB.out) ii p0 hl2
      cases e1
      have wv := rd_wf HW.out.1 i (by omega)
      have wn := rd_wf HW.out.2 i (by omega)
      rw [← hii] at wv wn
      obtain ⟨vv, hvv⟩ : ∃ x, rd lv ii = x := ⟨_, rfl⟩
      obtain ⟨nn, hnn⟩ : ∃ x, rd ln ii = x := ⟨_, rfl⟩
      rw [hvv] at hx0 wv
      rw [hnn] at hx1 wn
      have mk := mask_k nn wn.1 wn.2
      obtain ⟨aa, haa⟩ : ∃ x, Go.bits .and .i64 nn 1023 = x := ⟨_, rfl⟩
      rw [haa] at mk
      obtain ⟨k, hk⟩ : ∃ x, Int.tmod aa 25 = x := ⟨_, rfl⟩
      rw [hk] at mk
      have k0 : decide (0 ≤ k) = true := decide_eq_true mk.1
      have k1 : k % 18446744073709551616 = k := by omega
      have k2 : k.toNat < 64 := by omega
      have ex : Go.bits .and .i64 vv (wrap64 (wrap64 (2 ^ k.toNat) - 1)) = vv % 2 ^ k.toNat := mask_x vv k.toNat (by omega) wv.1 wv.2
      obtain ⟨x, hx⟩ : ∃ x, Go.bits .and .i64 vv (wrap64 (wrap64 (2 ^ k.toNat) - 1)) = x := ⟨_, rfl⟩
      have hx2 : x = vv % 2 ^ k.toNat := hx ▸ ex
      have hpk : (0 : Int) < 2 ^ k.toNat := Int.pow_pos (by decide)
      have xr : 0 ≤ x ∧ x < 2 ^ k.toNat := by
        rw [hx2]
        exact ⟨Int.emod_nonneg _ (Int.ne_of_gt hpk), Int.emod_lt_of_pos _ hpk⟩
      have hfit := fits_yes x k.toNat 24 (by omega) (by decide) xr.1 xr.2
      rw [show ((k.toNat : Nat) : Int) = k by omega] at hfit
      have HF := Aside0.mk hfit
      have HKK := Aside0.mk mk
      have HX := Aside0.mk xr
      have t5 : wrap64 (ii + 1) = ii + 1 := by unfold wrap64; have := H300.out; omega
      have hsl := len_le s
      have hT : BW.T s ≤ 24 * i := by
        obtain ⟨q1, q2, q3, q4, q5, q6, q7⟩ := HPS.out
        have := sumK_bound ps q4
        omega
      have HS := Aside0.mk (show s.ok 800000000 ∧ True from ⟨⟨HPS.out.2.2.2.2.1.i0, HPS.out.2.2.2.2.1.i8, by have := H300.out; omega⟩, trivial⟩)
      have HLen := Aside0.mk (show la.length ≤ 300 ∧ lc.length ≤ 300 by
        obtain ⟨q1, q2, q3, q4, q5, q6, q7⟩ := HPS.out
        rw [q2, q3, List.length_map, List.length_map]
        have := H300.out
        omega)
      have HII := Aside0.mk (And.intro hii (And.intro hl1 hl2))
      have q0 := hl1
      have q1 := hl2
      clear ex hx2 xr hfit mk wv wn hl1 hl2 hii hi1 hi2 hsl hT hpk hvv hnn
      replace p0 := eq_true p0
      replace q0 := eq_true q0
      replace q1 := eq_true q1
      go_wp2_with (first | ((with_reducible refine gate_callee (f := 12) rfl ?_); refine goesL_ (some 56) rfl rfl Try.func12 (by kernel_rfl) rfl #[.pointer (some ⟨w.heap.size, 0, none⟩), .int .i64 x, .int .i64 k] rfl (by (try simp only [List.map_toArray, List.map_cons, List.map_nil]); first | done | rfl) ?_; refine (bits_Writer_Put.at_ w.heap.size s (putW k.toNat 0 s x) x k uR _ w.heap.size HB.out.size HK.out.wst HS.out.1 HKK.out.1 HKK.out.2 HF.out rfl).mono ?_; rintro e w2 ⟨rfl, uR2, h1, h2⟩; refine ⟨_, rfl, ?_⟩; have HK2 := Aside0.mk (HK.out.put h1 h2); have HB2 := Aside0.mk (HB.out.trans h2.below); clear h1 h2) | ((with_reducible refine gate_builtin (b := .append) (xs := #[.tmp 58, .tmp 60]) rfl ?_); at_builtin; refine Kd.R_append (Kd.int .i64) (w0 := w) w.heap.size rfl (.tmp 58) (.tmp 60) 44 3 (.int .i64 0) 8 rfl Try.underlying44 info3B rfl (by decide) (by decide) u6 la x [.int .i64 x] (fun _ => True) (fun _ => False) rfl rfl ?aP (fun _ hk => hk.elim) ?aF ?aO ?aB ?aS ?aL ?_; (case aP => exact rfl); (case aB => exact HB2.out); (case aF => exact (fun _ _ => trivial)); (case aO => exact HK2.out.ra); (case aS => exact HB2.out.size); (case aL => have := HLen.out; omega); intro xu6 w3 ho hb hg hat; have HK3 := Aside0.mk (HK2.out.appA ho hg hat); have HB3 := Aside0.mk hb; clear ho hb hg hat) | ((with_reducible refine gate_builtin (b := .append) (xs := #[.tmp 62, .tmp 64]) rfl ?_); at_builtin; refine Kd.R_append (Kd.int .i64) (w0 := w) w.heap.size rfl (.tmp 62) (.tmp 64) 44 3 (.int .i64 0) 8 rfl Try.underlying44 info3B rfl (by decide) (by decide) u7 lc k [.int .i64 k] (fun _ => True) (fun _ => False) rfl rfl ?aP (fun _ hk => hk.elim) ?aF ?aO ?aB ?aS ?aL ?_; (case aP => exact rfl); (case aB => exact HB3.out); (case aF => exact (fun _ _ => trivial)); (case aO => exact HK3.out.rc); (case aS => exact HB3.out.size); (case aL => have := HLen.out; omega); intro xu7 w4 ho hb hg hat; have HK4 := Aside0.mk (HK3.out.appC ho hg hat); have HB4 := Aside0.mk hb; clear ho hb hg hat))
      go_roundw
      case rel =>
        obtain ⟨q1, q2, q3, q4, q5, q6, q7⟩ := HPS.out
        obtain ⟨z1, z2, z3⟩ := HII.out
        obtain ⟨y1, y2, y3⟩ := putW_wf x HX.out.1 (by have := HX.out.2; have := pow_le23 k.toNat (by have := HKK.out; omega); omega) k.toNat 0 s q5
        have hk0 := HKK.out
        refine ⟨i + 1, _, ps ++ [(x, k.toNat)], putW k.toNat 0 s x, uR2, la ++ [x], lc ++ [k], rfl, by rw [t5]; omega, by omega, by omega, ⟨?_, ?_, ?_, ?_, y1, ?_, ?_⟩, HK4, HB4⟩
        · simp [q1]
        · simp [q2]
        · simp [q3]
          omega
        · intro p hp
          simp only [List.mem_append, List.mem_singleton] at hp
          rcases hp with hp | rfl
          · exact q4 p hp
          · exact ⟨by omega, HX.out.1, HX.out.2⟩
        · rw [y2, q6, q7, numP_append, Int.pow_zero, Int.ediv_one, Int.emod_eq_of_lt HX.out.1 HX.out.2, numP, numP, Int.mul_zero, Int.add_zero, Int.mul_comm x]
        · rw [y3, q7, sumK_append, sumK, sumK, Nat.add_zero]
      case measure =>
        have := HII.out
        simp [intOf, t5]
        omega
    · have hx : decide (ii < (lv.length : Int)) = false ∨ (decide (ii < (lv.length : Int)) = true ∧ decide (ii < (ln.length : Int)) = false) := by
        by_cases hl1 : ii < (lv.length : Int)
        · exact .inr ⟨decide_eq_true hl1, decide_eq_false (fun hl2 => hll ⟨hl1, hl2⟩)⟩
        · exact .inl (decide_eq_false hl1)
      obtain ⟨q1, q2, q3, q4, q5, q6, q7⟩ := HPS.out
      obtain ⟨A6, c6, e6⟩ := Kd.R_slice HK.out.ra
      subst e6
      obtain ⟨A7, c7, e7⟩ := Kd.R_slice HK.out.rc
      subst e7
      obtain ⟨r1, r2⟩ := back_pure ps s q4 q5 q6 q7 (by have := H300.out; omega)
      have hsl := len_le s
      have hT : BW.T s ≤ 24 * i := by
        have := sumK_bound ps q4
        omega
      have hbl := (bytesW_wf q5).2.2
      have HS := Aside0.mk (show True ∧ s.b.length < 1000000000 from ⟨trivial, by have := H300.out; omega⟩)
      have HLL := Aside0.mk (show (bytesW s).length < 140737488355328 by have := H300.out; omega)
      have HLB := Aside0.mk (show (bytesW s).length < 1000000000 by have := H300.out; omega)
      have HSK := Aside0.mk (show sumK ps ≤ 8000000000 by have := H300.out; omega)
      have el : la.length = ps.length := by rw [q2, List.length_map]
      have el2 : lc.length = ps.length := by rw [q3, List.length_map]
      have HP := Aside0.mk (And.intro el (And.intro el2 (And.intro r1 (And.intro r2 (show ps.length ≤ 300 by have := H300.out; omega)))))
      have HLA := Aside0.mk (And.intro q2 q3)
      clear q1 q2 q3 q4 q5 q6 q7 r1 r2 hsl hT hbl el el2 hll hii hi1 hi2 HPS
      rcases hx with dl1 | ⟨dl1, dl2⟩
      all_goals
        go_wp2_with (first | ((with_reducible refine gate_callee (f := 14) rfl ?_); refine goesL_ (some 67) rfl rfl Try.func14 (by kernel_rfl) rfl #[.pointer (some ⟨w.heap.size, 0, none⟩)] rfl (by (try simp only [List.map_toArray, List.map_cons, List.map_nil]); first | done | rfl) ?_; refine (bits_Writer_Bytes.calls w.heap.size s _ _ w.heap.size HK.out.wst HS.out.2).mono ?_; rintro e w3 ⟨v3, rfl, h1, h2⟩; refine ⟨_, rfl, ?_⟩; obtain ⟨A3, c3, e3⟩ := Kd.R_slice h1; subst e3; have HO3 := Aside0.mk h1; have HB3 := Aside0.mk (HB.out.trans (h2.mono HB.out.size)); have HS3 := Aside0.mk HB3.out.size; have HK3 := Aside0.mk (Back.below HK.out h2); clear h1 h2) | ((with_reducible refine gate_callee (f := 27) rfl ?_); refine goesL_ (some 68) rfl rfl Try.func27 (by kernel_rfl) rfl #[.slice A3 (bytesW s).length c3] rfl (by (try simp only [List.map_toArray, List.map_cons, List.map_nil]); first | done | rfl) ?_; refine (bits_Of.calls A3 c3 (bytesW s) _ (Kd.R_reads' HO3.out).2.2 (Kd.R_reads' HO3.out).2.1 HLL.out).mono ?_; rintro e w4 ⟨g, uQ, rfl, h1, h2, h3⟩; refine ⟨_, rfl, ?_⟩; have HR4 := Aside0.mk h1; have HB4 := Aside0.mk (HB3.out.trans (h2.mono HB3.out.size)); have HS4 := Aside0.mk h2.size; have HK4 := Aside0.mk (Back.below HK3.out h2); clear h1 h2 h3))
        have HD := Aside0.mk (show (∀ j, (Value.slice A6 la.length c6).ownBlock = some j → j ≠ g) ∧ (∀ j, (Value.slice A7 lc.length c7).ownBlock = some j → j ≠ g) from ⟨fun j hj => Nat.ne_of_lt (Nat.lt_of_lt_of_le (Kd.R_lt HK3.out.ra j hj) HR4.out.base), fun j hj => Nat.ne_of_lt (Nat.lt_of_lt_of_le (Kd.R_lt HK3.out.rc j hj) HR4.out.base)⟩)
        have H4 := Aside0.mk (Rto.refl (b0 := w3.heap.size) (w := w4) (g := g))
        clear HK HK3 HO3 HB HB3
        go_loopw [12] (fun v12 wr => ∃ (j : Nat) (jj : Int), v12 = .int .i64 jj ∧ jj = (j : Int) ∧ j ≤ la.length ∧ Aside0 (Rst w3.heap.size wr g (bytesW s) ((sumK (ps.take j) : Nat) : Int) uQ) ∧ Aside0 (Rto w3.heap.size w4 g wr)) (fun v12 _ => la.length - (intOf v12).toNat)
        case atStart =>
          exact ⟨0, 0, rfl, rfl, Nat.zero_le _, HR4, H4⟩
        case round =>
          clear HR4 H4
          obtain ⟨j, jj, rfl, hjj, hj, HU, HO⟩ := hrel
          have hpos : sumK (ps.take j) ≤ 8000000000 := Nat.le_trans (sumK_le ps j) HSK.out
          by_cases hlt : jj < (la.length : Int)
          · have dlt : decide (jj < (la.length : Int)) = true := decide_eq_true hlt
            have hjl : j < ps.length := by have := HP.out.1; omega
            obtain ⟨g1, g2, g3, g4⟩ := HP.out.2.2.2.1 j hjl
            have p0 : 0 ≤ jj := by omega
            have hlt2 : jj < (lc.length : Int) := by have := HP.out; omega
            have dj0 : decide (0 ≤ jj) = true := decide_eq_true p0
            have dlt2 : decide (jj < (lc.length : Int)) = true := decide_eq_true hlt2
            obtain ⟨ad6, e6, hx6⟩ := Kd.at_int (Kd.R_reads' (R_apart HK4.out.ra HO.out.kept (fun k hk hg => HD.out.1 k hk hg))).2.2 jj p0 hlt
            cases e6
            obtain ⟨ad7, e7, hx7⟩ := Kd.at_int (Kd.R_reads' (R_apart HK4.out.rc HO.out.kept (fun k hk hg => HD.out.2 k hk hg))).2.2 jj p0 hlt2
            cases e7
            have ea : rd la jj = ps[j].1 := by rw [hjj, HLA.out.1, rd_map _ _ _ hjl]
            have ec : rd lc jj = (ps[j].2 : Int) := by rw [hjj, HLA.out.2, rd_map _ _ _ hjl]
            rw [ea] at hx6
            rw [ec] at hx7
            obtain ⟨xx, hxx⟩ : ∃ x, ps[j].1 = x := ⟨_, rfl⟩
            obtain ⟨kk, hkk⟩ : ∃ x : Int, (ps[j].2 : Int) = x := ⟨_, rfl⟩
            rw [hxx] at hx6 g1
            rw [hkk] at hx7 g2 g4
            have HX6 := Aside0.mk (show ∀ W, Rto w3.heap.size w4 g W → W.cell? (ad6.add jj.toNat) = some (.int .i64 xx) from fun W hW => by
              obtain ⟨ad, e, hx⟩ := Kd.at_int (Kd.R_reads' (R_apart HK4.out.ra hW.kept (fun k hk hg => HD.out.1 k hk hg))).2.2 jj p0 hlt
              cases e
              rw [ea, hxx] at hx
              exact hx)
            have HG := Aside0.mk (show getR (bytesW s) (sumK (ps.take j)) kk.toNat 0 0 = xx ∧ 0 ≤ kk ∧ kk ≤ 24 ∧ kk ≤ ((bytesW s).length : Int) * 8 - (sumK (ps.take j) : Nat) from ⟨by rw [← hkk]; exact g1, by omega, g4, g2⟩)
            have HJ := Aside0.mk (show jj = (j : Int) ∧ j < la.length ∧ sumK (ps.take (j + 1)) = sumK (ps.take j) + kk.toNat from ⟨hjj, by omega, by rw [sumK_take ps j hjl, ← hkk]; rfl⟩)
            have HPo := Aside0.mk hpos
            have t5 : wrap64 (jj + 1) = jj + 1 := by unfold wrap64; have := HP.out; omega
            have dx : (xx != xx) = false := by simp
            have q0 := eq_true hlt
            have q1 := eq_true hlt2
            clear g1 g2 g3 g4 ea ec hxx hkk hjl hj hjj hpos hlt hlt2
            replace p0 := eq_true p0
            go_wp2_with ((with_reducible refine gate_callee (f := 28) rfl ?_); refine goesL_ (some 81) rfl rfl Try.func28 (by kernel_rfl) rfl #[.pointer (some ⟨g, 0, none⟩), .int .i64 kk] rfl (by (try simp only [List.map_toArray, List.map_cons, List.map_nil]); first | done | rfl) ?_; refine (bits_Reader_Get.at_ g (bytesW s) (sumK (ps.take j)) kk xx uQ _ w3.heap.size (Nat.le_trans HS4.out HO.out.kept.1) HU.out HPo.out HLB.out HG.out.2.1 HG.out.2.2.1 HG.out.2.2.2 HG.out.1).mono ?_; rintro e w5 ⟨rfl, h1, h2⟩; refine ⟨_, rfl, ?_⟩; have HU5 := Aside0.mk h1; have HO5 := Aside0.mk (HO.out.trans h2); have hx6b := HX6.out _ HO5.out; clear h1 h2)
            go_roundw
            case rel =>
              obtain ⟨z1, z2, z3⟩ := HJ.out
              rw [← z3] at HU5
              exact ⟨j + 1, _, rfl, by rw [t5]; omega, by omega, HU5, HO5⟩
            case measure =>
              have := HJ.out
              simp [intOf, t5]
              omega
          · have dlt : decide (jj < (la.length : Int)) = false := decide_eq_false hlt
            have hjl : j = ps.length := by have := HP.out; omega
            have HL := Aside0.mk HP.out.2.2.1
            rw [hjl, List.take_length] at HU
            have d8 : decide (((bytesW s).length : Int) * 8 - (sumK ps : Nat) < 8) = true := decide_eq_true HL.out
            have HBr := Aside0.mk (HB4.out.trans (HO.out.below.mono HS3.out))
            clear hjl hjj hj hlt hpos
            go_wp2_with (first | ((with_reducible refine gate_callee (f := 29) rfl ?_); refine goesL_ (some 95) rfl rfl Try.func29 (by kernel_rfl) rfl #[.pointer (some ⟨g, 0, none⟩)] rfl (by (try simp only [List.map_toArray, List.map_cons, List.map_nil]); first | done | rfl) ?_; refine (bits_Reader_Left.calls g (bytesW s) ((sumK ps : Nat) : Int) uQ _ w3.heap.size (Nat.le_trans HS4.out HO.out.kept.1) HU.out (by omega) (by have := HSK.out; omega) HLB.out).mono ?_; rintro e w6 ⟨rfl, hd⟩; refine ⟨_, rfl, ?_⟩; have HB6 := Aside0.mk (HBr.out.trans (hd.below.mono HBr.out.size)); clear hd) | ((with_reducible refine gate_callee (f := 10) rfl ?_); refine gate_guard (by rfl) ?_; dsimp only; refine goesL_ (some 98) rfl rfl Try.func10 (by kernel_rfl) rfl #[] rfl (by (try simp only [List.map_toArray, List.map_cons, List.map_nil]); first | done | rfl) ?_; refine (rubricatorlaw1_known.calls _).mono ?_; rintro e wA ⟨rfl, hd⟩; refine ⟨_, rfl, ?_⟩; have HBA := Aside0.mk (HB6.out.trans (hd.mono HB6.out.size)); clear hd) | (go_at_call 10; refine (rubricatorlaw1_known.calls _).mono ?_; rintro e wA ⟨rfl, hd⟩; have HBA := Aside0.mk (HB6.out.trans (hd.mono HB6.out.size)); clear hd))
            go_ret
            exact ⟨rfl, HBA.out⟩
theorem back_out (A0 A1 : Option Addr) (c0 c1 : Nat) (lv ln : List Int) (w : World) (h : 300 < lv.length ∨ 300 < ln.length) :
    Calls Try.prog 5 #[.slice A0 lv.length c0, .slice A1 ln.length c1] w fun e w' => e = .returned (.bool true) ∧ Below w.heap.size w w' := by
  by_cases h1 : 300 < (lv.length : Int)
  · have d1 : decide (300 < (lv.length : Int)) = true := decide_eq_true h1
    clear h h1
    go_enter Try.func5, Try.ntmps5
    go_wp2
    go_ret
    exact ⟨rfl, Below.refl _ _⟩
  · have d1 : decide (300 < (lv.length : Int)) = false := decide_eq_false h1
    have d2 : decide (300 < (ln.length : Int)) = true := decide_eq_true (by omega)
    clear h h1
    go_enter Try.func5, Try.ntmps5
    go_wp2
    go_ret
    exact ⟨rfl, Below.refl _ _⟩
theorem rubricatorlaw1_BitsBack.walk (A0 : Option Addr) (c0 : Nat) (lv : List Int) (A1 : Option Addr) (c1 : Nat) (ln : List Int) (w : World) (hv : Kd.C (Kd.int .i64) w A0 lv.length lv) (_ : lv.length ≤ c0) (_ : lv.length ≤ maxLen) (_ : lv.length * 8 ≤ 140737488351232) (wv : ∀ x ∈ lv, (Lit.int .i64 x).wf = true) (hn : Kd.C (Kd.int .i64) w A1 ln.length ln) (_ : ln.length ≤ c1) (_ : ln.length ≤ maxLen) (_ : ln.length * 8 ≤ 140737488351232) (wn : ∀ x ∈ ln, (Lit.int .i64 x).wf = true) :
    Calls Try.prog 5 #[.slice A0 lv.length c0, .slice A1 ln.length c1] w fun e w' => e = .returned (.bool true) ∧ Below w.heap.size w w' := by
  by_cases h : 300 < lv.length ∨ 300 < ln.length
  · exact back_out A0 A1 c0 c1 lv ln w h
  · exact back_walk A0 A1 c0 c1 lv ln w hv hn wv wn (by omega) (by omega)
end Go.Proofs.Ytblneonbilbaiaa.PA
