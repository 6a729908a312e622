/- LinePlays: a script of a Cursor, played beside the document one. No conditions. -/
import Derived.Test.YtbhopjcicdjjpaaDoorRef
import Derived.Test.YtbhopjcicdjjpaaDoorOpen
namespace Go.Proofs.YtbhopjcicdjjpaaDoor.PA
open Go.Proofs.YtbhopjcicdjjpaaDoor.The Go.RowKit Go.Proofs.YtbhopjcicdjjpaaDoorW.PrintWords Go.Proofs.YtbhopjcicdjjpaaDoorW.PrintLast Go.Proofs.YtbhopjcicdjjpaaDoorW.PrintMore
set_option linter.unusedVariables false
set_option linter.unusedSimpArgs false
theorem IsS34.but {w0 W W1 : World} {g g2 : Nat} {s : ByteArray} {i c : Int} {b : Bool} (h : IsS34 w0 W g s i c b) (hk : KeepBut W W1 g2 none) (hne : g ≠ g2) : IsS34 w0 W1 g s i c b :=
  h.kept (Kept.of_keep (Kept.refl _ (fun k => k = g2)) hk (.inl rfl)) hne
theorem Take_at (g : Nat) (s : ByteArray) (i c l : Nat) (N : Int) (w0 w : World) (hI : IsS41 w0 w g s i c l) (hB : Below w0.heap.size w0 w) (hs : s.size ≤ 1000000) (hf : Fine s i c l) (hc : c ≤ 800000000) (hN : N < 9223372036854775808) (r : ByteArray) (i2 c2 l2 : Nat) (h2 : tk s N.toNat i c l = (i2, c2, l2)) (hr : s.extract i i2 = r) :
    Calls Tryd.prog 20 #[.pointer (some ⟨g, 0, none⟩), .int .i64 N] w fun e w' => e = .returned (.string r) ∧ IsS41 w0 w' g s i2 c2 l2 ∧ Below w0.heap.size w0 w' ∧ KeepBut w w' g none := by
  obtain ⟨k, hk⟩ := (take_ev s hs N hN i c l hf hc).rounds
  rw [h2] at hk
  simp only at hk
  rw [hr] at hk
  exact line_Cursor_Take.calls k g s i c l N _ _ _ _ _ w0 w hI hB hk
theorem blank_eq (s : ByteArray) (i : Nat) (hi : i ≤ s.size) : ((wordS s i).toList == ([] : List UInt8)) = decide (endI s (s.size - i) i = s.size) := by
  rw [word_end s i hi, Bool.eq_iff_iff, beq_iff_eq, decide_eq_true_iff]
  have h := endI_le s i hi
  rw [Lib.toList_data, ext_list, List.drop_eq_nil_iff]
  have e : s.data.toList.length = s.size := by simp
  rw [e]
  omega
theorem Blank_at (g : Nat) (s : ByteArray) (i c l : Nat) (w0 w : World) (hI : IsS41 w0 w g s i c l) (hB : Below w0.heap.size w0 w) (hf : Fine s i c l) (r : Bool) (hr : decide (endI s (s.size - i) i = s.size) = r) :
    Calls Tryd.prog 14 #[.pointer (some ⟨g, 0, none⟩)] w fun e w' => e = .returned (.bool r) ∧ IsS41 w0 w' g s i c l ∧ Below w0.heap.size w0 w' ∧ KeepBut w w' g none := by
  subst hr
  refine line_Cursor_Blank.calls g s i c l _ _ _ _ _ w0 w hI hB ?_
  unfold line_Cursor_Blank.f
  rw [word_eq s i c l hf, Option.bind_some, blank_eq s i hf.1]
theorem RInd_at (x : Nat) (s : ByteArray) (i c l : Nat) (w0 w : World) (hI : IsS34 w0 w x s i c (decide (0 < l))) (hB : Below w0.heap.size w0 w) (hs : s.size ≤ 1000000) (hf : Fine s i c l) (hc : c ≤ 800000000) (r : Int) (hr : ((endC s i c l - c : Nat) : Int) = r) :
    Calls Tryd.prog 15 #[.pointer (some ⟨x, 0, none⟩)] w fun e w' => e = .returned (.int .i64 r) ∧ IsS34 w0 w' x s i c (decide (0 < l)) ∧ Below w0.heap.size w0 w' ∧ KeepBut w w' x none := by
  subst hr
  obtain ⟨k, hk⟩ := (rindent_ev s hs i c l (decide (0 < l)) hf hc).rounds
  exact rubricatorref17_Cursor_Indent.calls k x s i c _ _ _ _ _ _ w0 w hI hB hk
theorem RBlank_at (x : Nat) (s : ByteArray) (i c l : Nat) (w0 w : World) (hI : IsS34 w0 w x s i c (decide (0 < l))) (hB : Below w0.heap.size w0 w) (hs : s.size ≤ 1000000) (hf : Fine s i c l) (r : Bool) (hr : decide (endI s (s.size - i) i = s.size) = r) :
    Calls Tryd.prog 16 #[.pointer (some ⟨x, 0, none⟩)] w fun e w' => e = .returned (.bool r) ∧ IsS34 w0 w' x s i c (decide (0 < l)) ∧ Below w0.heap.size w0 w' ∧ KeepBut w w' x none := by
  subst hr
  obtain ⟨k, hk⟩ := (rblank_l0 s hs i c (decide (0 < l)) i hf.1).rounds
  exact rubricatorref17_Cursor_Blank.calls k x s i c _ _ _ _ _ _ w0 w hI hB hk
theorem RRest_at (x : Nat) (s : ByteArray) (i c l : Nat) (w0 w : World) (hI : IsS34 w0 w x s i c (decide (0 < l))) (hB : Below w0.heap.size w0 w) (hs : s.size ≤ 1000000) (hf : Fine s i c l) (hc : c ≤ 800000000) (r : ByteArray) (hr : restS s i l = r) :
    Calls Tryd.prog 17 #[.pointer (some ⟨x, 0, none⟩)] w fun e w' => e = .returned (.string r) ∧ IsS34 w0 w' x s i c (decide (0 < l)) ∧ Below w0.heap.size w0 w' ∧ KeepBut w w' x none := by
  subst hr
  obtain ⟨k, hk⟩ := (rrest_ev s hs i c l hf hc).rounds
  exact rubricatorref17_Cursor_Rest.calls k x s i c _ _ _ _ _ _ w0 w hI hB hk
theorem RWord_at (x : Nat) (s : ByteArray) (i c l : Nat) (w0 w : World) (hI : IsS34 w0 w x s i c (decide (0 < l))) (hB : Below w0.heap.size w0 w) (hs : s.size ≤ 1000000) (hf : Fine s i c l) (r : ByteArray) (hr : wordS s i = r) :
    Calls Tryd.prog 18 #[.pointer (some ⟨x, 0, none⟩)] w fun e w' => e = .returned (.string r) ∧ IsS34 w0 w' x s i c (decide (0 < l)) ∧ Below w0.heap.size w0 w' ∧ KeepBut w w' x none := by
  subst hr
  obtain ⟨k, hk⟩ := (rword_l0 s hs i c (decide (0 < l)) i hf.1).rounds
  rw [← word_end s i hf.1] at hk
  exact rubricatorref17_Cursor_Word.calls k x s i c _ _ _ _ _ _ w0 w hI hB hk
theorem RSkip_at (x : Nat) (s : ByteArray) (i c l : Nat) (N : Int) (w0 w : World) (hI : IsS34 w0 w x s i c (decide (0 < l))) (hB : Below w0.heap.size w0 w) (hs : s.size ≤ 1000000) (hf : Fine s i c l) (hc : c ≤ 800000000) (hN : N < 9223372036854775808) (r : Int) (i2 c2 l2 : Nat) (hr : ((skp s N.toNat i c l).1 : Int) = r) (h2 : (skp s N.toNat i c l).2 = (i2, c2, l2)) :
    Calls Tryd.prog 19 #[.pointer (some ⟨x, 0, none⟩), .int .i64 N] w fun e w' => e = .returned (.int .i64 r) ∧ IsS34 w0 w' x s i2 c2 (decide (0 < l2)) ∧ Below w0.heap.size w0 w' ∧ KeepBut w w' x none := by
  obtain ⟨k, hk⟩ := (rskip_ev s hs N hN i c l hf hc).rounds
  rw [hr, h2] at hk
  exact rubricatorref17_Cursor_Skip.calls k x s i c _ N _ _ _ _ _ w0 w hI hB hk
theorem RTake_at (x : Nat) (s : ByteArray) (i c l : Nat) (N : Int) (w0 w : World) (hI : IsS34 w0 w x s i c (decide (0 < l))) (hB : Below w0.heap.size w0 w) (hs : s.size ≤ 1000000) (hf : Fine s i c l) (hc : c ≤ 800000000) (hN : N < 9223372036854775808) (r : ByteArray) (i2 c2 l2 : Nat) (h2 : tk s N.toNat i c l = (i2, c2, l2)) (hr : s.extract i i2 = r) :
    Calls Tryd.prog 21 #[.pointer (some ⟨x, 0, none⟩), .int .i64 N] w fun e w' => e = .returned (.string r) ∧ IsS34 w0 w' x s i2 c2 (decide (0 < l2)) ∧ Below w0.heap.size w0 w' ∧ KeepBut w w' x none := by
  obtain ⟨k, hk⟩ := (rtake_ev s hs N hN i c l hf hc).rounds
  rw [h2] at hk
  simp only at hk
  rw [hr] at hk
  exact rubricatorref17_Cursor_Take.calls k x s i c _ N _ _ _ _ _ w0 w hI hB hk
theorem n_lt {n : Int} (h : (Lit.int .i64 n).wf = true) : n < 9223372036854775808 := by
  simp [Lit.wf, IntKind.min, IntKind.max, IntKind.signed, IntKind.bits] at h
  omega
theorem rd_mem {acts : List S36} (ii : Int) (h0 : 0 ≤ ii) (h1 : ii < (acts.length : Int)) : rd_T36 acts ii ∈ acts := by
  unfold rd_T36
  have h : ii.toNat < acts.length := by omega
  rw [List.getD_eq_getElem?_getD, List.getElem?_eq_getElem h]
  exact List.getElem_mem _
theorem skp_next {s : ByteArray} {n i c l i2 c2 l2 : Nat} (hf : Fine s i c l) (h2 : (skp s n i c l).2 = (i2, c2, l2)) : Fine s i2 c2 l2 ∧ c2 ≤ c + 4 * s.size := by
  obtain ⟨h1, h3, h4, _⟩ := skp_spec s i n c l hf
  have h5 := endC_le s i c l hf.2.1
  rw [h2] at h3 h4
  simp only at h3 h4
  exact ⟨h4, by omega⟩
theorem tk_next {s : ByteArray} {n i c l i2 c2 l2 : Nat} (hf : Fine s i c l) (h2 : tk s n i c l = (i2, c2, l2)) : Fine s i2 c2 l2 ∧ c2 ≤ c + 4 * s.size := by
  obtain ⟨h1, h3, _⟩ := tk_fine s i n c l hf
  rw [h2] at h1 h3
  simp only at h1 h3
  exact ⟨h1, by omega⟩
theorem endI_end (s : ByteArray) : ∀ i, i ≤ s.size → isB s (endI s (s.size - i) i) = false := by
  refine by_end (s := s) (fun i ih hi => ?_)
  cases h : isB s i with
  | true =>
    rw [endI_step h]
    exact ih (isB_lt h) (isB_lt h)
  | false =>
    rw [endI_stop h]
    exact h
theorem skp_ind {s : ByteArray} {i c l : Nat} {r : Int} (hf : Fine s i c l) (hr : ((endC s i c l - c : Nat) : Int) = r) : ∃ i2 c2 l2 rr, ((skp s r.toNat i c l).1 : Int) = r ∧ (skp s r.toNat i c l).2 = (i2, c2, l2) ∧ restS s i2 l2 = rr ∧ wordS s i2 = rr := by
  have e : r.toNat = endC s i c l - c := by omega
  rw [e]
  have h1 := (skp_spec s i (endC s i c l - c) c l hf).1
  have hp : 0 < l → 0 < endC s i c l - c := fun h0 => by
    have hb := hf.isB h0
    have h3 := endC_step (c := c) (l := l) hb
    have h4 := endC_ge s (i + 1) (c + wid s i c l) 0
    have h5 := wid_pos s i c l
    omega
  obtain ⟨h6, h7⟩ := skp_all s i (endC s i c l - c) c l hf (Nat.le_refl _) hp
  have h8 := endI_le s i hf.1
  have h9 := endI_end s i hf.1
  refine ⟨_, _, _, _, by omega, rfl, rfl, ?_⟩
  rw [h6, h7]
  generalize endI s (s.size - i) i = m at h8 h9
  rw [word_end s m h8.1, endI_stop h9]
  unfold restS
  rw [if_neg (by omega)]
theorem blk_but {W W1 : World} {g b : Nat} {o : Obj} (h : W.heap[b]? = some o) (hk : KeepBut W W1 g none) (hne : b ≠ g) : W1.heap[b]? = some o :=
  blk_kept h (Kept.of_keep (Kept.refl _ (fun k => k = g)) hk (.inl rfl)) hne
set_option maxHeartbeats 4000000 in
set_option maxRecDepth 100000 in
theorem plays_walk (s : ByteArray) (A : Option Addr) (ca : Nat) (acts : List S36) (w : World) (hs : s.size ≤ 600) (hC : Kd.C k36 w A acts.length acts) (hN : ∀ y ∈ acts, (Lit.int .i64 y.f1).wf = true) :
    Calls Tryd.prog 5 #[.string s, .slice A acts.length ca] w fun e w' => e = .returned (.bool true) ∧ Below w.heap.size w w' := by
  obtain ⟨kk, hk⟩ := known_ev.rounds
  have HKN := Aside0.mk hk
  have HC := Aside0.mk hC
  have HNw := Aside0.mk hN
  have HS := Aside0.mk (show s.size ≤ 1000000 by omega)
  have HS6 := Aside0.mk hs
  have d1 : decide (600 < (s.size : Int)) = false := decide_eq_false (by omega)
  clear hk hC hN hs
  go_enter Tryd.func5, Tryd.ntmps5
  go_wp2_with ((with_reducible refine gate_callee (f := 7) rfl ?_); refine goesL_ (some 14) rfl rfl Tryd.func7 (by kernel_rfl) rfl #[.string s] rfl (by (try simp only [List.map_toArray, List.map_cons, List.map_nil]); first | done | rfl) ?_; refine (line_Of.calls s s 0 0 0 w w (Below.refl _ _) rfl).mono ?_; rintro e w1 ⟨g, rfl, h1, h2, h3⟩; refine ⟨_, rfl, ?_⟩; have HU1 := Aside0.mk h1; have HB1 := Aside0.mk h2; clear h1 h2 h3)
  obtain ⟨x, hx⟩ : ∃ x, x = w1.heap.size := ⟨_, rfl⟩
  have hg := blk_lt HU1.out.1
  have HNE := Aside0.mk (show x ≠ g by omega)
  have ha : Below w1.heap.size w1 (w1.alloc (.cells #[.string s, .int .i64 0, .int .i64 0, .bool false] 34)) := below_alloc (Below.refl _ _) _
  have H0 := Aside0.mk (show IsS41 w (w1.alloc (.cells #[.string s, .int .i64 0, .int .i64 0, .bool false] 34)) g s ((0 : Nat) : Int) ((0 : Nat) : Int) ((0 : Nat) : Int) ∧ IsS34 w (w1.alloc (.cells #[.string s, .int .i64 0, .int .i64 0, .bool false] 34)) x s ((0 : Nat) : Int) ((0 : Nat) : Int) (decide (0 < 0)) ∧ Below w.heap.size w (w1.alloc (.cells #[.string s, .int .i64 0, .int .i64 0, .bool false] 34)) from
    ⟨HU1.out.below ha, ⟨hx ▸ blk_new w1 _, by have := HB1.out.size; omega⟩, HB1.out.trans (ha.mono HB1.out.size)⟩)
  rw [← hx]
  clear ha hg HU1 HB1 hx
  generalize w1.alloc (.cells #[.string s, .int .i64 0, .int .i64 0, .bool false] 34) = w4 at H0 ⊢
  go_loopw [7] (fun v7 wr => ∃ (j i c l : Nat) (ii : Int), v7 = .int .i64 ii ∧ ii = (j : Int) ∧ j ≤ 101 ∧ Aside0 (Fine s i c l) ∧ Aside0 (c ≤ 2400 * j) ∧ Aside0 (IsS41 w wr g s i c l) ∧ Aside0 (IsS34 w wr x s i c (decide (0 < l))) ∧ Aside0 (Below w.heap.size w wr)) (fun v7 _ => 101 - (intOf v7).toNat)
  case atStart =>
    exact ⟨0, 0, 0, 0, 0, rfl, rfl, by omega, ⟨⟨by omega, by omega, fun h => by omega⟩⟩, ⟨by omega⟩, ⟨H0.out.1⟩, ⟨H0.out.2.1⟩, ⟨H0.out.2.2⟩⟩
  case round =>
    clear H0
    obtain ⟨j, i, c, l, ii, rfl, hii, hj, HF, HCj, HG0, HX0, HB0⟩ := hrel
    by_cases hll : ii ≤ (acts.length : Int) ∧ ii ≤ 100
    · obtain ⟨hl1, hl2⟩ := hll
      have dl1 : decide (ii ≤ (acts.length : Int)) = true := decide_eq_true hl1
      have dl2 : decide (ii ≤ 100) = true := decide_eq_true hl2
      have HCb := Aside0.mk (show c ≤ 800000000 by have := HCj.out; omega)
      obtain ⟨rI, hrI⟩ : ∃ y : Int, ((endC s i c l - c : Nat) : Int) = y := ⟨_, rfl⟩
      obtain ⟨rB, hrB⟩ : ∃ y, decide (endI s (s.size - i) i = s.size) = y := ⟨_, rfl⟩
      obtain ⟨rR, hrR⟩ : ∃ y, restS s i l = y := ⟨_, rfl⟩
      obtain ⟨rW, hrW⟩ : ∃ y, wordS s i = y := ⟨_, rfl⟩
      have HRI := Aside0.mk hrI
      have HRB := Aside0.mk hrB
      have HRR := Aside0.mk hrR
      have HRW := Aside0.mk hrW
      have dd1 : (rI != rI) = false := by simp
      have dd2 : (rB != rB) = false := by simp
      have dd3 : ((c : Int) != (c : Int)) = false := by simp
      have HJ := Aside0.mk (show ii = (j : Int) ∧ ii ≤ (acts.length : Int) ∧ j ≤ 100 by omega)
      clear hrI hrB hrR hrW hl1 hl2 hii hj
      go_wp2
      go_region_with (first | (go_at_call 8; refine (Ind_at g s i c l w _ (by exact HG0.out) (by first | exact HB0.out | exact HB0.out.drew | exact pw_below_drewN HB0.out _) HS.out HF.out HCb.out rI HRI.out).mono ?_; rintro e w1 ⟨rfl, h1, h2, h3⟩; have HG1 := Aside0.mk h1; have HB1 := Aside0.mk h2; have HX1 := Aside0.mk (IsS34.but (by exact HX0.out) h3 HNE.out); clear h1 h2 h3) | (go_at_call 15; refine (RInd_at x s i c l w _ (by exact HX1.out) (by first | exact HB1.out | exact HB1.out.drew | exact pw_below_drewN HB1.out _) HS.out HF.out HCb.out rI HRI.out).mono ?_; rintro e w2 ⟨rfl, h1, h2, h3⟩; have HX2 := Aside0.mk h1; have HB2 := Aside0.mk h2; have HG2 := Aside0.mk (IsS41.but (by exact HG1.out) h3 (Ne.symm HNE.out)); clear h1 h2 h3) | (go_at_call 14; refine (Blank_at g s i c l w _ (by exact HG2.out) (by first | exact HB2.out | exact HB2.out.drew | exact pw_below_drewN HB2.out _) HF.out rB HRB.out).mono ?_; rintro e w3 ⟨rfl, h1, h2, h3⟩; have HG3 := Aside0.mk h1; have HB3 := Aside0.mk h2; have HX3 := Aside0.mk (IsS34.but (by exact HX2.out) h3 HNE.out); clear h1 h2 h3) | (go_at_call 16; refine (RBlank_at x s i c l w _ (by exact HX3.out) (by first | exact HB3.out | exact HB3.out.drew | exact pw_below_drewN HB3.out _) HS.out HF.out rB HRB.out).mono ?_; rintro e w4 ⟨rfl, h1, h2, h3⟩; have HX4 := Aside0.mk h1; have HB4 := Aside0.mk h2; have HG4 := Aside0.mk (IsS41.but (by exact HG3.out) h3 (Ne.symm HNE.out)); clear h1 h2 h3) | (go_at_call 11; refine (Rest_at g s i c l w _ (by exact HG4.out) (by first | exact HB4.out | exact HB4.out.drew | exact pw_below_drewN HB4.out _) HS.out HF.out rR HRR.out).mono ?_; rintro e w5 ⟨rfl, h1, h2, h3⟩; have HG5 := Aside0.mk h1; have HB5 := Aside0.mk h2; have HX5 := Aside0.mk (IsS34.but (by exact HX4.out) h3 HNE.out); clear h1 h2 h3) | (go_at_call 17; refine (RRest_at x s i c l w _ (by exact HX5.out) (by first | exact HB5.out | exact HB5.out.drew | exact pw_below_drewN HB5.out _) HS.out HF.out HCb.out rR HRR.out).mono ?_; rintro e w6 ⟨rfl, h1, h2, h3⟩; have HX6 := Aside0.mk h1; have HB6 := Aside0.mk h2; have HG6 := Aside0.mk (IsS41.but (by exact HG5.out) h3 (Ne.symm HNE.out)); clear h1 h2 h3) | (go_at_call 12; refine (Word_at g s i c l w _ (by exact HG6.out) (by first | exact HB6.out | exact HB6.out.drew | exact pw_below_drewN HB6.out _) HF.out rW HRW.out).mono ?_; rintro e w7 ⟨rfl, h1, h2, h3⟩; have HG7 := Aside0.mk h1; have HB7 := Aside0.mk h2; have HX7 := Aside0.mk (IsS34.but (by exact HX6.out) h3 HNE.out); clear h1 h2 h3) | (go_at_call 18; refine (RWord_at x s i c l w _ (by exact HX7.out) (by first | exact HB7.out | exact HB7.out.drew | exact pw_below_drewN HB7.out _) HS.out HF.out rW HRW.out).mono ?_; rintro e w8 ⟨rfl, h1, h2, h3⟩; have HX8 := Aside0.mk h1; have HB8 := Aside0.mk h2; have HG8 := Aside0.mk (IsS41.but (by exact HG7.out) h3 (Ne.symm HNE.out)); have xc8 : w8.cell? ⟨x, 2, none⟩ = some (.int .i64 (c : Int)) := blk_cell HX8.out.1 2; have xq8 := blk_lt HX8.out.1; clear h1 h2 h3) | (go_at_call 10; refine (Col_at g s i c l w _ (by exact HG8.out) (by first | exact HB8.out | exact HB8.out.drew | exact pw_below_drewN HB8.out _)).mono ?_; rintro e w9 ⟨rfl, h1, h2, h3⟩; have HG9 := Aside0.mk h1; have HB9 := Aside0.mk h2; have HX9 := Aside0.mk (IsS34.but (by exact HX8.out) h3 HNE.out); have xc9 : w9.cell? ⟨x, 2, none⟩ = some (.int .i64 (c : Int)) := blk_cell HX9.out.1 2; have xq9 := blk_lt HX9.out.1; clear h1 h2 h3))
      all_goals
        clear HG1 HB1 HX1 HG2 HB2 HX2 HG3 HB3 HX3 HG4 HB4 HX4 HG5 HB5 HX5 HG6 HB6 HX6 HG7 HB7 HX7 HG8 HB8 HX8 xc8 xq8 xc9 xq9
        have HG9 := Aside0.mk (show IsS41 w w9 g s i c l from HG9.out)
        by_cases he : ii = (acts.length : Int)
        · have de : (ii == (acts.length : Int)) = true := beq_iff_eq.mpr he
          clear he
          go_wp2_with ((with_reducible refine gate_callee (f := 13) rfl ?_); refine goesL_ (some 120) rfl rfl Tryd.func13 (by kernel_rfl) rfl #[] rfl (by (try simp only [List.map_toArray, List.map_cons, List.map_nil]); first | done | rfl) ?_; refine (rubricatorlaw17_known.calls kk true _ HKN.out).mono ?_; rintro e wA ⟨rfl, hd⟩; refine ⟨_, rfl, ?_⟩; have HBA := Aside0.mk (HB9.out.trans (hd.mono HB9.out.size)); clear hd)
          go_ret
          exact ⟨rfl, HBA.out⟩
        · have de : (ii == (acts.length : Int)) = false := beq_eq_false_iff_ne.mpr he
          have p0 : 0 ≤ ii := by have := HJ.out; omega
          have hl1 : ii < (acts.length : Int) := by have := HJ.out; omega
          have dl0 : decide (0 ≤ ii) = true := decide_eq_true p0
          have dl5 : decide (ii < (acts.length : Int)) = true := decide_eq_true hl1
          obtain ⟨ad, ea, hx0, hx1⟩ := at_T36 (Kd.C_below HC.out HB9.out) ii p0 hl1
          cases ea
          have HNn := Aside0.mk (n_lt (HNw.out _ (rd_mem ii p0 hl1)))
          obtain ⟨kd, hkd⟩ : ∃ k, (rd_T36 acts ii).f0 = k := ⟨_, rfl⟩
          obtain ⟨nn, hnn⟩ : ∃ k, (rd_T36 acts ii).f1 = k := ⟨_, rfl⟩
          rw [hkd] at hx0
          rw [hnn] at hx1 HNn
          have t5 : wrap64 (ii + 1) = ii + 1 := by have := HJ.out; unfold wrap64; omega
          have q0 := eq_true hl1
          have HWX := Aside0.mk (show IsS41 w (w9.alloc (.cells #[.int .i64 kd, .int .i64 nn] 36)) g s i c l ∧ IsS34 w (w9.alloc (.cells #[.int .i64 kd, .int .i64 nn] 36)) x s i c (decide (0 < l)) ∧ Below w.heap.size w (w9.alloc (.cells #[.int .i64 kd, .int .i64 nn] 36)) ∧ (w9.alloc (.cells #[.int .i64 kd, .int .i64 nn] 36)).heap[w9.heap.size]? = some (.cells #[.int .i64 kd, .int .i64 nn] 36 (0, 0)) ∧ w9.heap.size ≠ g ∧ w9.heap.size ≠ x from
            ⟨HG9.out.below (below_alloc (Below.refl _ _) _), HX9.out.below (below_alloc (Below.refl _ _) _), HB9.out.trans (below_alloc (Below.refl _ _) _ |>.mono HB9.out.size), blk_new w9 _, (by have := blk_lt HG9.out.1; omega), (by have := blk_lt HX9.out.1; omega)⟩)
          clear hkd hnn he
          replace p0 := eq_true p0
          by_cases k1 : kd = 1
          · have dk : (kd == 1) = true := beq_iff_eq.mpr k1
            clear k1
            obtain ⟨gone, hgo⟩ : ∃ y : Int, ((skp s nn.toNat i c l).1 : Int) = y := ⟨_, rfl⟩
            obtain ⟨⟨i2, c2, l2⟩, h2⟩ : ∃ y, (skp s nn.toNat i c l).2 = y := ⟨_, rfl⟩
            have HGO := Aside0.mk (And.intro hgo h2)
            have HF2 := Aside0.mk (skp_next HF.out h2).1
            have HC2 := Aside0.mk (show c2 ≤ 2400 * (j + 1) by have h4 := (skp_next HF.out h2).2; have := HCj.out; have := HS6.out; omega)
            have dg : (gone != gone) = false := by simp
            clear hgo h2
            go_wp2
            obtain ⟨b, hb⟩ : ∃ b, b = w9.heap.size := ⟨_, rfl⟩
            rw [← hb] at HWX ⊢
            generalize w9.alloc (.cells #[.int .i64 kd, .int .i64 nn] 36) = wx at HWX ⊢
            clear hb
            have sc : wx.cell? ⟨b, 1, none⟩ = some (.int .i64 nn) := blk_cell HWX.out.2.2.2.1 1
            have sq := blk_lt HWX.out.2.2.2.1
            have HG9 := Aside0.mk HWX.out.1
            have HX9 := Aside0.mk HWX.out.2.1
            have HB9 := Aside0.mk HWX.out.2.2.1
            go_region_with (first | (go_at_call 9; refine (Skip_at g s i c l nn w _ (by exact HG9.out) (by first | exact HB9.out | exact HB9.out.drew | exact pw_below_drewN HB9.out _) HS.out HF.out HCb.out HNn.out gone i2 c2 l2 HGO.out.1 HGO.out.2).mono ?_; rintro e w10 ⟨rfl, h1, h2, h3⟩; have HG10 := Aside0.mk h1; have HB10 := Aside0.mk h2; have HX10 := Aside0.mk (IsS34.but (by exact HX9.out) h3 HNE.out); have hb10 := blk_but HWX.out.2.2.2.1 h3 HWX.out.2.2.2.2.1; have sc10 : w10.cell? ⟨b, 1, none⟩ = some (.int .i64 nn) := blk_cell hb10 1; have sq10 := blk_lt hb10; clear hb10; clear h1 h2 h3) | (go_at_call 19; refine (RSkip_at x s i c l nn w _ (by exact HX10.out) (by first | exact HB10.out | exact HB10.out.drew | exact pw_below_drewN HB10.out _) HS.out HF.out HCb.out HNn.out gone i2 c2 l2 HGO.out.1 HGO.out.2).mono ?_; rintro e w11 ⟨rfl, h1, h2, h3⟩; have HX11 := Aside0.mk h1; have HB11 := Aside0.mk h2; have HG11 := Aside0.mk (IsS41.but (by exact HG10.out) h3 (Ne.symm HNE.out)); clear h1 h2 h3))
            all_goals
              go_wp2
              go_roundw
              case rel =>
                have := HJ.out
                exact ⟨j + 1, i2, c2, l2, _, rfl, by rw [t5]; omega, by omega, HF2, HC2, HG11, HX11, HB11⟩
              case measure =>
                have := HJ.out
                simp only [intOf, t5]
                omega
          by_cases k2 : kd = 2
          · have dk : (kd == 1) = false := beq_eq_false_iff_ne.mpr k1
            have dk2 : (kd == 2) = true := beq_iff_eq.mpr k2
            clear k1 k2
            obtain ⟨⟨i2, c2, l2⟩, h2⟩ : ∃ y, tk s nn.toNat i c l = y := ⟨_, rfl⟩
            obtain ⟨rt, hrt⟩ : ∃ y, s.extract i i2 = y := ⟨_, rfl⟩
            have HGO := Aside0.mk (And.intro h2 hrt)
            have HF2 := Aside0.mk (tk_next HF.out h2).1
            have HC2 := Aside0.mk (show c2 ≤ 2400 * (j + 1) by have h4 := (tk_next HF.out h2).2; have := HCj.out; have := HS6.out; omega)
            clear h2 hrt
            go_wp2
            obtain ⟨b, hb⟩ : ∃ b, b = w9.heap.size := ⟨_, rfl⟩
            rw [← hb] at HWX ⊢
            generalize w9.alloc (.cells #[.int .i64 kd, .int .i64 nn] 36) = wx at HWX ⊢
            clear hb
            have sc : wx.cell? ⟨b, 1, none⟩ = some (.int .i64 nn) := blk_cell HWX.out.2.2.2.1 1
            have sq := blk_lt HWX.out.2.2.2.1
            have HG9 := Aside0.mk HWX.out.1
            have HX9 := Aside0.mk HWX.out.2.1
            have HB9 := Aside0.mk HWX.out.2.2.1
            go_region_with (first | (go_at_call 20; refine (Take_at g s i c l nn w _ (by exact HG9.out) (by first | exact HB9.out | exact HB9.out.drew | exact pw_below_drewN HB9.out _) HS.out HF.out HCb.out HNn.out rt i2 c2 l2 HGO.out.1 HGO.out.2).mono ?_; rintro e w10 ⟨rfl, h1, h2, h3⟩; have HG10 := Aside0.mk h1; have HB10 := Aside0.mk h2; have HX10 := Aside0.mk (IsS34.but (by exact HX9.out) h3 HNE.out); have hb10 := blk_but HWX.out.2.2.2.1 h3 HWX.out.2.2.2.2.1; have sc10 : w10.cell? ⟨b, 1, none⟩ = some (.int .i64 nn) := blk_cell hb10 1; have sq10 := blk_lt hb10; clear hb10; clear h1 h2 h3) | (go_at_call 21; refine (RTake_at x s i c l nn w _ (by exact HX10.out) (by first | exact HB10.out | exact HB10.out.drew | exact pw_below_drewN HB10.out _) HS.out HF.out HCb.out HNn.out rt i2 c2 l2 HGO.out.1 HGO.out.2).mono ?_; rintro e w11 ⟨rfl, h1, h2, h3⟩; have HX11 := Aside0.mk h1; have HB11 := Aside0.mk h2; have HG11 := Aside0.mk (IsS41.but (by exact HG10.out) h3 (Ne.symm HNE.out)); clear h1 h2 h3))
            all_goals
              go_wp2
              go_roundw
              case rel =>
                have := HJ.out
                exact ⟨j + 1, i2, c2, l2, _, rfl, by rw [t5]; omega, by omega, HF2, HC2, HG11, HX11, HB11⟩
              case measure =>
                have := HJ.out
                simp only [intOf, t5]
                omega
          by_cases k3 : kd = 3
          · have dk : (kd == 1) = false := beq_eq_false_iff_ne.mpr k1
            have dk2 : (kd == 2) = false := beq_eq_false_iff_ne.mpr k2
            have dk3 : (kd == 3) = true := beq_iff_eq.mpr k3
            clear k1 k2 k3
            obtain ⟨i2, c2, l2, r2, hgo, h2, hrr, hww⟩ := skp_ind HF.out HRI.out
            have HGO := Aside0.mk (And.intro hgo (And.intro h2 (And.intro hrr hww)))
            have HF2 := Aside0.mk (skp_next HF.out h2).1
            have HC2 := Aside0.mk (show c2 ≤ 2400 * (j + 1) by have h4 := (skp_next HF.out h2).2; have := HCj.out; have := HS6.out; omega)
            have HCb2 := Aside0.mk (show c2 ≤ 800000000 by have := HC2.out; have := HJ.out; omega)
            have HRN := Aside0.mk (show rI < 9223372036854775808 by have h4 := endC_le s i c l HF.out.2.1; have h5 := HRI.out; have := HS6.out; have := HCb.out; omega)
            have HGx := Aside0.mk HWX.out.1
            have HXx := Aside0.mk HWX.out.2.1
            have HBx := Aside0.mk HWX.out.2.2.1
            clear hgo h2 hrr hww
            go_wp2_with (first | ((with_reducible refine gate_callee (f := 8) rfl ?_); refine goesL_ (some 100) rfl rfl Tryd.func8 (by kernel_rfl) rfl #[.pointer (some ⟨g, 0, none⟩)] rfl (by (try simp only [List.map_toArray, List.map_cons, List.map_nil]); first | done | rfl) ?_; refine (Ind_at g s i c l w _ HGx.out HBx.out HS.out HF.out HCb.out rI HRI.out).mono ?_; rintro e w10 ⟨rfl, h1, h2, h3⟩; refine ⟨_, rfl, ?_⟩; have HG10 := Aside0.mk h1; have HB10 := Aside0.mk h2; have HX10 := Aside0.mk (IsS34.but (by exact HXx.out) h3 HNE.out); clear h1 h2 h3) | ((with_reducible refine gate_callee (f := 9) rfl ?_); refine goesL_ (some 103) rfl rfl Tryd.func9 (by kernel_rfl) rfl #[.pointer (some ⟨g, 0, none⟩), .int .i64 rI] rfl (by (try simp only [List.map_toArray, List.map_cons, List.map_nil]); first | done | rfl) ?_; refine (Skip_at g s i c l rI w _ HG10.out HB10.out HS.out HF.out HCb.out HRN.out rI i2 c2 l2 HGO.out.1 HGO.out.2.1).mono ?_; rintro e w11 ⟨rfl, h1, h2, h3⟩; refine ⟨_, rfl, ?_⟩; have HG11 := Aside0.mk h1; have HB11 := Aside0.mk h2; have HX11 := Aside0.mk (IsS34.but (by exact HX10.out) h3 HNE.out); clear h1 h2 h3) | ((with_reducible refine gate_callee (f := 19) rfl ?_); refine gate_guard (by rfl) ?_; dsimp only; refine goesL_ (some 109) rfl rfl Tryd.func19 (by kernel_rfl) rfl #[.pointer (some ⟨x, 0, none⟩), .int .i64 rI] rfl (by (try simp only [List.map_toArray, List.map_cons, List.map_nil]); first | done | rfl) ?_; refine (RSkip_at x s i c l rI w _ HX11.out HB11.out HS.out HF.out HCb.out HRN.out rI i2 c2 l2 HGO.out.1 HGO.out.2.1).mono ?_; rintro e w12 ⟨rfl, h1, h2, h3⟩; refine ⟨_, rfl, ?_⟩; have HX12 := Aside0.mk h1; have HB12 := Aside0.mk h2; have HG12 := Aside0.mk (IsS41.but (by exact HG11.out) h3 (Ne.symm HNE.out)); clear h1 h2 h3) | ((with_reducible refine gate_callee (f := 11) rfl ?_); refine gate_guard (by rfl) ?_; dsimp only; refine goesL_ (some 115) rfl rfl Tryd.func11 (by kernel_rfl) rfl #[.pointer (some ⟨g, 0, none⟩)] rfl (by (try simp only [List.map_toArray, List.map_cons, List.map_nil]); first | done | rfl) ?_; refine (Rest_at g s i2 c2 l2 w _ HG12.out HB12.out HS.out HF2.out r2 HGO.out.2.2.1).mono ?_; rintro e w13 ⟨rfl, h1, h2, h3⟩; refine ⟨_, rfl, ?_⟩; have HG13 := Aside0.mk h1; have HB13 := Aside0.mk h2; have HX13 := Aside0.mk (IsS34.but (by exact HX12.out) h3 HNE.out); clear h1 h2 h3) | ((with_reducible refine gate_callee (f := 12) rfl ?_); refine gate_guard (by rfl) ?_; dsimp only; refine goesL_ (some 117) rfl rfl Tryd.func12 (by kernel_rfl) rfl #[.pointer (some ⟨g, 0, none⟩)] rfl (by (try simp only [List.map_toArray, List.map_cons, List.map_nil]); first | done | rfl) ?_; refine (Word_at g s i2 c2 l2 w _ HG13.out HB13.out HF2.out r2 HGO.out.2.2.2).mono ?_; rintro e w14 ⟨rfl, h1, h2, h3⟩; refine ⟨_, rfl, ?_⟩; have HG14 := Aside0.mk h1; have HB14 := Aside0.mk h2; have HX14 := Aside0.mk (IsS34.but (by exact HX13.out) h3 HNE.out); clear h1 h2 h3))
            go_roundw
            case rel =>
              have := HJ.out
              exact ⟨j + 1, i2, c2, l2, _, rfl, by rw [t5]; omega, by omega, HF2, HC2, HG14, HX14, HB14⟩
            case measure =>
              have := HJ.out
              simp only [intOf, t5]
              omega
          · have dk : (kd == 1) = false := beq_eq_false_iff_ne.mpr k1
            have dk2 : (kd == 2) = false := beq_eq_false_iff_ne.mpr k2
            have dk3 : (kd == 3) = false := beq_eq_false_iff_ne.mpr k3
            clear k1 k2 k3
            have HGx := Aside0.mk HWX.out.1
            have HXx := Aside0.mk HWX.out.2.1
            have HBx := Aside0.mk HWX.out.2.2.1
            have HC2 := Aside0.mk (show c ≤ 2400 * (j + 1) by have := HCj.out; omega)
            go_wp2
            go_roundw
            case rel =>
              have := HJ.out
              exact ⟨j + 1, i, c, l, _, rfl, by rw [t5]; omega, by omega, HF, HC2, HGx, HXx, HBx⟩
            case measure =>
              have := HJ.out
              simp only [intOf, t5]
              omega
    · have hx : decide (ii ≤ (acts.length : Int)) = false ∨ (decide (ii ≤ (acts.length : Int)) = true ∧ decide (ii ≤ 100) = false) := by
        by_cases hl1 : ii ≤ (acts.length : Int)
        · exact .inr ⟨decide_eq_true hl1, decide_eq_false (fun hl2 => hll ⟨hl1, hl2⟩)⟩
        · exact .inl (decide_eq_false hl1)
      clear hll hii hj
      rcases hx with dl1 | ⟨dl1, dl2⟩
      all_goals
        go_wp2_with ((with_reducible refine gate_callee (f := 13) rfl ?_); refine goesL_ (some 120) rfl rfl Tryd.func13 (by kernel_rfl) rfl #[] rfl (by (try simp only [List.map_toArray, List.map_cons, List.map_nil]); first | done | rfl) ?_; refine (rubricatorlaw17_known.calls kk true _ HKN.out).mono ?_; rintro e wA ⟨rfl, hd⟩; refine ⟨_, rfl, ?_⟩; have HBA := Aside0.mk (HB0.out.trans (hd.mono HB0.out.size)); clear hd)
        go_ret
        exact ⟨rfl, HBA.out⟩
def rubricatorlaw17_LinePlays.W36 (x : S36) : Prop := ((Lit.int .i64 x.f0).wf = true) ∧ ((Lit.int .i64 x.f1).wf = true)
theorem rubricatorlaw17_LinePlays.opens36 {H : Type} {enc : TypeId × Value → H} {W : World} : Go.Proofs.YtbhopjcicdjjpaaDoorOpen.Opens Tryd.prog H enc W k36 36 rubricatorlaw17_LinePlays.W36 := by
  have h := Go.Proofs.YtbhopjcicdjjpaaDoorOpen.opens_struct (H := H) (enc := enc) (W := W) Tryd.underlying36 (by kernel_rfl) (Go.Proofs.YtbhopjcicdjjpaaDoorOpen.fields_cons (wf := (fun x => (Lit.int .i64 x).wf = true)) rfl (by kernel_rfl) (Go.Proofs.YtbhopjcicdjjpaaDoorOpen.opens_int Tryd.underlying3) (Go.Proofs.YtbhopjcicdjjpaaDoorOpen.fields_last (wf := (fun x => (Lit.int .i64 x).wf = true)) rfl (by kernel_rfl) (Go.Proofs.YtbhopjcicdjjpaaDoorOpen.opens_int Tryd.underlying3)))
  exact Go.Proofs.YtbhopjcicdjjpaaDoorOpen.opens_iso (fun x : S36 => (x.f0, x.f1)) (fun a => ⟨⟨a.1, a.2⟩, rfl⟩) h
theorem plays_out (s : ByteArray) (A : Option Addr) (ca : Nat) (acts : List S36) (w : World) (h : 600 < (s.size : Int)) :
    Calls Tryd.prog 5 #[.string s, .slice A acts.length ca] w fun e w' => e = .returned (.bool true) ∧ Below w.heap.size w w' := by
  have d1 : decide (600 < (s.size : Int)) = true := decide_eq_true h
  clear h
  go_enter Tryd.func5, Tryd.ntmps5
  go_wp2
  go_ret
  exact ⟨rfl, Below.refl _ _⟩
theorem rubricatorlaw17_LinePlays.walk (s : ByteArray) (A : Option Addr) (ca : Nat) (acts : List S36) (w : World) (_ : s.size ≤ 140737488351232) (hC : Kd.C k36 w A acts.length acts) (_ : acts.length ≤ ca) (hw : acts.length ≤ maxLen ∧ acts.length * 16 ≤ 140737488351232 ∧ ∀ y ∈ acts, rubricatorlaw17_LinePlays.W36 y) :
    Calls Tryd.prog 5 #[.string s, .slice A acts.length ca] w fun e w' => e = .returned (.bool true) ∧ Below w.heap.size w w' := by
  by_cases h : 600 < (s.size : Int)
  · exact plays_out s A ca acts w h
  · exact plays_walk s A ca acts w (by omega) hC (fun y hy => (hw.2.2 y hy).2)
end Go.Proofs.YtbhopjcicdjjpaaDoor.PA
