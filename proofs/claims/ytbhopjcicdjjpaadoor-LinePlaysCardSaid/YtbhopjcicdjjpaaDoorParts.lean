/- LineParts: two Cursors side by side. No conditions. -/
import Derived.Test.YtbhopjcicdjjpaaDoorPAx2
import Derived.Test.YtbhopjcicdjjpaaDoorTheory
namespace Go.Proofs.YtbhopjcicdjjpaaDoor.PA
open Go.Proofs.YtbhopjcicdjjpaaDoor.The Go.RowKit Go.Proofs.YtbhopjcicdjjpaaDoorW.PrintWords Go.Proofs.YtbhopjcicdjjpaaDoorW.PrintLast Go.Proofs.YtbhopjcicdjjpaaDoorW.PrintMore
set_option linter.unusedVariables false
set_option linter.unusedSimpArgs false
theorem Ind_at (g : Nat) (s : ByteArray) (i c l : Nat) (w0 w : World) (hI : IsS41 w0 w g s i c l) (hB : Below w0.heap.size w0 w) (hs : s.size ≤ 1000000) (hf : Fine s i c l) (hc : c ≤ 800000000) (r : Int) (hr : ((endC s i c l - c : Nat) : Int) = r) :
    Calls Tryd.prog 8 #[.pointer (some ⟨g, 0, none⟩)] w fun e w' => e = .returned (.int .i64 r) ∧ IsS41 w0 w' g s i c l ∧ Below w0.heap.size w0 w' ∧ KeepBut w w' g none := by
  subst hr
  obtain ⟨k, hk⟩ := (indent_ev s hs i c l hf hc).rounds
  exact line_Cursor_Indent.calls k g s i c l _ _ _ _ _ w0 w hI hB hk
theorem Skip_at (g : Nat) (s : ByteArray) (i c l : Nat) (N : Int) (w0 w : World) (hI : IsS41 w0 w g s i c l) (hB : Below w0.heap.size w0 w) (hs : s.size ≤ 1000000) (hf : Fine s i c l) (hc : c ≤ 800000000) (hN : N < 9223372036854775808) (r : Int) (i2 c2 l2 : Nat) (hr : ((skp s N.toNat i c l).1 : Int) = r) (h2 : (skp s N.toNat i c l).2 = (i2, c2, l2)) :
    Calls Tryd.prog 9 #[.pointer (some ⟨g, 0, none⟩), .int .i64 N] w fun e w' => e = .returned (.int .i64 r) ∧ IsS41 w0 w' g s i2 c2 l2 ∧ Below w0.heap.size w0 w' ∧ KeepBut w w' g none := by
  obtain ⟨k, hk⟩ := (skip_ev s hs N hN i c l hf hc).rounds
  rw [hr, h2] at hk
  exact line_Cursor_Skip.calls k g s i c l N _ _ _ _ _ w0 w hI hB hk
theorem Col_at (g : Nat) (s : ByteArray) (i c l : Int) (w0 w : World) (hI : IsS41 w0 w g s i c l) (hB : Below w0.heap.size w0 w) :
    Calls Tryd.prog 10 #[.pointer (some ⟨g, 0, none⟩)] w fun e w' => e = .returned (.int .i64 c) ∧ IsS41 w0 w' g s i c l ∧ Below w0.heap.size w0 w' ∧ KeepBut w w' g none :=
  line_Cursor_Column.calls g s i c l _ _ _ _ _ w0 w hI hB rfl
/-- What is left of a line, as text. -/
def restS (s : ByteArray) (i l : Nat) : ByteArray := if 0 < l then ⟨(Lib.repeatL [32] l).toArray⟩ ++ s.extract (i + 1) s.size else s.extract i s.size
theorem rest_eq (s : ByteArray) (hs : s.size ≤ 1000000) (i c l : Nat) (hf : Fine s i c l) : line_Cursor_Rest.f s i c l = some (restS s i l, s, (i : Int), (c : Int), (l : Int)) := by
  obtain ⟨h1, h2, h3⟩ := hf
  unfold line_Cursor_Rest.f restS
  by_cases hl : 0 < l
  · rw [if_pos (by omega), if_pos ⟨by omega, by have := (h3 hl).1; omega, hs⟩, if_pos (by omega), if_pos hl]
    unfold strings_Repeat.f
    rw [if_pos ⟨by omega, by omega⟩, if_pos (by decide)]
    rfl
  · rw [if_neg (by omega), if_pos ⟨by omega, by omega⟩, if_neg hl]
    rfl
theorem Rest_at (g : Nat) (s : ByteArray) (i c l : Nat) (w0 w : World) (hI : IsS41 w0 w g s i c l) (hB : Below w0.heap.size w0 w) (hs : s.size ≤ 1000000) (hf : Fine s i c l) (r : ByteArray) (hr : restS s i l = r) :
    Calls Tryd.prog 11 #[.pointer (some ⟨g, 0, none⟩)] w fun e w' => e = .returned (.string r) ∧ IsS41 w0 w' g s i c l ∧ Below w0.heap.size w0 w' ∧ KeepBut w w' g none := by
  subst hr
  exact line_Cursor_Rest.calls g s i c l _ _ _ _ _ w0 w hI hB (rest_eq s hs i c l hf)
def wordS (s : ByteArray) (i : Nat) : ByteArray := ⟨(Lib.trimLeftS (s.extract i s.size).data.toList [32, 9]).toArray⟩
theorem word_eq (s : ByteArray) (i c l : Nat) (hf : Fine s i c l) : line_Cursor_Word.f s i c l = some (wordS s i, s, (i : Int), (c : Int), (l : Int)) := by
  have h1 := hf.1
  unfold line_Cursor_Word.f wordS strings_TrimLeft.f
  rw [if_pos ⟨by omega, by omega⟩, if_pos (by decide), if_pos (by decide)]
  rfl
theorem Word_at (g : Nat) (s : ByteArray) (i c l : Nat) (w0 w : World) (hI : IsS41 w0 w g s i c l) (hB : Below w0.heap.size w0 w) (hf : Fine s i c l) (r : ByteArray) (hr : wordS s i = r) :
    Calls Tryd.prog 12 #[.pointer (some ⟨g, 0, none⟩)] w fun e w' => e = .returned (.string r) ∧ IsS41 w0 w' g s i c l ∧ Below w0.heap.size w0 w' ∧ KeepBut w w' g none := by
  subst hr
  exact line_Cursor_Word.calls g s i c l _ _ _ _ _ w0 w hI hB (word_eq s i c l hf)
theorem IsS41.but {w0 W W1 : World} {g g2 : Nat} {s : ByteArray} {i c l : Int} (h : IsS41 w0 W g s i c l) (hk : KeepBut W W1 g2 none) (hne : g ≠ g2) : IsS41 w0 W1 g s i c l :=
  h.kept (Kept.of_keep (Kept.refl _ (fun k => k = g2)) hk (.inl rfl)) hne
theorem skp_cap (s : ByteArray) (n i c : Nat) (hf : Fine s i c 0) : (skp s n i c 0).2 = (skp s (min n (endC s i c 0 - c)) i c 0).2 := by
  by_cases h : n ≤ endC s i c 0 - c
  · rw [Nat.min_eq_left h]
  · rw [Nat.min_eq_right (by omega)]
    obtain ⟨a1, a2⟩ := skp_all s i n c 0 hf (by omega) (fun h => by omega)
    obtain ⟨b1, b2⟩ := skp_all s i (endC s i c 0 - c) c 0 hf (Nat.le_refl _) (fun h => by omega)
    obtain ⟨c1, c2, _, _⟩ := skp_spec s i n c 0 hf
    obtain ⟨d1, d2, _, _⟩ := skp_spec s i (endC s i c 0 - c) c 0 hf
    refine Prod.ext (by rw [a1, b1]) (Prod.ext ?_ (by rw [a2, b2]))
    rw [c2, d2, c1, d1]
    omega
theorem and7 (v : Int) : 0 ≤ Go.bits .and .i64 v 7 ∧ Go.bits .and .i64 v 7 ≤ 7 := by
  show 0 ≤ IntKind.i64.wrap ((BitVec.ofInt 64 v &&& BitVec.ofInt 64 7).toNat : Int) ∧ IntKind.i64.wrap ((BitVec.ofInt 64 v &&& BitVec.ofInt 64 7).toNat : Int) ≤ 7
  have h : (BitVec.ofInt 64 v &&& BitVec.ofInt 64 7).toNat ≤ 7 := by
    rw [BitVec.toNat_and]
    exact Nat.le_trans Nat.and_le_right (by decide)
  rw [IntWalk.i64_in _ (by omega)]
  omega
set_option maxHeartbeats 4000000 in
set_option maxRecDepth 100000 in
theorem parts_walk (s : ByteArray) (A : Option Addr) (cp : Nat) (l1 : List Int) (w : World) (hC : Kd.C (Kd.int .i64) w A l1.length l1) (hs : s.size ≤ 600) (hl : l1.length ≤ 200) :
    Calls Tryd.prog 3 #[.string s, .slice A l1.length cp] w fun e w' => e = .returned (.bool true) ∧ Below w.heap.size w w' := by
  obtain ⟨kk, hk⟩ := known_ev.rounds
  have HKN := Aside0.mk hk
  have hf0 : Fine s 0 0 0 := ⟨by omega, by omega, fun h => by omega⟩
  have HF0 := Aside0.mk hf0
  have HC := Aside0.mk hC
  have HS := Aside0.mk (show s.size ≤ 1000000 by omega)
  have HL := Aside0.mk (And.intro hs hl)
  have hIle := endC_le s 0 0 0 (by omega)
  obtain ⟨I, hI⟩ : ∃ I : Int, ((endC s 0 0 0 - 0 : Nat) : Int) = I := ⟨_, rfl⟩
  have HI := Aside0.mk hI
  have d1 : decide (600 < (s.size : Int)) = false := decide_eq_false (by omega)
  have d2 : decide (200 < (l1.length : Int)) = false := decide_eq_false (by omega)
  have HIb := Aside0.mk (show 0 ≤ I ∧ I ≤ 2400 by omega)
  clear hk hf0 hC hs hl hI hIle
  go_enter Tryd.func3, Tryd.ntmps3
  go_wp2_with (first | ((with_reducible refine gate_callee (f := 7) rfl ?_); refine goesL_ (some 19) rfl rfl Tryd.func7 (by kernel_rfl) rfl #[.string s] rfl (by (try simp only [List.map_toArray, List.map_cons, List.map_nil]); first | done | rfl) ?_; refine (line_Of.calls s s 0 0 0 w w (Below.refl _ _) rfl).mono ?_; rintro e w1 ⟨ga, rfl, h1, h2, h3⟩; refine ⟨_, rfl, ?_⟩; have Ha1 := Aside0.mk h1; have HB1 := Aside0.mk h2; clear h1 h2 h3) | ((with_reducible refine gate_callee (f := 7) rfl ?_); refine goesL_ (some 21) rfl rfl Tryd.func7 (by kernel_rfl) rfl #[.string s] rfl (by (try simp only [List.map_toArray, List.map_cons, List.map_nil]); first | done | rfl) ?_; refine (line_Of.calls s s 0 0 0 w1 w1 (Below.refl _ _) rfl).mono ?_; rintro e w2 ⟨gb, rfl, h1, h2, h3⟩; refine ⟨_, rfl, ?_⟩; have HNE := Aside0.mk (show ga ≠ gb from Nat.ne_of_lt (Nat.lt_of_lt_of_le (blk_lt Ha1.out.1) h1.2)); have Ha2 := Aside0.mk (Ha1.out.below h3); have Hb2 := Aside0.mk (show IsS41 w w2 gb s 0 0 0 from ⟨h1.1, Nat.le_trans HB1.out.size h1.2⟩); have HB2 := Aside0.mk (HB1.out.trans (h3.mono HB1.out.size)); clear h1 h2 h3) | ((with_reducible refine gate_callee (f := 8) rfl ?_); refine goesL_ (some 29) rfl rfl Tryd.func8 (by kernel_rfl) rfl #[.pointer (some ⟨ga, 0, none⟩)] rfl (by (try simp only [List.map_toArray, List.map_cons, List.map_nil]); first | done | rfl) ?_; refine (Ind_at ga s 0 0 0 w _ Ha2.out HB2.out HS.out HF0.out (by decide) I HI.out).mono ?_; rintro e w3 ⟨rfl, h1, h2, h3⟩; refine ⟨_, rfl, ?_⟩; have Ha3 := Aside0.mk h1; have HB3 := Aside0.mk h2; have Hb3 := Aside0.mk (Hb2.out.but h3 (Ne.symm HNE.out)); clear h1 h2 h3))
  go_loopw [8, 9] (fun v8 v9 wr => ∃ (j n i c l : Nat) (nn jj : Int), v8 = .int .i64 nn ∧ v9 = .int .i64 jj ∧ jj = (j : Int) ∧ nn = (n : Int) ∧ j ≤ l1.length ∧ Aside0 ((n : Int) ≤ I ∧ (skp s n 0 0 0).2 = (i, c, l)) ∧ Aside0 (IsS41 w wr ga s i c l) ∧ Aside0 (IsS41 w wr gb s ((0 : Nat) : Int) ((0 : Nat) : Int) ((0 : Nat) : Int)) ∧ Aside0 (Below w.heap.size w wr)) (fun _ v9 _ => l1.length - (intOf v9).toNat)
  case atStart =>
    exact ⟨0, 0, 0, 0, 0, 0, 0, rfl, rfl, rfl, rfl, Nat.zero_le _, ⟨HIb.out.1, by rw [skp_stop (by simp)]⟩, Ha3, Hb3, HB3⟩
  case round =>
    clear Ha3 Hb3 HB3 Ha2 Hb2 HB2 Ha1 HB1
    obtain ⟨j, n, i, c, l, nn, jj, rfl, rfl, hjj, hnn, hj, HST, Ha4, Hb4, HB4⟩ := hrel
    obtain ⟨t1, t2, t3, t4⟩ := skp_spec s 0 n 0 0 HF0.out
    rw [HST.out.2] at t2 t3 t4
    simp only at t2 t3 t4
    have hIv := HI.out
    have hIb := HIb.out
    have hnI := HST.out.1
    have hcn : c = n := by omega
    by_cases hlt : jj < (l1.length : Int)
    · have dlt : decide (jj < (l1.length : Int)) = true := decide_eq_true hlt
      have p0 : 0 ≤ jj := by omega
      have dj : decide (0 ≤ jj) = true := decide_eq_true p0
      obtain ⟨ad, ead, hx⟩ := Kd.at_int (Kd.C_below HC.out HB4.out) jj p0 hlt
      cases ead
      obtain ⟨pv, hpv⟩ : ∃ x, rd l1 jj = x := ⟨_, rfl⟩
      rw [hpv] at hx
      have ma := and7 pv
      obtain ⟨m, hm⟩ : ∃ x, Go.bits .and .i64 pv 7 = x := ⟨_, rfl⟩
      rw [hm] at ma
      obtain ⟨u1, u2, u3, u4⟩ := skp_spec s i m.toNat c l t3
      have hadd := skp_add s 0 n m.toNat 0 0 HF0.out
      rw [HST.out.2] at hadd
      have hcap := skp_cap s (n + m.toNat) 0 0 HF0.out
      obtain ⟨⟨i2, c2, l2⟩, hst2⟩ : ∃ x, (skp s m.toNat i c l).2 = x := ⟨_, rfl⟩
      obtain ⟨gone, hgone⟩ : ∃ x : Int, ((skp s m.toNat i c l).1 : Int) = x := ⟨_, rfl⟩
      rw [hst2] at u2 u3 u4
      simp only at u2 u3 u4
      obtain ⟨nn2, hnn2⟩ : ∃ x : Int, wrap64 (nn + gone) = x := ⟨_, rfl⟩
      have hn2 : nn2 = ((n + (skp s m.toNat i c l).1 : Nat) : Int) := by
        rw [← hnn2]
        unfold wrap64
        omega
      have hw2 : wrap64 (I - nn2) = I - nn2 := by unfold wrap64; omega
      have t5 : wrap64 (jj + 1) = jj + 1 := by unfold wrap64; have := HL.out; omega
      have HF := Aside0.mk (show Fine s i c l ∧ c ≤ 800000000 ∧ m < 9223372036854775808 ∧ True from ⟨t3, by omega, by omega, trivial⟩)
      have HG := Aside0.mk (show ((skp s m.toNat i c l).1 : Int) = gone ∧ (skp s m.toNat i c l).2 = (i2, c2, l2) ∧ Fine s i2 c2 l2 ∧ c2 ≤ 800000000 ∧ ((endC s i2 c2 l2 - c2 : Nat) : Int) = I - nn2 from ⟨hgone, hst2, u3, by omega, by rw [u4, t4]; omega⟩)
      have HCC := Aside0.mk (show ((c2 : Nat) : Int) = nn2 by omega)
      have HN2 := Aside0.mk (show ∃ n2 : Nat, nn2 = (n2 : Int) ∧ (n2 : Int) ≤ I ∧ (skp s n2 0 0 0).2 = (i2, c2, l2) from ⟨n + (skp s m.toNat i c l).1, hn2, by omega, by
        rw [← hst2]
        simp only at hadd
        rw [← hadd, hcap]
        congr 2
        omega⟩)
      have HJ := Aside0.mk (And.intro hjj hlt)
      have dx1 : ((I - nn2) != (I - nn2)) = false := by simp
      have dx2 : (nn2 != nn2) = false := by simp
      have q0 := eq_true hlt
      clear ma hpv t1 t2 t3 t4 u1 u2 u3 u4 hadd hcap hst2 hgone hn2 hIv hIb hnI hcn hlt hnn hj hjj
      replace p0 := eq_true p0
      go_wp2_with (first | ((with_reducible refine gate_callee (f := 9) rfl ?_); refine goesL_ (some 43) rfl rfl Tryd.func9 (by kernel_rfl) rfl #[.pointer (some ⟨ga, 0, none⟩), .int .i64 m] rfl (by (try simp only [List.map_toArray, List.map_cons, List.map_nil]); first | done | rfl) ?_; refine (Skip_at ga s i c l m w _ Ha4.out HB4.out HS.out HF.out.1 HF.out.2.1 HF.out.2.2.1 gone i2 c2 l2 HG.out.1 HG.out.2.1).mono ?_; rintro e w5 ⟨rfl, h1, h2, h3⟩; refine ⟨_, rfl, ?_⟩; have Ha5 := Aside0.mk h1; have HB5 := Aside0.mk h2; have Hb5 := Aside0.mk (Hb4.out.but h3 (Ne.symm HNE.out)); clear h1 h2 h3) | ((with_reducible refine gate_callee (f := 8) rfl ?_); refine goesL_ (some 46) rfl rfl Tryd.func8 (by kernel_rfl) rfl #[.pointer (some ⟨ga, 0, none⟩)] rfl (by (try simp only [List.map_toArray, List.map_cons, List.map_nil]); first | done | rfl) ?_; refine (Ind_at ga s i2 c2 l2 w _ Ha5.out HB5.out HS.out HG.out.2.2.1 HG.out.2.2.2.1 (I - nn2) HG.out.2.2.2.2).mono ?_; rintro e w6 ⟨rfl, h1, h2, h3⟩; refine ⟨_, rfl, ?_⟩; have Ha6 := Aside0.mk h1; have HB6 := Aside0.mk h2; have Hb6 := Aside0.mk (Hb5.out.but h3 (Ne.symm HNE.out)); clear h1 h2 h3) | ((with_reducible refine gate_callee (f := 10) rfl ?_); refine gate_guard (by rfl) ?_; dsimp only; refine goesL_ (some 53) rfl rfl Tryd.func10 (by kernel_rfl) rfl #[.pointer (some ⟨ga, 0, none⟩)] rfl (by (try simp only [List.map_toArray, List.map_cons, List.map_nil]); first | done | rfl) ?_; refine (Col_at ga s i2 nn2 l2 w _ (HCC.out ▸ Ha6.out) HB6.out).mono ?_; rintro e w7 ⟨rfl, h1, h2, h3⟩; refine ⟨_, rfl, ?_⟩; have Ha7 := Aside0.mk h1; have HB7 := Aside0.mk h2; have Hb7 := Aside0.mk (Hb6.out.but h3 (Ne.symm HNE.out)); clear h1 h2 h3))
      go_roundw
      case rel =>
        obtain ⟨n2, y1, y2, y3⟩ := HN2.out
        have hcc := HCC.out
        refine ⟨j + 1, n2, i2, c2, l2, nn2, _, rfl, rfl, by have := HJ.out; rw [t5]; omega, y1, by have := HJ.out; omega, ⟨y2, y3⟩, ?_, Hb7, HB7⟩
        rw [hcc]
        exact Ha7
      case measure =>
        have := HJ.out
        simp [intOf, t5]
        omega
    · have dlt : decide (jj < (l1.length : Int)) = false := decide_eq_false hlt
      have HF := Aside0.mk (show Fine s i c l ∧ True from ⟨t3, trivial⟩)
      have HNN := Aside0.mk (show nn < 9223372036854775808 ∧ ((skp s nn.toNat 0 0 0).1 : Int) = nn ∧ (skp s nn.toNat 0 0 0).2 = (i, c, l) from ⟨by omega, by rw [show nn.toNat = n by omega]; omega, by rw [show nn.toNat = n by omega]; exact HST.out.2⟩)
      obtain ⟨R, hR⟩ : ∃ R, restS s i l = R := ⟨_, rfl⟩
      obtain ⟨V, hV⟩ : ∃ V, wordS s i = V := ⟨_, rfl⟩
      have HR := Aside0.mk hR
      have HV := Aside0.mk hV
      have dx : (nn != nn) = false := by simp
      clear hR hV t1 t2 t3 t4 hIv hIb hnI hcn hlt hnn hj hjj
      go_wp2_with (first | ((with_reducible refine gate_callee (f := 9) rfl ?_); refine goesL_ (some 59) rfl rfl Tryd.func9 (by kernel_rfl) rfl #[.pointer (some ⟨gb, 0, none⟩), .int .i64 nn] rfl (by (try simp only [List.map_toArray, List.map_cons, List.map_nil]); first | done | rfl) ?_; refine (Skip_at gb s 0 0 0 nn w _ Hb4.out HB4.out HS.out HF0.out (by decide) HNN.out.1 nn i c l HNN.out.2.1 HNN.out.2.2).mono ?_; rintro e w5 ⟨rfl, h1, h2, h3⟩; refine ⟨_, rfl, ?_⟩; have Hb5 := Aside0.mk h1; have HB5 := Aside0.mk h2; have Ha5 := Aside0.mk (Ha4.out.but h3 HNE.out); clear h1 h2 h3) | ((with_reducible refine gate_callee (f := 11) rfl ?_); refine goesL_ (some 63) rfl rfl Tryd.func11 (by kernel_rfl) rfl #[.pointer (some ⟨ga, 0, none⟩)] rfl (by (try simp only [List.map_toArray, List.map_cons, List.map_nil]); first | done | rfl) ?_; refine (Rest_at ga s i c l w _ Ha5.out HB5.out HS.out HF.out.1 R HR.out).mono ?_; rintro e w6 ⟨rfl, h1, h2, h3⟩; refine ⟨_, rfl, ?_⟩; have Ha6 := Aside0.mk h1; have HB6 := Aside0.mk h2; have Hb6 := Aside0.mk (Hb5.out.but h3 (Ne.symm HNE.out)); clear h1 h2 h3) | ((with_reducible refine gate_callee (f := 11) rfl ?_); refine goesL_ (some 65) rfl rfl Tryd.func11 (by kernel_rfl) rfl #[.pointer (some ⟨gb, 0, none⟩)] rfl (by (try simp only [List.map_toArray, List.map_cons, List.map_nil]); first | done | rfl) ?_; refine (Rest_at gb s i c l w _ Hb6.out HB6.out HS.out HF.out.1 R HR.out).mono ?_; rintro e w7 ⟨rfl, h1, h2, h3⟩; refine ⟨_, rfl, ?_⟩; have Hb7 := Aside0.mk h1; have HB7 := Aside0.mk h2; have Ha7 := Aside0.mk (Ha6.out.but h3 HNE.out); clear h1 h2 h3) | ((with_reducible refine gate_callee (f := 12) rfl ?_); refine gate_guard (by rfl) ?_; dsimp only; refine goesL_ (some 69) rfl rfl Tryd.func12 (by kernel_rfl) rfl #[.pointer (some ⟨ga, 0, none⟩)] rfl (by (try simp only [List.map_toArray, List.map_cons, List.map_nil]); first | done | rfl) ?_; refine (Word_at ga s i c l w _ Ha7.out HB7.out HF.out.1 V HV.out).mono ?_; rintro e w8 ⟨rfl, h1, h2, h3⟩; refine ⟨_, rfl, ?_⟩; have Ha8 := Aside0.mk h1; have HB8 := Aside0.mk h2; have Hb8 := Aside0.mk (Hb7.out.but h3 (Ne.symm HNE.out)); clear h1 h2 h3) | ((with_reducible refine gate_callee (f := 12) rfl ?_); refine gate_guard (by rfl) ?_; dsimp only; refine goesL_ (some 71) rfl rfl Tryd.func12 (by kernel_rfl) rfl #[.pointer (some ⟨gb, 0, none⟩)] rfl (by (try simp only [List.map_toArray, List.map_cons, List.map_nil]); first | done | rfl) ?_; refine (Word_at gb s i c l w _ Hb8.out HB8.out HF.out.1 V HV.out).mono ?_; rintro e w9 ⟨rfl, h1, h2, h3⟩; refine ⟨_, rfl, ?_⟩; have Hb9 := Aside0.mk h1; have HB9 := Aside0.mk h2; have Ha9 := Aside0.mk (Ha8.out.but h3 HNE.out); clear h1 h2 h3) | ((with_reducible refine gate_callee (f := 13) rfl ?_); refine gate_guard (by rfl) ?_; dsimp only; refine goesL_ (some 75) rfl rfl Tryd.func13 (by kernel_rfl) rfl #[] rfl (by (try simp only [List.map_toArray, List.map_cons, List.map_nil]); first | done | rfl) ?_; refine (rubricatorlaw17_known.calls kk true _ HKN.out).mono ?_; rintro e wA ⟨rfl, hd⟩; refine ⟨_, rfl, ?_⟩; have HBA := Aside0.mk (HB9.out.trans (hd.mono HB9.out.size)); clear hd) | (go_at_call 13; refine (rubricatorlaw17_known.calls kk true _ HKN.out).mono ?_; rintro e wA ⟨rfl, hd⟩; have HBA := Aside0.mk (HB9.out.trans (hd.mono HB9.out.size)); clear hd))
      go_ret
      exact ⟨rfl, HBA.out⟩
theorem parts_out (s : ByteArray) (A : Option Addr) (cp : Nat) (l1 : List Int) (w : World) (h : 600 < s.size ∨ 200 < l1.length) :
    Calls Tryd.prog 3 #[.string s, .slice A l1.length cp] w fun e w' => e = .returned (.bool true) ∧ Below w.heap.size w w' := by
  by_cases h1 : 600 < (s.size : Int)
  · have d1 : decide (600 < (s.size : Int)) = true := decide_eq_true h1
    clear h h1
    go_enter Tryd.func3, Tryd.ntmps3
    go_wp2
    go_ret
    exact ⟨rfl, Below.refl _ _⟩
  · have d1 : decide (600 < (s.size : Int)) = false := decide_eq_false h1
    have d2 : decide (200 < (l1.length : Int)) = true := decide_eq_true (by omega)
    clear h h1
    go_enter Tryd.func3, Tryd.ntmps3
    go_wp2
    go_ret
    exact ⟨rfl, Below.refl _ _⟩
theorem rubricatorlaw17_LineParts.walk (s : ByteArray) (A : Option Addr) (cp : Nat) (l1 : List Int) (w : World) (_ : s.size ≤ 140737488351232) (hC : Kd.C (Kd.int .i64) w A l1.length l1) (_ : l1.length ≤ cp) (_ : l1.length ≤ maxLen) (_ : l1.length * 8 ≤ 140737488351232) (_ : ∀ x ∈ l1, (Lit.int .i64 x).wf = true) :
    Calls Tryd.prog 3 #[.string s, .slice A l1.length cp] w fun e w' => e = .returned (.bool true) ∧ Below w.heap.size w w' := by
  by_cases h : 600 < s.size ∨ 200 < l1.length
  · exact parts_out s A cp l1 w h
  · exact parts_walk s A cp l1 w hC (by omega) (by omega)
end Go.Proofs.YtbhopjcicdjjpaaDoor.PA
