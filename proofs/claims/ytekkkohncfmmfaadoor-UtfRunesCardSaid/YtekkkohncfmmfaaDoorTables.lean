/- UtfRepairs, UtfValid, UtfRunes: the walks, over the two tables as they are laid. No conditions. -/
import Derived.Test.YtekkkohncfmmfaaDoorWalk
import Derived.Test.YtekkkohncfmmfaaDoorDec
import Derived.Test.YtekkkohncfmmfaaDoorAid
namespace Go.Proofs.YtekkkohncfmmfaaDoor.PA
open Go.Proofs.YtekkkohncfmmfaaDoor.Rune Go.Proofs.YtekkkohncfmmfaaDoorDec Go.RowKit Go.Proofs.YtekkkohncfmmfaaDoorW.PrintWords Go.Proofs.YtekkkohncfmmfaaDoorW.PrintLast Go.Proofs.YtekkkohncfmmfaaDoorW.PrintMore
set_option linter.unusedVariables false
set_option linter.unusedSimpArgs false
theorem bind_to {α β : Type} {o : Option α} {x : α} {f : α → Option β} {r : Option β} (h : o = some x) (h2 : f x = r) : o.bind f = r := by subst h; exact h2
theorem if_to {α : Type} {c : Prop} [Decidable c] {a b r : α} (h : c) (h2 : a = r) : (if c then a else b) = r := by rw [if_pos h]; exact h2
theorem Rem.mk_ {w : World} {A : Option Addr} {c : Nat} {s : ByteArray} (hC : Kd.C (Kd.int .u8) w A (bytesOf s).length (bytesOf s)) (hc : (bytesOf s).length ≤ c) : Rem w A s.size c s := by
  rw [bytesOf_length] at hC hc
  exact ⟨hC, rfl, hc⟩
theorem Rem.conv {w : World} {A : Option Addr} {n c : Nat} {s : ByteArray} (h : Rem w A n c s) : (convert 22 9 (.slice A n c)).run Tryd.prog w = .ok (.string s) w := by
  have h1 := Kd.C_string (P := Tryd.prog) (A := A) (c := c) Tryd.underlying22 Tryd.underlying5 Tryd.underlying9 h.cs
  rw [nums_back] at h1
  exact h1
theorem Rem.fresh (W : World) (s : ByteArray) (hs : s.size ≤ 140737488351232) : Rem (Lib.bytesWorld W 5 s) (some ⟨W.heap.size, 0, none⟩) s.size (grownCap W s.size 0 5) s :=
  ⟨Kd.C_of_reads (d := (0 : Int)) (h1 := fun _ => rfl) (bytes_reads W 5 s (by omega)), rfl, grownCap_ge _ _ _ _⟩
theorem Rem.front {w : World} {A : Option Addr} {n m c : Nat} {s : ByteArray} {b : UInt8} (h : Rem w A m c (s.push b)) (hn : s.size = n) : (∀ W : World, (Instr.slice 22 (.slice A m c) none (some (.int .i64 (n : Int))) none).run Tryd.prog W = .ok (.slice A n c) W) ∧ Rem w A n c s := by
  have hz := h.sz
  have hle := h.le
  have hpl : (s.push b).size = s.size + 1 := by simp
  have hm : m = n + 1 := by omega
  have hb : bytesOf (s.push b) = bytesOf s ++ [(b.toNat : Int)] := by simp [bytesOf]
  have hbl := bytesOf_length (s.push b)
  have hbs := bytesOf_length s
  obtain ⟨i, hi, _, hsz, _⟩ := info_parts infoE
  obtain ⟨h1, h2, h3⟩ := print_take_of (P := Tryd.prog) (Value.int .u8) 0 22 5 .i64 Tryd.underlying22 hi hsz A c (bytesOf (s.push b)) (n : Int) (by omega) (by rw [hbl]; omega) (by rw [hbl]; omega)
  have ht : (bytesOf (s.push b)).take (n : Int).toNat = bytesOf s := by
    rw [hb, Int.toNat_natCast, show n = (bytesOf s).length by omega]
    simp
  have hr : ReadsOf (Value.int .u8) 0 w A (bytesOf (s.push b)).length (bytesOf (s.push b)) := by
    rw [show (bytesOf (s.push b)).length = m by omega]
    exact Kd.reads_of_C h.cs
  have h4 := h2 w hr
  rw [ht] at h1 h4 h3
  rw [show (bytesOf (s.push b)).length = m by omega, hbs, hn] at h1
  rw [hbs, hn] at h4
  exact ⟨h1, ⟨Kd.C_of_reads (d := (0 : Int)) (h1 := fun _ => rfl) h4, hn, by omega⟩⟩
theorem Repair_at {w : World} {A : Option Addr} {n c : Nat} {s out : ByteArray} (h : Rem w A n c s) (ho : utf_Repair.f (bytesOf s) = some out) : Calls Tryd.prog 7 #[.slice A n c] w fun e w' => e = .returned (.string out) ∧ Below w.heap.size w w' := by
  obtain ⟨h1, h2, h3⟩ := h
  rw [← bytesOf_length s] at h2
  subst h2
  exact utf_Repair.calls A c (bytesOf s) out w h1 h3 ho
theorem Roomy_at {w : World} {A : Option Addr} {n c : Nat} {s : ByteArray} (h : Rem w A n c s) (hs : n ≤ 3000) : Calls Tryd.prog 6 #[.slice A n c] w fun e w' => ∃ A1 c1, e = .returned (.slice A1 (n + 1) c1) ∧ Rem w' A1 (n + 1) c1 (s.push 171) ∧ Below w.heap.size w w' := by
  obtain ⟨h1, h2, h3⟩ := h
  rw [← bytesOf_length s] at h2
  subst h2
  have hl := bytesOf_length s
  have hb : bytesOf (s.push 171) = bytesOf s ++ [171] := by simp [bytesOf]
  have hf : rubricatorlaw7_roomy.f (bytesOf s) = some (bytesOf (s.push 171)) := by
    rw [hb]
    have e : wrap64 (((bytesOf s).length : Int) + 1) = ((bytesOf s).length : Int) + 1 := by unfold wrap64; omega
    unfold rubricatorlaw7_roomy.f
    rw [e]
    generalize bytesOf s = l at *
    clear hb h1 h3 e hl
    refine bind_to rfl ?_
    refine if_to (by simp; omega) (bind_to rfl ?_)
    refine if_to (by simp; omega) (bind_to rfl ?_)
    refine if_to (by simp; omega) (bind_to rfl ?_)
    repeat (refine if_to (by first | omega | (simp; omega)) ?_)
    have e2 : ((l.length : Int) + 1).toNat = l.length + 1 := by omega
    rw [e2, List.nil_append, List.take_left' (by simp)]
    first | done | exact if_pos (by simp) | exact if_pos (by simp; omega)
  refine (rubricatorlaw7_roomy.calls A c (bytesOf s) _ w h1 h3 hf).mono ?_
  rintro e w1 ⟨v, rfl, hR, hB⟩
  obtain ⟨A1, c1, rfl, hle, hC⟩ := Kd.R_reads hR
  rw [bytesOf_length] at hC hle
  have hp : (s.push 171).size = (bytesOf s).length + 1 := by simp [hl]
  rw [hp] at hC hle
  refine ⟨A1, c1, ?_, ⟨hC, hp, hle⟩, hB⟩
  rw [bytesOf_length, hp]
theorem Stands_at {w : World} {A A1 : Option Addr} {n m c c1 : Nat} {s : ByteArray} {k : Nat} (h : Rem w A1 m c1 (s.push 171)) (h2 : Rem w A n c s) (hf : rubricatorlaw7_stands.f k (bytesOf (s.push 171)) (bytesOf s) = some true) : Calls Tryd.prog 9 #[.slice A1 m c1, .slice A n c] w fun e w' => e = .returned (.bool true) ∧ Drawn0 w w' := by
  obtain ⟨a1, a2, a3⟩ := h
  obtain ⟨b1, b2, b3⟩ := h2
  rw [← bytesOf_length] at a2 b2
  subst a2 b2
  exact rubricatorlaw7_stands.calls k A1 c1 _ A c _ true w a1 a3 b1 b3 hf
set_option maxHeartbeats 1000000 in
theorem utf_Valid.calls (A : Option Addr) (c : Nat) (s : ByteArray) (n : Nat) (w : World) (hR : Rem w A n c s) (hT : Lib.Utf8Tabs 0 1 w) (r : Bool) (hv : V s = r) :
    Calls Tryd.prog 10 #[.slice A n c] w fun e w' => e = .returned (.bool r) ∧ Below w.heap.size w w' := by
  have HT := Aside0.mk hT
  have HR := Aside0.mk hR
  have HV := Aside0.mk hv
  clear hR hT hv
  go_enter Tryd.func10, Tryd.ntmps10
  go_wp2_with ((with_reducible refine gate_callee (f := 20) rfl ?_); refine goesL_ (some 4) rfl rfl Tryd.func20 (by kernel_rfl) rfl #[.slice A n c] rfl (by (try simp only [List.map_toArray, List.map_cons, List.map_nil]); first | done | rfl) ?_; refine (utf8_Valid.calls A c s n w HR.out HT.out r HV.out).mono ?_; rintro e w1 ⟨rfl, hd⟩; refine ⟨_, rfl, ?_⟩; have HB1 := Aside0.mk hd; clear hd)
  go_ret
  exact ⟨rfl, HB1.out⟩
theorem law_out (f : Nat) (A : Option Addr) (ca : Nat) (n : Nat) (w : World) (h : 3000 < n) (hf : f = 3 ∨ f = 4) :
    Calls Tryd.prog f #[.slice A n ca] w fun e w' => e = .returned (.bool true) ∧ Below w.heap.size w w' := by
  have d1 : decide (3000 < (n : Int)) = true := decide_eq_true (by omega)
  clear h
  rcases hf with rfl | rfl
  · go_enter Tryd.func3, Tryd.ntmps3
    go_wp2
    go_ret
    exact ⟨rfl, Below.refl _ _⟩
  · go_enter Tryd.func4, Tryd.ntmps4
    go_wp2
    go_ret
    exact ⟨rfl, Below.refl _ _⟩
set_option maxHeartbeats 4000000 in
set_option maxRecDepth 100000 in
theorem repairs_walk (s S : ByteArray) (A : Option Addr) (ca n : Nat) (w : World) (kk : Nat) (hR : Rem w A n ca s) (hT : Lib.Utf8Tabs 0 1 w) (hn : n ≤ 3000) (hSs : S.size ≤ 140737488351232) (hS : utf_Repair.f (bytesOf s) = some S) (hS2 : utf_Repair.f (bytesOf S) = some S) (hV : V S = true)
    (hK : rubricatorref7_Repair.f kk s = some S ∧ rubricatorlaw7_stands.f kk (bytesOf (s.push 171)) (bytesOf s) = some true ∧ rubricatorlaw7_known.f = some true) :
    Calls Tryd.prog 3 #[.slice A n ca] w fun e w' => e = .returned (.bool true) ∧ Below w.heap.size w w' := by
  have HZ := Aside0.mk hR.sz
  have HR0 := Aside0.mk hR
  have HT := Aside0.mk hT
  have HN := Aside0.mk hn
  have HSs := Aside0.mk hSs
  have HS := Aside0.mk hS
  have HS2 := Aside0.mk hS2
  have HV := Aside0.mk hV
  have HK := Aside0.mk hK
  have d1 : decide (3000 < (n : Int)) = false := decide_eq_false (by omega)
  clear hR hT hn hSs hS hS2 hV hK
  go_enter Tryd.func3, Tryd.ntmps3
  go_wp2_with (first | ((with_reducible refine gate_callee (f := 6) rfl ?_); refine goesL_ (some 9) rfl rfl Tryd.func6 (by kernel_rfl) rfl #[.slice A n ca] rfl (by (try simp only [List.map_toArray, List.map_cons, List.map_nil]); first | done | rfl) ?_; refine (Roomy_at HR0.out HN.out).mono ?_; rintro e w1 ⟨A1, c1, rfl, hr, hd⟩; refine ⟨_, rfl, ?_⟩; have HB1 := Aside0.mk hd; have HR1 := Aside0.mk (HR0.out.below hd); have HW1 := Aside0.mk hr; obtain ⟨hcut, hfr⟩ := hr.front HZ.out; have HF1 := Aside0.mk hfr; clear hd hr hfr) | ((with_reducible refine gate_callee (f := 7) rfl ?_); refine goesL_ (some 14) rfl rfl Tryd.func7 (by kernel_rfl) rfl #[.slice A1 n c1] rfl (by (try simp only [List.map_toArray, List.map_cons, List.map_nil]); first | done | rfl) ?_; refine (Repair_at HF1.out HS.out).mono ?_; rintro e w2 ⟨rfl, hd⟩; refine ⟨_, rfl, ?_⟩; have HB2 := Aside0.mk (HB1.out.trans (hd.mono HB1.out.size)); have HR2 := Aside0.mk (HR1.out.below hd); have HW2 := Aside0.mk (HW1.out.below hd); have hcv := HR2.out.conv; clear hd) | ((with_reducible refine gate_callee (f := 8) rfl ?_); refine goesL_ (some 18) rfl rfl Tryd.func8 (by kernel_rfl) rfl #[.string s] rfl (by (try simp only [List.map_toArray, List.map_cons, List.map_nil]); first | done | rfl) ?_; refine (rubricatorref7_Repair.calls kk s S w2 HK.out.1).mono ?_; rintro e w3 ⟨rfl, hd⟩; refine ⟨_, rfl, ?_⟩; have HB3 := Aside0.mk (HB2.out.trans (hd.mono HB2.out.size)); have HR3 := Aside0.mk (HR2.out.below hd); have HW3 := Aside0.mk (HW2.out.below hd); clear hd) | ((with_reducible refine gate_callee (f := 9) rfl ?_); refine gate_guard (by rfl) ?_; dsimp only; refine goesL_ (some 23) rfl rfl Tryd.func9 (by kernel_rfl) rfl #[.slice A1 (n + 1) c1, .slice A n ca] rfl (by (try simp only [List.map_toArray, List.map_cons, List.map_nil]); first | done | rfl) ?_; refine (Stands_at HW3.out HR3.out HK.out.2.1).mono ?_; rintro e w4 ⟨rfl, hd⟩; refine ⟨_, rfl, ?_⟩; have HB4 := Aside0.mk (HB3.out.trans (hd.below.mono HB3.out.size)); have kb4 := print_bytes (P := Tryd.prog) 9 22 5 Tryd.underlying9 Tryd.underlying22 Tryd.underlying5 S w4; have HM4 := Aside0.mk (Rem.fresh w4 S HSs.out); have HBm := Aside0.mk (bytes_below (Below.refl w4.heap.size w4) (Nat.le_refl _) 5 S); clear hd) | ((with_reducible refine gate_callee (f := 7) rfl ?_); refine gate_guard (by rfl) ?_; dsimp only; refine goesL_ (some 28) rfl rfl Tryd.func7 (by kernel_rfl) rfl #[.slice (some ⟨w4.heap.size, 0, none⟩) S.size (grownCap w4 S.size 0 5)] rfl (by (try simp only [List.map_toArray, List.map_cons, List.map_nil]); first | done | rfl) ?_; refine (Repair_at HM4.out HS2.out).mono ?_; rintro e w5 ⟨rfl, hd⟩; refine ⟨_, rfl, ?_⟩; have HB5 := Aside0.mk (HB4.out.trans ((HBm.out.trans (hd.mono HBm.out.size)).mono HB4.out.size)); have kb5 := print_bytes (P := Tryd.prog) 9 22 5 Tryd.underlying9 Tryd.underlying22 Tryd.underlying5 S w5; have HM5 := Aside0.mk (Rem.fresh w5 S HSs.out); have HBn := Aside0.mk (bytes_below (Below.refl w5.heap.size w5) (Nat.le_refl _) 5 S); clear hd) | ((with_reducible refine gate_callee (f := 10) rfl ?_); refine gate_guard (by rfl) ?_; dsimp only; refine goesL_ (some 35) rfl rfl Tryd.func10 (by kernel_rfl) rfl #[.slice (some ⟨w5.heap.size, 0, none⟩) S.size (grownCap w5 S.size 0 5)] rfl (by (try simp only [List.map_toArray, List.map_cons, List.map_nil]); first | done | rfl) ?_; refine (utf_Valid.calls _ _ S _ _ HM5.out (Tabs.below HT.out (HB5.out.trans (HBn.out.mono HB5.out.size))) true HV.out).mono ?_; rintro e w6 ⟨rfl, hd⟩; refine ⟨_, rfl, ?_⟩; have HB6 := Aside0.mk (HB5.out.trans ((HBn.out.trans (hd.mono HBn.out.size)).mono HB5.out.size)); clear hd) | ((with_reducible refine gate_callee (f := 11) rfl ?_); refine gate_guard (by rfl) ?_; dsimp only; refine goesL_ (some 38) rfl rfl Tryd.func11 (by kernel_rfl) rfl #[] rfl (by (try simp only [List.map_toArray, List.map_cons, List.map_nil]); first | done | rfl) ?_; refine (rubricatorlaw7_known.calls true w6 HK.out.2.2).mono ?_; rintro e w7 ⟨rfl, hd⟩; refine ⟨_, rfl, ?_⟩; have HB7 := Aside0.mk (HB6.out.trans (hd.mono HB6.out.size)); clear hd))
  go_ret
  exact ⟨rfl, HB7.out⟩
set_option maxHeartbeats 4000000 in
set_option maxRecDepth 100000 in
theorem valid_walk (s : ByteArray) (A : Option Addr) (ca n m : Nat) (rV : Bool) (rs : List Int) (w : World) (kk : Nat) (hR : Rem w A n ca s) (hT : Lib.Utf8Tabs 0 1 w) (hn : n ≤ 3000) (hV : V s = rV) (hl : rs.length = m)
    (hK : rubricatorref7_Valid.f kk s = some rV ∧ utf_Count.f s = some (m : Int) ∧ rubricatorref7_Runes.f kk s = some rs ∧ rubricatorlaw7_known.f = some true) :
    Calls Tryd.prog 4 #[.slice A n ca] w fun e w' => e = .returned (.bool true) ∧ Below w.heap.size w w' := by
  have HZ := Aside0.mk hR.sz
  have HR0 := Aside0.mk hR
  have HT := Aside0.mk hT
  have HN := Aside0.mk hn
  have HV := Aside0.mk hV
  have HL := Aside0.mk hl
  have HK := Aside0.mk hK
  have d1 : decide (3000 < (n : Int)) = false := decide_eq_false (by omega)
  have dd : (rV == rV) = true := by simp
  have dm : ((m : Int) == (m : Int)) = true := by simp
  have cv := hR.conv
  have cvd := (hR.drawn ⟨⟨1, rfl⟩⟩).conv
  have cvd2 : (convert 22 9 (.slice A n ca)).run Tryd.prog w.drew = .ok (.string s) w.drew := cvd
  clear hR hT hn hV hK hl
  go_enter Tryd.func4, Tryd.ntmps4
  go_wp2
  go_region_with (first | (go_at_call 10; refine (utf_Valid.calls A ca s n _ (by first | exact HR0.out | exact HR0.out.drawn ⟨⟨_, rfl⟩⟩) (by first | exact HT.out | exact Tabs.below HT.out (by exact (Below.refl _ _).drew)) rV HV.out).mono ?_; rintro e w1 ⟨rfl, hd⟩; have HB1 := Aside0.mk (show Below w.heap.size w w1 from by first | exact hd | exact Below.trans (by exact (Below.refl _ _).drew) hd); have HR1 := Aside0.mk (HR0.out.below HB1.out); have cv1 := HR1.out.conv; clear hd) | (go_at_call 12; refine (rubricatorref7_Valid.calls kk s rV _ HK.out.1).mono ?_; rintro e w2 ⟨rfl, hd⟩; have HB2 := Aside0.mk (HB1.out.trans (hd.below.mono HB1.out.size)); have HR2 := Aside0.mk (HR1.out.below hd.below); have cv2 := HR2.out.conv; clear hd) | (go_at_call 13; refine (utf_Count.calls s (m : Int) _ HK.out.2.1).mono ?_; rintro e w3 ⟨rfl, hd⟩; have HB3 := Aside0.mk (HB2.out.trans (hd.mono HB2.out.size)); have HR3 := Aside0.mk (HR2.out.below hd); have cv3 := HR3.out.conv; clear hd) | (go_at_call 14; refine (rubricatorref7_Runes.calls kk s rs _ HK.out.2.2.1).mono ?_; rintro e w4 ⟨v4, rfl, hR4, hd⟩; obtain ⟨A4, c4, rfl, _, _⟩ := Kd.R_reads hR4; rw [HL.out]; have HB4 := Aside0.mk (HB3.out.trans (hd.mono HB3.out.size)); clear hd hR4) | (go_at_call 11; refine (rubricatorlaw7_known.calls true _ HK.out.2.2.2).mono ?_; rintro e w5 ⟨rfl, hd⟩; have HB5 := Aside0.mk (HB4.out.trans (hd.mono HB4.out.size)); clear hd))
  all_goals
    go_wp2
    go_ret
    exact ⟨rfl, HB5.out⟩
set_option maxHeartbeats 4000000 in
set_option maxRecDepth 100000 in
theorem runes_walk (a : Int) (s C W0 : ByteArray) (n : Nat) (rC : Bool) (w : World) (kk : Nat) (hT : Lib.Utf8Tabs 0 1 w) (hn : s.size = n + 1) (hn4 : n ≤ 4) (hC : s.extract 0 n = C) (hW : (if a = 0 then (⟨#[239, 191, 189]⟩ : ByteArray) else s) = W0) (hr : decide (C.size = 0) = rC) (hV : V s = true ∧ V C = rC)
    (hK : rubricatorref7_Encode.f kk a = some s ∧ utf_Count.f s = some 1 ∧ utf_Repair.f (bytesOf s) = some W0 ∧ rubricatorlaw7_known.f = some true) :
    Calls Tryd.prog 5 #[.int .i32 a] w fun e w' => e = .returned (.bool true) ∧ Below w.heap.size w w' := by
  have HT := Aside0.mk hT
  have HV := Aside0.mk hV
  have HK := Aside0.mk hK
  have hCn : C.size = n := by rw [← hC, ByteArray.size_extract]; omega
  have HCs := Aside0.mk (show C.size ≤ 140737488351232 by omega)
  have HSs := Aside0.mk (show s.size ≤ 140737488351232 by omega)
  have t1 : wrap64 ((s.size : Int) - 1) = (n : Int) := by rw [hn]; unfold wrap64; omega
  have hsl : ∀ W : World, (Instr.slice 9 (.string s) none (some (.int .i64 (n : Int))) none).run Tryd.prog W = .ok (.string C) W := by
    intro W
    rw [← hC]
    rw [run_slice_string_to_if W 9 s .i64 (n : Int) Tryd.underlying9]
    simp
    omega
  have dC : ((C.size : Int) == 0) = rC := by
    rw [← hr, Bool.eq_iff_iff, beq_iff_eq, decide_eq_true_iff]
    omega
  have dR : (rC == rC) = true := by simp
  clear hT hV hK hn4 hr hn hC hCn
  by_cases h0 : a = 0
  · subst h0
    have e0 : ((0 : Int) == 0) = true := rfl
    rw [if_pos rfl] at hW
    subst hW
    go_enter Tryd.func5, Tryd.ntmps5
    go_wp2_with (first | ((with_reducible refine gate_callee (f := 15) rfl ?_); refine goesL_ (some 7) rfl rfl Tryd.func15 (by kernel_rfl) rfl #[.int .i32 0] rfl (by (try simp only [List.map_toArray, List.map_cons, List.map_nil]); first | done | rfl) ?_; refine (rubricatorref7_Encode.calls kk 0 s w HK.out.1).mono ?_; rintro e w1 ⟨rfl, hd⟩; refine ⟨_, rfl, ?_⟩; have HB1 := Aside0.mk hd; have kb1 := print_bytes (P := Tryd.prog) 9 22 5 Tryd.underlying9 Tryd.underlying22 Tryd.underlying5 C w1; have HM1 := Aside0.mk (Rem.fresh w1 C HCs.out); have HBm := Aside0.mk (bytes_below (Below.refl w1.heap.size w1) (Nat.le_refl _) 5 C); have kb2 := print_bytes (P := Tryd.prog) 9 22 5 Tryd.underlying9 Tryd.underlying22 Tryd.underlying5 s (Lib.bytesWorld w1 5 C); have HM2 := Aside0.mk (Rem.fresh (Lib.bytesWorld w1 5 C) s HSs.out); have HBn := Aside0.mk (bytes_below (Below.refl (Lib.bytesWorld w1 5 C).heap.size (Lib.bytesWorld w1 5 C)) (Nat.le_refl _) 5 s); clear hd) | ((with_reducible refine gate_callee (f := 10) rfl ?_); refine goesL_ (some 19) rfl rfl Tryd.func10 (by kernel_rfl) rfl #[.slice (some ⟨(Lib.bytesWorld w1 5 C).heap.size, 0, none⟩) s.size (grownCap (Lib.bytesWorld w1 5 C) s.size 0 5)] rfl (by (try simp only [List.map_toArray, List.map_cons, List.map_nil]); first | done | rfl) ?_; refine (utf_Valid.calls _ _ s _ _ HM2.out (Tabs.below HT.out (HB1.out.trans ((HBm.out.trans (HBn.out.mono HBm.out.size)).mono HB1.out.size))) true HV.out.1).mono ?_; rintro e w2 ⟨rfl, hd⟩; refine ⟨_, rfl, ?_⟩; have HB2 := Aside0.mk (HB1.out.trans ((HBm.out.trans ((HBn.out.trans (hd.mono HBn.out.size)).mono HBm.out.size)).mono HB1.out.size)); have HM3 := Aside0.mk (HM1.out.below (HBn.out.trans (hd.mono HBn.out.size))); clear hd) | ((with_reducible refine gate_callee (f := 13) rfl ?_); refine gate_guard (by rfl) ?_; dsimp only; refine goesL_ (some 22) rfl rfl Tryd.func13 (by kernel_rfl) rfl #[.string s] rfl (by (try simp only [List.map_toArray, List.map_cons, List.map_nil]); first | done | rfl) ?_; refine (utf_Count.calls s 1 w2 HK.out.2.1).mono ?_; rintro e w3 ⟨rfl, hd⟩; refine ⟨_, rfl, ?_⟩; have HB3 := Aside0.mk (HB2.out.trans (hd.mono HB2.out.size)); have HM4 := Aside0.mk (HM3.out.below hd); have kb3 := print_bytes (P := Tryd.prog) 9 22 5 Tryd.underlying9 Tryd.underlying22 Tryd.underlying5 s w3; have HM5 := Aside0.mk (Rem.fresh w3 s HSs.out); have HBp := Aside0.mk (bytes_below (Below.refl w3.heap.size w3) (Nat.le_refl _) 5 s); clear hd) | ((with_reducible refine gate_callee (f := 7) rfl ?_); refine gate_guard (by rfl) ?_; dsimp only; refine goesL_ (some 28) rfl rfl Tryd.func7 (by kernel_rfl) rfl #[.slice (some ⟨w3.heap.size, 0, none⟩) s.size (grownCap w3 s.size 0 5)] rfl (by (try simp only [List.map_toArray, List.map_cons, List.map_nil]); first | done | rfl) ?_; refine (Repair_at HM5.out HK.out.2.2.1).mono ?_; rintro e w4 ⟨rfl, hd⟩; refine ⟨_, rfl, ?_⟩; have HB4 := Aside0.mk (HB3.out.trans ((HBp.out.trans (hd.mono HBp.out.size)).mono HB3.out.size)); have HM6 := Aside0.mk (HM4.out.below (HBp.out.trans (hd.mono HBp.out.size))); clear hd) | ((with_reducible refine gate_callee (f := 10) rfl ?_); refine gate_guard (by rfl) ?_; dsimp only; refine goesL_ (some 34) rfl rfl Tryd.func10 (by kernel_rfl) rfl #[.slice (some ⟨w1.heap.size, 0, none⟩) C.size (grownCap w1 C.size 0 5)] rfl (by (try simp only [List.map_toArray, List.map_cons, List.map_nil]); first | done | rfl) ?_; refine (utf_Valid.calls _ _ C _ _ HM6.out (Tabs.below HT.out HB4.out) rC HV.out.2).mono ?_; rintro e w5 ⟨rfl, hd⟩; refine ⟨_, rfl, ?_⟩; have HB5 := Aside0.mk (HB4.out.trans (hd.mono HB4.out.size)); clear hd) | ((with_reducible refine gate_callee (f := 11) rfl ?_); refine gate_guard (by rfl) ?_; dsimp only; refine goesL_ (some 41) rfl rfl Tryd.func11 (by kernel_rfl) rfl #[] rfl (by (try simp only [List.map_toArray, List.map_cons, List.map_nil]); first | done | rfl) ?_; refine (rubricatorlaw7_known.calls true w5 HK.out.2.2.2).mono ?_; rintro e w6 ⟨rfl, hd⟩; refine ⟨_, rfl, ?_⟩; have HB6 := Aside0.mk (HB5.out.trans (hd.mono HB5.out.size)); clear hd))
    go_ret
    exact ⟨rfl, HB6.out⟩
  · have e0 : (a == 0) = false := beq_eq_false_iff_ne.mpr h0
    rw [if_neg h0] at hW
    subst hW
    go_enter Tryd.func5, Tryd.ntmps5
    go_wp2_with (first | ((with_reducible refine gate_callee (f := 15) rfl ?_); refine goesL_ (some 7) rfl rfl Tryd.func15 (by kernel_rfl) rfl #[.int .i32 a] rfl (by (try simp only [List.map_toArray, List.map_cons, List.map_nil]); first | done | rfl) ?_; refine (rubricatorref7_Encode.calls kk a s w HK.out.1).mono ?_; rintro e w1 ⟨rfl, hd⟩; refine ⟨_, rfl, ?_⟩; have HB1 := Aside0.mk hd; have kb1 := print_bytes (P := Tryd.prog) 9 22 5 Tryd.underlying9 Tryd.underlying22 Tryd.underlying5 C w1; have HM1 := Aside0.mk (Rem.fresh w1 C HCs.out); have HBm := Aside0.mk (bytes_below (Below.refl w1.heap.size w1) (Nat.le_refl _) 5 C); have kb2 := print_bytes (P := Tryd.prog) 9 22 5 Tryd.underlying9 Tryd.underlying22 Tryd.underlying5 s (Lib.bytesWorld w1 5 C); have HM2 := Aside0.mk (Rem.fresh (Lib.bytesWorld w1 5 C) s HSs.out); have HBn := Aside0.mk (bytes_below (Below.refl (Lib.bytesWorld w1 5 C).heap.size (Lib.bytesWorld w1 5 C)) (Nat.le_refl _) 5 s); clear hd) | ((with_reducible refine gate_callee (f := 10) rfl ?_); refine goesL_ (some 19) rfl rfl Tryd.func10 (by kernel_rfl) rfl #[.slice (some ⟨(Lib.bytesWorld w1 5 C).heap.size, 0, none⟩) s.size (grownCap (Lib.bytesWorld w1 5 C) s.size 0 5)] rfl (by (try simp only [List.map_toArray, List.map_cons, List.map_nil]); first | done | rfl) ?_; refine (utf_Valid.calls _ _ s _ _ HM2.out (Tabs.below HT.out (HB1.out.trans ((HBm.out.trans (HBn.out.mono HBm.out.size)).mono HB1.out.size))) true HV.out.1).mono ?_; rintro e w2 ⟨rfl, hd⟩; refine ⟨_, rfl, ?_⟩; have HB2 := Aside0.mk (HB1.out.trans ((HBm.out.trans ((HBn.out.trans (hd.mono HBn.out.size)).mono HBm.out.size)).mono HB1.out.size)); have HM3 := Aside0.mk (HM1.out.below (HBn.out.trans (hd.mono HBn.out.size))); clear hd) | ((with_reducible refine gate_callee (f := 13) rfl ?_); refine gate_guard (by rfl) ?_; dsimp only; refine goesL_ (some 22) rfl rfl Tryd.func13 (by kernel_rfl) rfl #[.string s] rfl (by (try simp only [List.map_toArray, List.map_cons, List.map_nil]); first | done | rfl) ?_; refine (utf_Count.calls s 1 w2 HK.out.2.1).mono ?_; rintro e w3 ⟨rfl, hd⟩; refine ⟨_, rfl, ?_⟩; have HB3 := Aside0.mk (HB2.out.trans (hd.mono HB2.out.size)); have HM4 := Aside0.mk (HM3.out.below hd); have kb3 := print_bytes (P := Tryd.prog) 9 22 5 Tryd.underlying9 Tryd.underlying22 Tryd.underlying5 s w3; have HM5 := Aside0.mk (Rem.fresh w3 s HSs.out); have HBp := Aside0.mk (bytes_below (Below.refl w3.heap.size w3) (Nat.le_refl _) 5 s); clear hd) | ((with_reducible refine gate_callee (f := 7) rfl ?_); refine gate_guard (by rfl) ?_; dsimp only; refine goesL_ (some 28) rfl rfl Tryd.func7 (by kernel_rfl) rfl #[.slice (some ⟨w3.heap.size, 0, none⟩) s.size (grownCap w3 s.size 0 5)] rfl (by (try simp only [List.map_toArray, List.map_cons, List.map_nil]); first | done | rfl) ?_; refine (Repair_at HM5.out HK.out.2.2.1).mono ?_; rintro e w4 ⟨rfl, hd⟩; refine ⟨_, rfl, ?_⟩; have HB4 := Aside0.mk (HB3.out.trans ((HBp.out.trans (hd.mono HBp.out.size)).mono HB3.out.size)); have HM6 := Aside0.mk (HM4.out.below (HBp.out.trans (hd.mono HBp.out.size))); clear hd) | ((with_reducible refine gate_callee (f := 10) rfl ?_); refine gate_guard (by rfl) ?_; dsimp only; refine goesL_ (some 34) rfl rfl Tryd.func10 (by kernel_rfl) rfl #[.slice (some ⟨w1.heap.size, 0, none⟩) C.size (grownCap w1 C.size 0 5)] rfl (by (try simp only [List.map_toArray, List.map_cons, List.map_nil]); first | done | rfl) ?_; refine (utf_Valid.calls _ _ C _ _ HM6.out (Tabs.below HT.out HB4.out) rC HV.out.2).mono ?_; rintro e w5 ⟨rfl, hd⟩; refine ⟨_, rfl, ?_⟩; have HB5 := Aside0.mk (HB4.out.trans (hd.mono HB4.out.size)); clear hd) | ((with_reducible refine gate_callee (f := 11) rfl ?_); refine gate_guard (by rfl) ?_; dsimp only; refine goesL_ (some 41) rfl rfl Tryd.func11 (by kernel_rfl) rfl #[] rfl (by (try simp only [List.map_toArray, List.map_cons, List.map_nil]); first | done | rfl) ?_; refine (rubricatorlaw7_known.calls true w5 HK.out.2.2.2).mono ?_; rintro e w6 ⟨rfl, hd⟩; refine ⟨_, rfl, ?_⟩; have HB6 := Aside0.mk (HB5.out.trans (hd.mono HB5.out.size)); clear hd))
    go_ret
    exact ⟨rfl, HB6.out⟩
end Go.Proofs.YtekkkohncfmmfaaDoor.PA
