/- BitsOfNothing: a nil Writer or Reader. No conditions. -/
import Derived.Test.YtblneonbilbaiaaKnown
import Derived.Test.YtblneonbilbaiaaRead
namespace Go.Proofs.Ytblneonbilbaiaa.PA
open Go.RowKit Go.Proofs.YtblneonbilbaiaaW.PrintWords Go.Proofs.YtblneonbilbaiaaW.PrintLast Go.Proofs.YtblneonbilbaiaaW.PrintMore
set_option linter.unusedVariables false
set_option linter.unusedSimpArgs false
set_option maxHeartbeats 4000000 in
theorem bits_Writer_Code.nil (v n : Int) (w : World) : Calls Try.prog 17 #[.pointer none, .int .i64 v, .int .i64 n] w fun e w' => e = .returned (.int .i64 1) ∧ Drawn0 w w' := by
  go_enter Try.func17, Try.ntmps17
  go_wp2
  go_ret
  exact ⟨rfl, Drawn0.refl _⟩
set_option maxHeartbeats 4000000 in
theorem bits_Writer_Raw.nil (A : Option Addr) (n c : Nat) (w : World) : Calls Try.prog 22 #[.pointer none, .slice A n c] w fun e w' => e = .returned (.int .i64 1) ∧ Drawn0 w w' := by
  go_enter Try.func22, Try.ntmps22
  go_wp2
  go_ret
  exact ⟨rfl, Drawn0.refl _⟩
set_option maxHeartbeats 4000000 in
set_option maxRecDepth 100000 in
theorem bits_Writer_Code.refuses (g : Nat) (v n : Int) (w : World) (hf : bits_fits.f v n 15 = some false) :
    Calls Try.prog 17 #[.pointer (some ⟨g, 0, none⟩), .int .i64 v, .int .i64 n] w fun e w' => e = .returned (.int .i64 1) ∧ Drawn0 w w' := by
  have HF := Aside0.mk hf
  clear hf
  go_enter Try.func17, Try.ntmps17
  go_wp2_with ((with_reducible refine gate_callee (f := 36) rfl ?_); refine gate_guard (by rfl) ?_; dsimp only; refine goesL_ (some 13) rfl rfl Try.func36 (by kernel_rfl) rfl #[.int .i64 v, .int .i64 n, .int .i64 15] rfl (by (try simp only [List.map_toArray, List.map_cons, List.map_nil]); first | done | rfl) ?_; refine (bits_fits.calls v n 15 false _ HF.out).mono ?_; rintro e w1 ⟨rfl, hd⟩; refine ⟨_, rfl, ?_⟩; have HD := Aside0.mk hd; clear hd)
  go_ret
  exact ⟨rfl, HD.out⟩
set_option maxHeartbeats 4000000 in
set_option maxRecDepth 100000 in
theorem rubricatorlaw1_BitsOfNothing.walk (v n : Int) (A : Option Addr) (c : Nat) (l : List Int) (w : World) (_ : (Lit.int .i64 v).wf = true) (_ : (Lit.int .i64 n).wf = true) (_ : Kd.C (Kd.int .u8) w A l.length l) (_ : l.length ≤ c) (_ : l.length ≤ maxLen) (_ : l.length * 1 ≤ 140737488351232) (_ : ∀ x ∈ l, (Lit.int .u8 x).wf = true) :
    Calls Try.prog 8 #[.int .i64 v, .int .i64 n, .slice A l.length c] w fun e w' => e = .returned (.bool true) ∧ Below w.heap.size w w' := by
  have HB0 := Aside0.mk (Below.refl w.heap.size w)
  by_cases h : 2000 < (l.length : Int)
  · have d1 : decide (2000 < (l.length : Int)) = true := decide_eq_true h
    clear h
    go_enter Try.func8, Try.ntmps8
    go_wp2
    go_ret
    exact ⟨rfl, HB0.out⟩
  · have d1 : decide (2000 < (l.length : Int)) = false := decide_eq_false h
    clear h
    go_enter Try.func8, Try.ntmps8
    go_wp2_with (first | ((with_reducible refine gate_callee (f := 19) rfl ?_); refine goesL_ (some 17) rfl rfl Try.func19 (by kernel_rfl) rfl #[.pointer none] rfl (by (try simp only [List.map_toArray, List.map_cons, List.map_nil]); first | done | rfl) ?_; refine (bits_Writer_Align.nil _).mono ?_; rintro e w1 ⟨rfl, hd⟩; refine ⟨_, rfl, ?_⟩; have HB1 := Aside0.mk (HB0.out.trans (hd.below.mono HB0.out.size)); clear hd) | ((with_reducible refine gate_callee (f := 28) rfl ?_); refine goesL_ (some 21) rfl rfl Try.func28 (by kernel_rfl) rfl #[.pointer none, .int .i64 n] rfl (by (try simp only [List.map_toArray, List.map_cons, List.map_nil]); first | done | rfl) ?_; refine (bits_Reader_Get.refuses none n _ (.inl rfl)).mono ?_; rintro e w2 ⟨rfl, hd⟩; refine ⟨_, rfl, ?_⟩; have HB2 := Aside0.mk (HB1.out.trans (hd.below.mono HB1.out.size)); clear hd) | ((with_reducible refine gate_callee (f := 33) rfl ?_); refine goesL_ (some 27) rfl rfl Try.func33 (by kernel_rfl) rfl #[.pointer none, .int .i64 n] rfl (by (try simp only [List.map_toArray, List.map_cons, List.map_nil]); first | done | rfl) ?_; refine (bits_Reader_Raw.nil n _).mono ?_; rintro e w3 ⟨rfl, hd⟩; refine ⟨_, rfl, ?_⟩; have HB3 := Aside0.mk (HB2.out.trans (hd.below.mono HB2.out.size)); clear hd) | ((with_reducible refine gate_callee (f := 12) rfl ?_); refine goesL_ (some 33) rfl rfl Try.func12 (by kernel_rfl) rfl #[.pointer none, .int .i64 v, .int .i64 n] rfl (by (try simp only [List.map_toArray, List.map_cons, List.map_nil]); first | done | rfl) ?_; refine (bits_Writer_Put.nil v n _).mono ?_; rintro e w4 ⟨rfl, hd⟩; refine ⟨_, rfl, ?_⟩; have HB4 := Aside0.mk (HB3.out.trans (hd.below.mono HB3.out.size)); clear hd) | ((with_reducible refine gate_callee (f := 17) rfl ?_); refine gate_guard (by rfl) ?_; dsimp only; refine goesL_ (some 39) rfl rfl Try.func17 (by kernel_rfl) rfl #[.pointer none, .int .i64 v, .int .i64 n] rfl (by (try simp only [List.map_toArray, List.map_cons, List.map_nil]); first | done | rfl) ?_; refine (bits_Writer_Code.nil v n _).mono ?_; rintro e w5 ⟨rfl, hd⟩; refine ⟨_, rfl, ?_⟩; have HB5 := Aside0.mk (HB4.out.trans (hd.below.mono HB4.out.size)); clear hd) | ((with_reducible refine gate_callee (f := 22) rfl ?_); refine gate_guard (by rfl) ?_; dsimp only; refine goesL_ (some 46) rfl rfl Try.func22 (by kernel_rfl) rfl #[.pointer none, .slice (some ⟨_, 0, none⟩) 1 1] rfl (by (try simp only [List.map_toArray, List.map_cons, List.map_nil]); first | done | rfl) ?_; refine (bits_Writer_Raw.nil _ _ _ _).mono ?_; rintro e w6 ⟨rfl, hd⟩; refine ⟨_, rfl, ?_⟩; have HB6 := Aside0.mk ((below_alloc HB5.out _).trans (hd.below.mono (below_alloc HB5.out _).size)); clear hd) | ((with_reducible refine gate_callee (f := 14) rfl ?_); refine gate_guard (by rfl) ?_; dsimp only; refine goesL_ (some 51) rfl rfl Try.func14 (by kernel_rfl) rfl #[.pointer none] rfl (by (try simp only [List.map_toArray, List.map_cons, List.map_nil]); first | done | rfl) ?_; refine (bits_Writer_Bytes.nil _).mono ?_; rintro e w7 ⟨rfl, hd⟩; refine ⟨_, rfl, ?_⟩; have HB7 := Aside0.mk (HB6.out.trans (hd.below.mono HB6.out.size)); clear hd) | ((with_reducible refine gate_callee (f := 31) rfl ?_); refine gate_guard (by rfl) ?_; dsimp only; refine goesL_ (some 70) rfl rfl Try.func31 (by kernel_rfl) rfl #[.pointer none] rfl (by (try simp only [List.map_toArray, List.map_cons, List.map_nil]); first | done | rfl) ?_; refine (bits_Reader_Align.nil _).mono ?_; rintro e w8 ⟨rfl, hd⟩; refine ⟨_, rfl, ?_⟩; have HB8 := Aside0.mk (HB7.out.trans (hd.below.mono HB7.out.size)); clear hd) | ((with_reducible refine gate_callee (f := 29) rfl ?_); refine gate_guard (by rfl) ?_; dsimp only; refine goesL_ (some 75) rfl rfl Try.func29 (by kernel_rfl) rfl #[.pointer none] rfl (by (try simp only [List.map_toArray, List.map_cons, List.map_nil]); first | done | rfl) ?_; refine (bits_Reader_Left.nil _).mono ?_; rintro e w9 ⟨rfl, hd⟩; refine ⟨_, rfl, ?_⟩; have HB9 := Aside0.mk (HB8.out.trans (hd.below.mono HB8.out.size)); clear hd) | ((with_reducible refine gate_callee (f := 10) rfl ?_); refine gate_guard (by rfl) ?_; dsimp only; refine goesL_ (some 79) rfl rfl Try.func10 (by kernel_rfl) rfl #[] rfl (by (try simp only [List.map_toArray, List.map_cons, List.map_nil]); first | done | rfl) ?_; refine (rubricatorlaw1_known.calls _).mono ?_; rintro e wA ⟨rfl, hd⟩; refine ⟨_, rfl, ?_⟩; have HBA := Aside0.mk (HB9.out.trans (hd.mono HB9.out.size)); clear hd) | (go_at_call 10; refine (rubricatorlaw1_known.calls _).mono ?_; rintro e wA ⟨rfl, hd⟩; have HBA := Aside0.mk (HB9.out.trans (hd.mono HB9.out.size)); clear hd))
    go_ret
    exact ⟨rfl, HBA.out⟩
end Go.Proofs.Ytblneonbilbaiaa.PA
