/- The law's own check, and two Writers side by side. No conditions. -/
import Derived.Test.YtblneonbilbaiaaWrite
import Derived.Test.YtblneonbilbaiaaExt
import Derived.Test.YtblneonbilbaiaaWKept
import Derived.BigRegion
import Derived.Lib.LazyBuf
import Derived.RegionTactic
namespace Go.Proofs.Ytblneonbilbaiaa.PA
open Go.RowKit Go.Proofs.YtblneonbilbaiaaW.PrintWords Go.Proofs.YtblneonbilbaiaaW.PrintLast Go.Proofs.YtblneonbilbaiaaW.PrintMore
set_option linter.unusedVariables false
set_option linter.unusedSimpArgs false
set_option maxHeartbeats 4000000 in
set_option maxRecDepth 100000 in
theorem rubricatorlaw1_known.calls (w : World) : Calls Try.prog 10 #[] w fun e w' => e = .returned (.bool true) ∧ Below w.heap.size w w' := by
  have HB := Aside0.mk (Below.refl w.heap.size w)
  have hf1 : bits_fits.f 1 1 24 = some true := by decide +kernel
  have hf2 : bits_fits.f 2 2 24 = some true := by decide +kernel
  have hf3 : bits_fits.f 1 3 15 = some true := by decide +kernel
  have hsame : rubricatorlaw1_same.f 9 [37] [37] = some true := by decide +kernel
  have hby : bytesW (codeW (Int.toNat 3) (putW (Int.toNat 2) 0 (putW (Int.toNat 1) 0 ⟨[], 0, 0⟩ 1) 2) 1) = [37] := by decide +kernel
  have F1 := Aside0.mk hf1
  have F2 := Aside0.mk hf2
  have F3 := Aside0.mk hf3
  have FS := Aside0.mk hsame
  have FB := Aside0.mk hby
  clear hf1 hf2 hf3 hsame hby
  go_enter Try.func10, Try.ntmps10
  go_wp2_with (first | (go_at_call 11; refine (bits_New.made _).mono ?_; rintro e w1 ⟨rfl, h1, h2, h3⟩; have HU0 := Aside0.mk h1; have HB0 := Aside0.mk h2; have HZ := Aside0.mk h3; clear h1 h2 h3) | ((with_reducible refine gate_callee (f := 12) rfl ?_); refine goesL_ (some 9) rfl rfl Try.func12 (by kernel_rfl) rfl #[.pointer (some ⟨w.heap.size, 0, none⟩), .int .i64 1, .int .i64 1] rfl (by (try simp only [List.map_toArray, List.map_cons, List.map_nil]); first | done | rfl) ?_; refine (bits_Writer_Put.calls w.heap.size ⟨[], 0, 0⟩ 1 1 _ _ w.heap.size HB0.out.size HU0.out ⟨by decide, by decide, by simp⟩ (by decide) (by decide) F1.out).mono ?_; rintro e w2 ⟨rfl, u1, h1, h2⟩; refine ⟨_, rfl, ?_⟩; have HU1 := Aside0.mk h1; have HB1 := Aside0.mk (HB0.out.trans h2.below); clear h1 h2) | ((with_reducible refine gate_callee (f := 12) rfl ?_); refine goesL_ (some 11) rfl rfl Try.func12 (by kernel_rfl) rfl #[.pointer (some ⟨w.heap.size, 0, none⟩), .int .i64 2, .int .i64 2] rfl (by (try simp only [List.map_toArray, List.map_cons, List.map_nil]); first | done | rfl) ?_; refine (bits_Writer_Put.calls w.heap.size (putW (Int.toNat 1) 0 ⟨[], 0, 0⟩ 1) 2 2 _ _ w.heap.size HB1.out.size HU1.out ⟨by decide, by decide, by simp [putW, bitW, bitB]⟩ (by decide) (by decide) F2.out).mono ?_; rintro e w3 ⟨rfl, u2, h1, h2⟩; refine ⟨_, rfl, ?_⟩; have HU2 := Aside0.mk h1; have HB2 := Aside0.mk (HB1.out.trans h2.below); clear h1 h2) | ((with_reducible refine gate_callee (f := 17) rfl ?_); refine goesL_ (some 13) rfl rfl Try.func17 (by kernel_rfl) rfl #[.pointer (some ⟨w.heap.size, 0, none⟩), .int .i64 1, .int .i64 3] rfl (by (try simp only [List.map_toArray, List.map_cons, List.map_nil]); first | done | rfl) ?_; refine (bits_Writer_Code.calls w.heap.size (putW (Int.toNat 2) 0 (putW (Int.toNat 1) 0 ⟨[], 0, 0⟩ 1) 2) 1 3 _ _ w.heap.size HB2.out.size HU2.out ⟨by decide +kernel, by decide +kernel, by decide +kernel⟩ (by decide) (by decide) F3.out).mono ?_; rintro e w4 ⟨rfl, u3, h1, h2⟩; refine ⟨_, rfl, ?_⟩; have HU3 := Aside0.mk h1; have HB3 := Aside0.mk (HB2.out.trans h2.below); clear h1 h2) | ((with_reducible refine gate_callee (f := 14) rfl ?_); refine gate_guard (by rfl) ?_; dsimp only; refine goesL_ (some 26) rfl rfl Try.func14 (by kernel_rfl) rfl #[.pointer (some ⟨w.heap.size, 0, none⟩)] rfl (by (try simp only [List.map_toArray, List.map_cons, List.map_nil]); first | done | rfl) ?_; refine (bits_Writer_Bytes.calls w.heap.size (codeW (Int.toNat 3) (putW (Int.toNat 2) 0 (putW (Int.toNat 1) 0 ⟨[], 0, 0⟩ 1) 2) 1) _ _ w.heap.size HU3.out (by decide +kernel)).mono ?_; rintro e w5 ⟨v5, rfl, h1, h2⟩; refine ⟨_, rfl, ?_⟩; rw [FB.out] at h1; obtain ⟨A5, c5, e5⟩ := Kd.R_slice h1; subst e5; have HO5 := Aside0.mk h1; have HB5 := Aside0.mk (HB3.out.trans (h2.mono HB3.out.size)); clear h1 h2) | ((with_reducible refine gate_dst (N := 27) rfl ?_); refine gate_guard (by rfl) ?_; dsimp only; refine Kd.R_lit (Kd.int .u8) _ 5 ?hg (N := 27) ?hd (xs := ([37] : List Int)) (inner := [.int .u8 37]) (ok := fun _ => True) (okp := fun _ => True) ?hr ?hp (fun _ hk => hk) trivial (Below.refl _ _) (Nat.le_refl _) (by simp) ?_; (case hd => rfl); (case hg => rfl); (case hr => first | (go_simp; done) | (go_simp; rfl)); (case hp => exact Reps.one rfl (Reps.none _ _)); intro v6 w6 ho9 hb hg_ hnew_; clear hg_ hnew_; obtain ⟨A6, c6, e6⟩ := Kd.R_slice ho9; subst e6; have HO6 := Aside0.mk ho9; have HB6 := Aside0.mk (HB5.out.trans (hb.mono HB5.out.size)); have HO56 := Aside0.mk (Kd.R_below HO5.out hb); clear hb ho9) | ((with_reducible refine gate_callee (f := 13) rfl ?_); refine gate_guard (by rfl) ?_; dsimp only; refine goesL_ (some 28) rfl rfl Try.func13 (by kernel_rfl) rfl #[.slice A5 1 c5, .slice A6 1 c6] rfl (by (try simp only [List.map_toArray, List.map_cons, List.map_nil]); first | done | rfl) ?_; refine (rubricatorlaw1_same.calls 9 A5 c5 [37] A6 c6 [37] true _ (Kd.R_reads' HO56.out).2.2 (Kd.R_reads' HO56.out).2.1 (Kd.R_reads' HO6.out).2.2 (Kd.R_reads' HO6.out).2.1 FS.out).mono ?_; rintro e w7 ⟨rfl, hd⟩; refine ⟨_, rfl, ?_⟩; have HB7 := Aside0.mk (HB6.out.trans (hd.below.mono HB6.out.size)); clear hd))
  go_ret
  exact ⟨rfl, HB7.out⟩
theorem R_tight {k : IntKind} {e base : Nat} {w : World} {ok : Nat → Prop} {v : Value} {xs : List Int} (h : Kd.R (Kd.int k) e w base ok v xs) : Kd.R (Kd.int k) e w base (fun j => v.ownBlock = some j) v xs :=
  ⟨fun _ hj => hj, h.2.imp_ (fun _ _ hp => hp)⟩
/-- A Writer stays what it is where none of its blocks is touched. -/
theorem Wst.apart {b0 : Nat} {w w1 : World} {g : Nat} {b : List Int} {p i : Int} {u : Value} {S : Nat → Prop} (h : Wst b0 w g b p i u) (hk : Kept w w1 S) (hg : ¬ S g) (hu : ∀ j, u.ownBlock = some j → ¬ S j) : Wst b0 w1 g b p i u :=
  ⟨blk_kept h.blk hk hg, Kd.R_mono (Kd.R_kept (R_tight h.row) hk hu) h.row.1, h.base⟩
end Go.Proofs.Ytblneonbilbaiaa.PA
