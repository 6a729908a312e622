/- A nil Decoder reads no symbol; numbers that are no lengths make none. No conditions. -/
import Derived.Test.YtachnclfgjdglaaKnown
namespace Go.Proofs.Ytachnclfgjdglaa.PA
open Go.RowKit Go.Proofs.YtachnclfgjdglaaW.PrintWords Go.Proofs.YtachnclfgjdglaaW.PrintLast Go.Proofs.YtachnclfgjdglaaW.PrintMore Go.Proofs.YtachnclfgjdglaaAid Go.Proofs.Ytachnclfgjdglaa.Coin Go.Proofs.Ytachnclfgjdglaa.Known
set_option linter.unusedVariables false
set_option linter.unusedSimpArgs false

set_option maxHeartbeats 4000000 in
theorem new_bad (A : Option Addr) (c : Nat) (l : List Int) (w : World) (hr : Kd.C (Kd.int .i64) w A l.length l) (hl : isL l = false) :
    Calls Try.prog 23 #[.slice A l.length c] w fun e w' => e = .returned (.tuple #[.pointer none, .int .i64 1]) ∧ w' = w := by
  have h1 := are A c l w hr
  rw [hl] at h1
  generalize l.length = n at h1 ⊢
  clear hr hl
  go_enter Try.func23, Try.ntmps23
  go_wp2_with (go_at_call 27; refine h1.mono ?_; rintro e w' ⟨rfl, rfl⟩)
  go_ret2
  exact ⟨rfl, rfl⟩
set_option maxHeartbeats 4000000 in
theorem next_nil (b : Int) (w : World) : Calls Try.prog 25 #[.pointer none, .int .i64 b] w fun e w' => e = .returned (.int .i64 (-2)) ∧ w' = w := by
  go_enter Try.func25, Try.ntmps25
  go_wp2
  go_ret
  exact ⟨rfl, rfl⟩
set_option maxHeartbeats 8000000 in
theorem rubricatorlaw3_HuffOfNothing.walk (a0 : Int) (w : World) (w0 : (Lit.int .i64 a0).wf = true) :
    Calls Try.prog 10 #[.int .i64 a0] w fun e w' => e = .returned (.bool true) ∧ Below w.heap.size w w' := by
  obtain ⟨k, hk⟩ := known_ev.rounds
  have HK := Aside0.mk hk
  have hone := Kd.R_of_own (enc := Value.int .i64) (h1 := fun _ => rfl) (ok := fun _ => True) (own_lit w w.heap.size 3 .i64 [16] (Nat.le_refl _) (by simp)) (fun _ _ => trivial)
  have hnew := new_bad (some ⟨w.heap.size, 0, none⟩) 1 [16] (w.alloc (.cells #[.int .i64 16] 3)) (Kd.R_reads' hone).2.2 (by decide)
  have HN := Aside0.mk hnew
  have hnil := fun W => next_nil a0 W
  clear hk hone hnew w0
  go_enter Try.func10, Try.ntmps10
  go_wp2_with (first | (go_at_call 23; refine HN.out.mono ?_; rintro e w' ⟨rfl, hw'⟩; subst w') | (go_at_call 25; refine (hnil _).mono ?_; rintro e w' ⟨rfl, hw'⟩; subst w') | (go_at_call 16; refine (rubricatorlaw3_known.calls k true _ HK.out).mono ?_; rintro e w2 ⟨rfl, hb⟩; have HB := Aside0.mk hb; clear hb))
  go_ret
  exact ⟨rfl, below_step (below_alloc (Below.refl _ _) _) HB.out⟩
end Go.Proofs.Ytachnclfgjdglaa.PA
