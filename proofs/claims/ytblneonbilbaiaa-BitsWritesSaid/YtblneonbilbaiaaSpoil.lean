/- What spoil does: the row that it is given is written over, or one of its own. Rows below 900000000 bytes. -/
import Derived.Test.YtblneonbilbaiaaKnown
import Derived.Test.YtblneonbilbaiaaEdges
namespace Go.Proofs.Ytblneonbilbaiaa.PA
open Go.Proofs.Ytblneonbilbaiaa.Mat Go.RowKit Go.Proofs.YtblneonbilbaiaaW.PrintWords Go.Proofs.YtblneonbilbaiaaW.PrintLast Go.Proofs.YtblneonbilbaiaaW.PrintMore
set_option linter.unusedVariables false
set_option linter.unusedSimpArgs false
theorem R_form1 {k : IntKind} {e base : Nat} {w : World} {ok : Nat → Prop} {v : Value} {xs : List Int} (h : Kd.R (Kd.int k) e w base ok v xs) (hp : 0 < xs.length) : ∃ g c, v = .slice (some ⟨g, 0, none⟩) xs.length c ∧ v.ownBlock = some g := by
  obtain ⟨inner, ho⟩ := Kd.R_own h
  obtain ⟨g, cap, e, _, _⟩ := ho.form hp
  subst e
  exact ⟨g, cap, rfl, rfl⟩
set_option maxHeartbeats 4000000 in
set_option maxRecDepth 100000 in
theorem rubricatorlaw1_spoil.calls (A : Option Addr) (c : Nat) (l : List Int) (w : World) (b0 : Nat) (hbw : b0 ≤ w.heap.size) (h : Kd.R (Kd.int .u8) 5 w b0 (fun _ => True) (.slice A l.length c) l) (hl : l.length ≤ 900000000) :
    Calls Try.prog 25 #[.slice A l.length c] w fun e w' => e = .returned (.tuple #[]) ∧ Kept w w' (fun k => (Value.slice A l.length c).ownBlock = some k) ∧ Below b0 w w' := by
  have HO := Aside0.mk h
  have HL := Aside0.mk hl
  clear h hl
  go_enter Try.func25, Try.ntmps25
  go_wp2_with ((with_reducible refine gate_builtin (b := .append) (xs := #[.tmp 4, .tmp 5]) rfl ?_); at_builtin; refine Kd.R_append (Kd.int .u8) (w0 := w) b0 rfl (.tmp 4) (.tmp 5) 29 5 (.int .u8 0) 1 rfl Try.underlying29 info5B rfl (by decide) (by decide) (.slice A l.length c) l 99 [.int .u8 99] (fun _ => True) (fun _ => False) rfl rfl ?aP (fun _ hk => hk.elim) ?aF ?aO ?aB ?aS ?aL ?_; (case aP => exact rfl); (case aB => exact Below.refl _ _); (case aF => exact (fun _ _ => trivial)); (case aO => exact HO.out); (case aS => exact hbw); (case aL => have := HL.out; omega); intro v2 w2 ho hb hg hat; obtain ⟨g2, c2, e2, eo⟩ := R_form1 ho (by simp); subst e2; have HO2 := Aside0.mk ho; have HB2 := Aside0.mk hb; have HK2 := Aside0.mk (Kept.of_grown (w := w) (S := fun k => (Value.slice A l.length c).ownBlock = some k) hg (Kept.refl _ _) (fun k hk => .inl hk)); have HT2 := Aside0.mk (show ((Value.slice A l.length c).ownBlock = some g2 ∨ w.heap.size ≤ g2) ∧ b0 ≤ g2 from ⟨(by rw [eo] at hat; rcases hat with e | ⟨b, e, hb⟩; exact .inl e.symm; exact .inr (by obtain rfl := Option.some.inj e; exact hb)), ((Kd.R_bound ho).1 g2 eo).2.1⟩); clear ho hb hg hat eo)
  obtain ⟨N, hN⟩ : ∃ N : Nat, N = l.length + 1 := ⟨_, rfl⟩
  have HN := Aside0.mk hN
  have hl1 : (l ++ [99]).length = l.length + 1 := by simp
  have H0 := Aside0.mk (show ∃ xs : List Int, xs.length = N ∧ Kd.R (Kd.int .u8) 5 w2 b0 (fun _ => True) (.slice (some ⟨g2, 0, none⟩) N c2) xs from ⟨l ++ [99], by omega, by have := HO2.out; rw [hl1, ← hN] at this; exact this⟩)
  try rw [← hN]
  clear hN hl1 HO2
  go_loopw [3] (fun v3 wr => ∃ (i : Nat) (ii : Int) (xs : List Int), v3 = .int .i64 ii ∧ ii = (i : Int) ∧ i ≤ N ∧ xs.length = N ∧ Aside0 (Kd.R (Kd.int .u8) 5 wr b0 (fun _ => True) (.slice (some ⟨g2, 0, none⟩) N c2) xs) ∧ Aside0 (Kept w wr (fun k => (Value.slice A l.length c).ownBlock = some k)) ∧ Aside0 (Below b0 w wr)) (fun v3 _ => N - (intOf v3).toNat)
  case atStart =>
    obtain ⟨xs, h1, h2⟩ := H0.out
    exact ⟨0, 0, xs, rfl, rfl, Nat.zero_le _, h1, ⟨h2⟩, HK2, HB2⟩
  case round =>
    clear H0 HK2 HB2
    obtain ⟨i, ii, xs, rfl, hii, hi, hx, HO, HK, HB⟩ := hrel
    by_cases hlt : ii < (N : Int)
    · have dlt : decide (ii < (N : Int)) = true := decide_eq_true hlt
      have p0 : 0 ≤ ii := by omega
      have dp : decide (0 ≤ ii) = true := decide_eq_true p0
      have hlx : ii < (xs.length : Int) := by omega
      have hR := HO.out
      rw [← hx] at hR
      obtain ⟨ad, ead, hc⟩ := Kd.at_int (Kd.R_reads' hR).2.2 ii p0 hlx
      have ea : ad = ⟨g2, 0, none⟩ := (Option.some.inj ead).symm
      subst ea
      have hc2 : wr.cell? ⟨g2, ii.toNat, none⟩ = some (.int .u8 (rd xs ii)) := by
        have e : (⟨g2, 0, none⟩ : Addr).add ii.toNat = ⟨g2, ii.toNat, none⟩ := by
          unfold Addr.add
          by_cases hz : ii.toNat = 0 <;> simp [hz]
        rw [← e]
        exact hc
      have hown : (Value.slice (some ⟨g2, 0, none⟩) xs.length c2).ownBlock = some g2 := rfl
      obtain ⟨q1, q2, q3, q4, q6, cells, q5⟩ := (Kd.R_bound hR).1 g2 hown
      have f2 : wr.frozen? ⟨g2, ii.toNat, none⟩ = false := blk_frozen q5 _
      have q0 := eq_true hlt
      have t5 : wrap64 (ii + 1) = ii + 1 := by unfold wrap64; have := HL.out; have := HN.out; omega
      have HR := Aside0.mk hR
      have HI := Aside0.mk (show ii = (i : Int) ∧ i < N ∧ xs.length = N from ⟨hii, by omega, hx⟩)
      clear hc hR hx hlt hlx hown q1 q2 q5 q6 hii hi
      replace p0 := eq_true p0
      go_wp2
      go_roundw
      case rel =>
        obtain ⟨z1, z2, z3⟩ := HI.out
        refine ⟨i + 1, _, xs.set ii.toNat 98, rfl, by rw [t5]; omega, by omega, by rw [List.length_set]; exact z3, ⟨?_⟩, ⟨?_⟩, ⟨?_⟩⟩
        · have := Kd.R_putn (enc := Value.int .u8) (h1 := fun _ => rfl) HR.out ii 98
          rw [← z3]
          exact this
        · refine HK.out.setCell (p := ⟨g2, ii.toNat, none⟩) ?_ _
          rcases HT2.out.1 with h | h
          · exact .inl h
          · exact .inr h
        · exact HB.out.setCell (p := ⟨g2, ii.toNat, none⟩) HT2.out.2 _
      case measure =>
        have := HI.out
        simp [intOf, t5]
        omega
    · have dlt : decide (ii < (N : Int)) = false := decide_eq_false hlt
      clear hlt hii hi
      go_wp2
      refine bodyPost_end (results_none rfl _ _ _) rfl ?_
      exact ⟨rfl, HK.out, HB.out⟩
end Go.Proofs.Ytblneonbilbaiaa.PA
