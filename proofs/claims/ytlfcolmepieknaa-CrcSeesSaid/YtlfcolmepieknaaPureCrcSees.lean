/- A row of which one byte is another one has another sum. No conditions. -/
import Derived.Test.YtlfcolmepieknaaPAx3
import Derived.Test.YtlfcolmepieknaaSeesMath
import Derived.Test.YtlfcolmepieknaaAid
namespace Go.Proofs.Ytlfcolmepieknaa.Pure
open Go.RowKit Go.Proofs.Ytlfcolmepieknaa.PA Go.Proofs.YtlfcolmepieknaaW.PrintWords Go.Proofs.YtlfcolmepieknaaW.PrintLast
open Go.Proofs.Ytlfcolmepieknaa.Mat Go.Proofs.YtlfcolmepieknaaAid

theorem CrcSees : rubricatorlaw2_CrcSees.Pure := by
  intro p at_ by_ _ hp hw _ hby
  refine Ev.rounds (r := true) ?_
  have hb := wf_u8 hby
  unfold rubricatorlaw2_CrcSees.f
  have jt : Ev (fun k => rubricatorlaw2_CrcSees.j0 k p at_ by_ true) true := Ev.step (f := fun _ => some true) (fun _ => by simp only [rubricatorlaw2_CrcSees.j0, if_true]) (Ev.now _)
  by_cases h : (p.length : Int) > 4000
  · exact ev_if h jt
  refine ev_else h ?_
  by_cases h0 : (p.length : Int) = 0
  · exact ev_if h0 jt
  refine ev_else h0 ?_
  by_cases hz : by_ = 0
  · have e : (by_ == 0) = true := by simp [hz]
    rw [e]
    exact jt
  have e : (by_ == 0) = false := by simp [hz]
  rw [e]
  obtain ⟨K, hK⟩ : ∃ K, K = Go.bits .and .i64 at_ 1073741823 := ⟨_, rfl⟩
  have hK0 : 0 ≤ K ∧ K ≤ 1073741823 := by
    have e1 : Go.bits .and .i64 at_ 1073741823 = IntKind.i64.wrap ((BitVec.ofInt 64 at_ &&& BitVec.ofInt 64 1073741823).toNat : Int) := rfl
    have h1 : (BitVec.ofInt 64 at_ &&& BitVec.ofInt 64 1073741823).toNat ≤ 1073741823 := by
      rw [BitVec.toNat_and]
      exact Nat.and_le_right
    rw [hK, e1, IntWalk.i64_in _ (by omega)]
    omega
  obtain ⟨j, hj⟩ : ∃ j : Nat, Int.tmod K (p.length : Int) = (j : Int) ∧ j < p.length := by
    obtain ⟨n, rfl⟩ := Int.eq_ofNat_of_zero_le hK0.1
    refine ⟨n % p.length, ?_, Nat.mod_lt _ (by omega)⟩
    exact (Int.ofNat_tmod n p.length).symm
  refine ev_succ ?_
  simp only [rubricatorlaw2_CrcSees.j0, Bool.false_eq_true, if_false]
  rw [← hK, hj.1]
  refine ev_some (ev_if (by simp; omega) (ev_some (ev_else h0 (ev_if (by omega) (ev_if (by simp; omega) ?_)))))
  have hx : 0 ≤ p[j] ∧ p[j] ≤ 255 := wf_u8 (hw _ (List.getElem_mem hj.2))
  have er : rd ([] ++ p) (j : Int) = p[j] := by simp [rd, List.getD_eq_getElem?_getD, List.getElem?_eq_getElem hj.2]
  have ex : Go.bits .xor .u8 p[j] by_ = ((p[j].toNat ^^^ by_.toNat : Nat) : Int) := u8_xor _ _ hx.1 (by omega) hb.1 (by omega)
  have hl : p[j].toNat ^^^ by_.toNat < 2 ^ 8 := Nat.xor_lt_two_pow (by omega) (by omega)
  rw [Int.toNat_natCast, er, ex]
  refine Ev.bind (Sum_ev [p] (by simp) (by intro l hl; simp at hl; subst hl; omega)) ?_
  refine Ev.bind (Sum_ev [([] ++ p).set j _] (by simp) (by intro l hl; simp at hl; subst hl; simp; omega)) (ev_else ?_ (Ev.bind known_ev (Ev.now _)))
  intro he
  refine crc_other 0 p j hj.2 ((p[j].toNat ^^^ by_.toNat : Nat) : Int) hx (by omega) ?_ (BitVec.eq_of_toNat_eq (Int.ofNat.inj he))
  intro h1
  have h2 : p[j].toNat ^^^ by_.toNat = p[j].toNat := by omega
  have h3 : by_.toNat = 0 := by
    have := congrArg (fun x => p[j].toNat ^^^ x) h2
    simpa [← Nat.xor_assoc] using this
  omega
end Go.Proofs.Ytlfcolmepieknaa.Pure
