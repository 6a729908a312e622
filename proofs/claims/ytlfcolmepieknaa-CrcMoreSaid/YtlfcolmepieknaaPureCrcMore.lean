/- From any sum crc.More goes on just as the document's answer does, and nothing behind it leaves it. No conditions. -/
import Derived.Test.YtlfcolmepieknaaPAx2
import Derived.Test.YtlfcolmepieknaaMath
namespace Go.Proofs.Ytlfcolmepieknaa.Pure
open Go.RowKit Go.Proofs.Ytlfcolmepieknaa.PA Go.Proofs.YtlfcolmepieknaaW.PrintWords Go.Proofs.YtlfcolmepieknaaW.PrintLast
open Go.Proofs.Ytlfcolmepieknaa.Mat Go.Proofs.YtlfcolmepieknaaExt

theorem CrcMore : rubricatorlaw2_CrcMore.Pure := by
  intro a l hw _ hl _
  have hl' : l.length ≤ 140737488355328 := by omega
  obtain ⟨s, rfl⟩ : ∃ s : BitVec 32, a = (s.toNat : Int) := by
    have h := wf_u32 hw
    refine ⟨BitVec.ofInt 32 a, ?_⟩
    rw [← byte_bv]
    omega
  refine Ev.rounds (r := true) ?_
  unfold rubricatorlaw2_CrcMore.f
  by_cases h : (l.length : Int) > 4000
  · simp only [if_pos h]
    exact Ev.now _
  · simp only [if_neg h]
    refine Ev.bind (More_ev s l hl') (Ev.bind (refMore_ev s l hl') ?_)
    simp only [if_true]
    refine Ev.bind (More_ev s [] (by simp)) ?_
    simp only [crc_nil, if_true]
    exact Ev.bind known_ev (Ev.now _)
end Go.Proofs.Ytlfcolmepieknaa.Pure
