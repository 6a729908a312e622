/- What symbols cost in all: what huff.Cost computes. The condition (rows of at most a million) stands in the theorem. -/
import Derived.Test.YtachnclfgjdglaaCodes
import Derived.Deep.QuietTactic
namespace Go.Proofs.Ytachnclfgjdglaa.Coin
open Go.RowKit Go.Sort Go.Proofs.YtachnclfgjdglaaW.PrintWords Go.Proofs.YtachnclfgjdglaaW.PrintLast Go.Proofs.YtachnclfgjdglaaW.PrintMore
set_option linter.unusedVariables false
set_option linter.unusedSimpArgs false

def costP (a b : List Int) : Nat → Int
  | 0 => 0
  | k + 1 => wrap64 (costP a b k + wrap64 (a.getD k 0 * b.getD k 0))
theorem World.drewN_succ' (w : World) (q : Nat) : (w.drewN q).drew = w.drewN (q + 1) := rfl
set_option maxHeartbeats 4000000 in
theorem cost (A B : Option Addr) (ca cb : Nat) (la lb : List Int) (w : World) (hA : Kd.C (Kd.int .i64) w A la.length la) (hB : Kd.C (Kd.int .i64) w B lb.length lb) (hn : la.length ≤ 1000000) :
    Calls Try.prog 20 #[.slice A la.length ca, .slice B lb.length cb] w fun e w' => e = .returned (.int .i64 (costP la lb (min la.length lb.length))) ∧ ∃ q, w' = w.drewN q := by
  have HA := Aside0.mk hA
  have HB := Aside0.mk hB
  have HN := Aside0.mk hn
  obtain ⟨n, hm⟩ : ∃ n, n = min la.length lb.length := ⟨_, rfl⟩
  rw [← hm]
  have HM := Aside0.mk (show n ≤ la.length ∧ n ≤ lb.length by omega)
  by_cases hle : la.length ≤ lb.length
  · have he : n = la.length := by omega
    rw [he] at HM ⊢
    have q1 : (la.length : Int) ≤ (lb.length : Int) := by omega
    have q2 : decide ((la.length : Int) ≤ (lb.length : Int)) = true := decide_eq_true q1
    have q3 : ¬ (lb.length : Int) < (la.length : Int) := by omega
    have q4 : decide ((lb.length : Int) < (la.length : Int)) = false := decide_eq_false q3
    have q5 : ¬ lb.length < la.length := by omega
    have q6 : min (la.length : Int) (lb.length : Int) = (la.length : Int) := by omega
    have q7 : min la.length lb.length = la.length := by omega
    clear hA hB hn hm he hle
    go_enter Try.func20, Try.ntmps20
    go_wp2
    clear q1 q2 q3 q4 q5 q6 q7
    go_loopg [5, 6, 12] la.length (fun gg v5 _ v12 wr => ∃ k : Nat, k ≤ la.length ∧ la.length - k ≤ gg ∧ v12 = .int .i64 k ∧ v5 = .int .i64 (costP la lb k) ∧ Aside0 (∃ q, wr = w.drewN q))
    case atStart => exact ⟨0, by omega, by omega, rfl, rfl, ⟨0, rfl⟩⟩
    case round =>
      obtain ⟨k, hk, hgg, rfl, rfl, HW⟩ := hrel
      have hw := HW.out
      by_cases hlt : k < la.length
      case neg =>
        have hke : k = la.length := by omega
        subst hke
        have hd1 : decide ((la.length : Int) < (la.length : Int)) = false := decide_eq_false (by omega)
        clear hk hgg hlt hw
        go_wp2
        go_ret
        exact ⟨rfl, HW.out⟩
      have hd1 : decide ((k : Int) < (la.length : Int)) = true := decide_eq_true (by omega)
      have hkz : (k : Int) < (la.length : Int) := by omega
      have hm2 := HM.out
      obtain ⟨ad, e1, ha0⟩ := at_i HA.out k (by omega)
      obtain ⟨bd, e2, hb0⟩ := at_i HB.out k (by omega)
      cases e1
      cases e2
      have hs : costP la lb (k + 1) = wrap64 (costP la lb k + wrap64 (la.getD k 0 * lb.getD k 0)) := rfl
      have ha : wr.cell? (ad.add k) = some (.int .i64 (la.getD k 0)) := by obtain ⟨q, rfl⟩ := hw; exact ha0
      have hb : wr.cell? (bd.add k) = some (.int .i64 (lb.getD k 0)) := by obtain ⟨q, rfl⟩ := hw; exact hb0
      clear ha0 hb0 hw
      generalize la.getD k 0 = x at ha hs
      generalize lb.getD k 0 = y at hb hs
      generalize costP la lb k = n0 at hs ⊢
      have hka : k < la.length := by omega
      have hkb : k < lb.length := by omega
      have hkaz : (k : Int) < (la.length : Int) := by omega
      have hkbz : (k : Int) < (lb.length : Int) := by omega
      have hw2 : wrap64 ((k : Int) + 1) = ((k + 1 : Nat) : Int) := by have := HN.out; unfold wrap64; omega
      have HS := Aside0.mk hs
      have HK := Aside0.mk hlt
      have HGG := Aside0.mk hgg
      have HW2 := Aside0.mk hw2
      clear hs hgg hm2 hk
      go_wp2
      go_region
      clear hw2 hkz hkaz hkbz hka hkb hd1
      go_wp2
      go_roundg (la.length - (k + 1))
      case measure => have := HK.out; have := HGG.out; omega
      case rel =>
        have h1 := HK.out
        exact ⟨k + 1, by omega, by omega, by first | rw [HW2.out] | go_num, by rw [HS.out], ⟨by obtain ⟨q, hq⟩ := HW.out; exact ⟨q + 1, by rw [hq]; rfl⟩⟩⟩
  · have he : n = lb.length := by omega
    rw [he] at HM ⊢
    have q1 : ¬ (la.length : Int) ≤ (lb.length : Int) := by omega
    have q2 : decide ((la.length : Int) ≤ (lb.length : Int)) = false := decide_eq_false q1
    have q3 : (lb.length : Int) < (la.length : Int) := by omega
    have q4 : decide ((lb.length : Int) < (la.length : Int)) = true := decide_eq_true q3
    have q5 : lb.length < la.length := by omega
    have q6 : min (la.length : Int) (lb.length : Int) = (lb.length : Int) := by omega
    have q7 : min la.length lb.length = lb.length := by omega
    clear hA hB hn hm he hle
    go_enter Try.func20, Try.ntmps20
    go_wp2
    clear q1 q2 q3 q4 q5 q6 q7
    go_loopg [5, 6, 12] lb.length (fun gg v5 _ v12 wr => ∃ k : Nat, k ≤ lb.length ∧ lb.length - k ≤ gg ∧ v12 = .int .i64 k ∧ v5 = .int .i64 (costP la lb k) ∧ Aside0 (∃ q, wr = w.drewN q))
    case atStart => exact ⟨0, by omega, by omega, rfl, rfl, ⟨0, rfl⟩⟩
    case round =>
      obtain ⟨k, hk, hgg, rfl, rfl, HW⟩ := hrel
      have hw := HW.out
      by_cases hlt : k < lb.length
      case neg =>
        have hke : k = lb.length := by omega
        subst hke
        have hd1 : decide ((lb.length : Int) < (lb.length : Int)) = false := decide_eq_false (by omega)
        clear hk hgg hlt hw
        go_wp2
        go_ret
        exact ⟨rfl, HW.out⟩
      have hd1 : decide ((k : Int) < (lb.length : Int)) = true := decide_eq_true (by omega)
      have hkz : (k : Int) < (lb.length : Int) := by omega
      have hm2 := HM.out
      obtain ⟨ad, e1, ha0⟩ := at_i HA.out k (by omega)
      obtain ⟨bd, e2, hb0⟩ := at_i HB.out k (by omega)
      cases e1
      cases e2
      have hs : costP la lb (k + 1) = wrap64 (costP la lb k + wrap64 (la.getD k 0 * lb.getD k 0)) := rfl
      have ha : wr.cell? (ad.add k) = some (.int .i64 (la.getD k 0)) := by obtain ⟨q, rfl⟩ := hw; exact ha0
      have hb : wr.cell? (bd.add k) = some (.int .i64 (lb.getD k 0)) := by obtain ⟨q, rfl⟩ := hw; exact hb0
      clear ha0 hb0 hw
      generalize la.getD k 0 = x at ha hs
      generalize lb.getD k 0 = y at hb hs
      generalize costP la lb k = n0 at hs ⊢
      have hka : k < la.length := by omega
      have hkb : k < lb.length := by omega
      have hkaz : (k : Int) < (la.length : Int) := by omega
      have hkbz : (k : Int) < (lb.length : Int) := by omega
      have hw2 : wrap64 ((k : Int) + 1) = ((k + 1 : Nat) : Int) := by have := HN.out; unfold wrap64; omega
      have HS := Aside0.mk hs
      have HK := Aside0.mk hlt
      have HGG := Aside0.mk hgg
      have HW2 := Aside0.mk hw2
      clear hs hgg hm2 hk
      go_wp2
      go_region
      clear hw2 hkz hkaz hkbz hka hkb hd1
      go_wp2
      go_roundg (lb.length - (k + 1))
      case measure => have := HK.out; have := HGG.out; omega
      case rel =>
        have h1 := HK.out
        exact ⟨k + 1, by omega, by omega, by first | rw [HW2.out] | go_num, by rw [HS.out], ⟨by obtain ⟨q, hq⟩ := HW.out; exact ⟨q + 1, by rw [hq]; rfl⟩⟩⟩
end Go.Proofs.Ytachnclfgjdglaa.Coin
