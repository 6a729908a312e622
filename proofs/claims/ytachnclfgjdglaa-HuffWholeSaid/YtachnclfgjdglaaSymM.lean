/- The library's merge in place at structs: symMergeCmpFunc. No conditions beside those that the theorem says. -/
import Derived.Test.YtachnclfgjdglaaSym
import Derived.Deep.Cut
namespace Go.Proofs.YtachnclfgjdglaaSrt
open Go.Shelf Go.RowKit Go.Lib Go.Sort
set_option linter.unusedVariables false
set_option linter.unusedSimpArgs false
variable {α : Type} [Inhabited α]
variable {P : Program} {k : Nat}
set_option maxHeartbeats 40000000 in
set_option maxRecDepth 1000000 in
/-- two rows in order beside each other are one; what is equal stays in order -/
theorem symMerge (L : LayS P k) (enc : α → List Value) (g : Nat) (cb : Array Value) (blk off cap : Nat) (d0 : Array α) (w0 : World) (R : RowK enc k w0 blk off d0) (hsz : d0.size < 1152921504606846976) (cf : α → α → Int) (key : α → Int) (hkey : ∀ x y, cf x y < 0 ↔ key x < key y) (eg : ∀ args w, (callFunc g args).run P w = .ok (.enter g args) w) (hcmp : CmpLays P g cb enc k cf blk off d0.size w0) : ∀ (s : Nat) (w : World) (d : Array α) (S : SWK enc k w0 blk off d w) (Q A B Z : List α) (hd : d.toList = Q ++ A ++ B ++ Z) (hs : d0.size = d.size) (p m q : Nat) (hp : p = Q.length) (hm : m = p + A.length) (hq : q = m + B.length) (hA : 0 < A.length) (hB : 0 < B.length) (sA : St key A) (sB : St key B) (hlen : A.length + B.length ≤ s),
    Calls P 49 #[.slice (some ⟨blk, off, none⟩) d.size cap, .int .i64 p, .int .i64 m, .int .i64 q, .func (.func g) #[] cb] w fun e w' => e = .returned (.tuple #[]) ∧ SWK enc k w0 blk off (Q ++ mrg key A B ++ Z).toArray w' := by
  have mixed := L.mixed; have t0 := L.t0; have a0 := L.a0; have z0 := L.z0; have v0 := L.v0; have t3 := L.t3; have a3 := L.a3; have z3 := L.z3; have v3 := L.v3; have t4 := L.t4; have a4 := L.a4; have z4 := L.z4; have v4 := L.v4; have t32 := L.t32; have a32 := L.a32; have z32 := L.z32; have v32 := L.v32; have t50 := L.t50; have a50 := L.a50; have z50 := L.z50; have v50 := L.v50; have t65 := L.t65; have a65 := L.a65; have z65 := L.z65; have v65 := L.v65; have aE := L.aE; have zE := L.zE
  have e50 : ∀ args w, (callFunc 50 args).run P w = .ok (.enter 50 args) w := enters_of L.f50 (by kernel_rfl) rfl
  have e49 : ∀ args w, (callFunc 49 args).run P w = .ok (.enter 49 args) w := enters_of L.f49 (by kernel_rfl) rfl
  have HC : Aside _ := hcmp
  have HKEY : Aside _ := hkey
  clear hkey
  intro s
  induction s with
  | zero =>
    intro w d S Q A B Z hd hs p m q hp hm hq hA hB sA sB hlen
    omega
  | succ s IH =>
    intro w d S Q A B Z hd hs p m q hp hm hq hA hB sA sB hlen
    have S0 : Aside _ := S
    by_cases hA1 : A.length = 1
    · as_aux_lemma =>
      obtain ⟨x, rfl⟩ : ∃ x, A = [x] := by
        match A, hA1 with
        | [x], _ => exact ⟨x, rfl⟩
      have f1 : (m : Int) - (p : Int) = 1 := by rw [hm]; simp; omega
      have hdp : d[p]! = x := by
        rw [hp]
        exact at_row d Q (B ++ Z) x (by rw [hd]; simp)
      have HB : Hid (∀ t, t < B.length → d[m + t]! = B[t]!) := fun t ht => by
        have := at_mid d (Q ++ [x]) B Z (by rw [hd]) t ht
        rw [show (Q ++ [x]).length = m by rw [hm, hp]; simp] at this
        exact this
      have HD : Hid (d.toList = Q ++ [x] ++ B ++ Z) := hd
      have HP : Hid (p = Q.length ∧ m = p + 1 ∧ q = m + B.length ∧ 0 < B.length ∧ St key B ∧ d[p]! = x) := ⟨hp, by rw [hm]; rfl, hq, hB, sB, hdp⟩
      have hpm : p < m := by have := HP.out; omega
      have hmq : m < q := by have := HP.out; omega
      have hqs : q ≤ d.size := by have h := size_of hd; simp at h; have := HP.out; omega
      clear hp hm hq hd hA sA sB hdp hlen hB IH S
      go_enter L.f49, Try.ntmps49
      go_wp2
      go_loopg [10, 11] (q - m) (fun kx s10 s11 wr => ∃ (i j : Nat), s10 = .int .i64 i ∧ s11 = .int .i64 j ∧ m ≤ i ∧ i ≤ j ∧ j ≤ q ∧ j - i ≤ kx ∧ Aside (SWK enc k w0 blk off d wr) ∧ Hid ((i = m ∨ key B[i - 1 - m]! < key x) ∧ (j = q ∨ key x ≤ key B[j - m]!)))
      case atStart => exact ⟨m, q, rfl, rfl, by omega, by omega, by omega, by omega, S0, ⟨.inl rfl, .inl rfl⟩⟩
      case round =>
        obtain ⟨i, j, rfl, rfl, hmi, hij, hjq, hkx, S1, HE⟩ := hrel
        clear S0
        by_cases hltij : i < j
        · have hltz : (i : Int) < (j : Int) := by omega
          obtain ⟨h, hh⟩ : ∃ h, h = (i + j) / 2 := ⟨_, rfl⟩
          have hz : ((i : Int) + (j : Int)) / 2 = (h : Int) := by omega
          have hih : i ≤ h := by omega
          have hhj : h < j := by omega
          have hs2 : h < d.size := by omega
          have HH : Hid (h = (i + j) / 2) := hh
          clear hh
          have hsz2 : (h : Int) < (d.size : Int) := by omega
          have hpz : (p : Int) < (d.size : Int) := by omega
          by_cases hlt : cf d[h]! d[p]! < 0
          · have HK : Hid (key B[h - m]! < key x) := by
              have e := (HKEY.out _ _).1 hlt
              have e2 := HB.out (h - m) (by have := HP.out; omega)
              rw [show m + (h - m) = h by omega] at e2
              rw [e2, HP.out.2.2.2.2.2] at e
              exact e
            obtain ⟨x24, hx24⟩ : ∃ x, x = d[h]! := ⟨_, rfl⟩
            obtain ⟨y24, hy24⟩ : ∃ x, x = d[p]! := ⟨_, rfl⟩
            have l24a := S1.out.ld R (by omega) P (h) (by omega)
            have l24b := S1.out.ld R (by omega) P (p) (by omega)
            rw [← hx24] at l24a
            rw [← hy24] at l24b
            have hc24 := S1.out.cmp HC.out (by omega) x24 y24
            have hd24 : decide (cf x24 y24 < 0) = true := by rw [hx24, hy24]; exact decide_eq_true hlt
            have hv24 : cf x24 y24 < 0 := by rw [hx24, hy24]; exact hlt
            clear hx24 hy24
            go_wp2_with fail
            go_quiet_grown (first | (go_at_fn g; refine Calls.grown_of (hc24 _ _)))
            have S2 : Aside (SWK enc k w0 blk off d (grow (wr.drewN nq) osq)) := S1.out.grown nq osq
            clear l24a l24b hc24 S1
            generalize grow (wr.drewN nq) osq = w2 at S2 ⊢
            clear nq osq
            go_wp2
            go_roundg (j - (h + 1))
            case measure => omega
            case rel => exact ⟨h + 1, j, by go_num, rfl, by omega, by omega, hjq, Nat.le_refl _, S2, ⟨.inr (by rw [show h + 1 - 1 - m = h - m by omega]; exact HK.out), HE.out.2⟩⟩
          · have HK : Hid (key x ≤ key B[h - m]!) := by
              have e := fun h' => hlt ((HKEY.out _ _).2 h')
              have e2 := HB.out (h - m) (by have := HP.out; omega)
              rw [show m + (h - m) = h by omega] at e2
              rw [e2, HP.out.2.2.2.2.2] at e
              exact Int.not_lt.1 e
            obtain ⟨x24, hx24⟩ : ∃ x, x = d[h]! := ⟨_, rfl⟩
            obtain ⟨y24, hy24⟩ : ∃ x, x = d[p]! := ⟨_, rfl⟩
            have l24a := S1.out.ld R (by omega) P (h) (by omega)
            have l24b := S1.out.ld R (by omega) P (p) (by omega)
            rw [← hx24] at l24a
            rw [← hy24] at l24b
            have hc24 := S1.out.cmp HC.out (by omega) x24 y24
            have hd24 : decide (cf x24 y24 < 0) = false := by rw [hx24, hy24]; exact decide_eq_false hlt
            have hv24 : ¬ cf x24 y24 < 0 := by rw [hx24, hy24]; exact hlt
            clear hx24 hy24
            go_wp2_with fail
            go_quiet_grown (first | (go_at_fn g; refine Calls.grown_of (hc24 _ _)))
            have S2 : Aside (SWK enc k w0 blk off d (grow (wr.drewN nq) osq)) := S1.out.grown nq osq
            clear l24a l24b hc24 S1
            generalize grow (wr.drewN nq) osq = w2 at S2 ⊢
            clear nq osq
            go_wp2
            go_roundg (h - i)
            case measure => omega
            case rel => exact ⟨i, h, rfl, by first | rfl | go_num, hmi, by omega, by omega, Nat.le_refl _, S2, ⟨HE.out.1, .inr HK.out⟩⟩
        · have hltz : ¬ (i : Int) < (j : Int) := by omega
          obtain rfl : i = j := by omega
          have HR : Hid (mrg key [x] B = B.take (i - m) ++ x :: B.drop (i - m)) := one_l key x B HP.out.2.2.2.2.1 (i - m) (by have := HP.out; omega) (by
            rcases HE.out.1 with h | h
            · exact .inl (by omega)
            · by_cases h0 : i = m
              · exact .inl (by omega)
              · exact .inr (by rw [show i - m - 1 = i - 1 - m by omega]; exact h)) (by
            rcases HE.out.2 with h | h
            · exact .inl (by have := HP.out; omega)
            · exact .inr h)
          obtain ⟨i1, rfl⟩ : ∃ i1, i = i1 + 1 := ⟨i - 1, by omega⟩
          clear hltij hkx HE hij hltz
          go_wp2
          go_loopg [13] (i1 - p) (fun kx s13 wq => ∃ (kk : Nat) (dk : Array α), s13 = .int .i64 kk ∧ p ≤ kk ∧ kk ≤ i1 ∧ i1 - kk ≤ kx ∧ dk.size = d.size ∧ Aside (SWK enc k w0 blk off dk wq) ∧ Hid (dk.toList = Q ++ B.take (kk - p) ++ x :: B.drop (kk - p) ++ Z))
          case atStart => exact ⟨p, d, rfl, Nat.le_refl _, by omega, Nat.le_refl _, rfl, S1, by show _ = _; rw [HD.out, Nat.sub_self]; simp⟩
          case round =>
            obtain ⟨kk, dk, rfl, hpk, hki, hkx, hds, S1, HE⟩ := hrel
            by_cases hlt : kk < i1
            · have hltz : (kk : Int) < (i1 : Int) := by omega
              have hkz : (kk : Int) < (d.size : Int) := by omega
              have eau : ((kk : Int) + 1).toNat = kk + 1 := by omega
              have pau : (0 : Int) ≤ (kk : Int) + 1 := by omega
              have bau : (kk : Int) + 1 < (d.size : Int) := by omega
              have rau : IntKind.i64.wrap ((kk : Int) + 1) = (kk : Int) + 1 := by rw [IntKind.wrap_i64]; omega
              have S4 : Aside (SWK enc k w0 blk off (swp dk kk (kk + 1)) ((wr.drew.setCells blk (off + kk * k) (enc dk[(kk + 1)]!)).setCells blk (off + (kk + 1) * k) (enc dk[kk]!))) := S1.out.swapped R kk (kk + 1) (by omega) (by omega)
              have l26a := S1.out.ld1 R (by omega) P kk (by omega)
              have l26b := S1.out.ld1 R (by omega) P (kk + 1) (by omega)
              have s26a := S1.out.st1 R (by omega) P kk (by omega) dk[(kk + 1)]!
              have s26b := S1.out.st2 R (by omega) P kk (kk + 1) (by omega) (by omega) dk[(kk + 1)]! dk[kk]!
              have n26a : (enc dk[kk]!).length = k := R.hk _
              have n26b : (enc dk[(kk + 1)]!).length = k := R.hk _
              generalize enc dk[kk]! = cI26 at S4 l26a s26b n26a
              generalize enc dk[(kk + 1)]! = cJ26 at S4 l26b s26a s26b n26b
              clear S1
              go_wp2_with fail
              go_big_region_o
              clear l26a l26b s26a s26b
              generalize (wr.drew.setCells blk (off + kk * k) cJ26).setCells blk (off + (kk + 1) * k) cI26 = w4 at S4 ⊢
              go_wp2
              go_roundg (i1 - (kk + 1))
              case measure => omega
              case rel =>
                refine ⟨kk + 1, swp dk kk (kk + 1), by go_num, by omega, by omega, Nat.le_refl _, by rw [size_swp]; exact hds, S4, ?_⟩
                show _ = _
                have hb : kk - p < B.length := by have := HP.out; omega
                have h := swp_row dk (Q ++ B.take (kk - p)) [] (B.drop (kk - p + 1) ++ Z) x B[kk - p] (by
                  rw [HE.out, List.drop_eq_getElem_cons hb]
                  simp only [List.append_assoc, List.cons_append, List.nil_append]) kk (kk + 1) (by
                  rw [List.length_append, List.length_take, Nat.min_eq_left (by omega)]
                  have := HP.out
                  omega) (by
                  rw [List.length_append, List.length_take, Nat.min_eq_left (by omega)]
                  have := HP.out
                  simp
                  omega)
                rw [h, show kk + 1 - p = kk - p + 1 by omega, List.take_succ_eq_append_getElem hb]
                simp only [List.append_assoc, List.cons_append, List.nil_append]
            · have hltz : ¬ (kk : Int) < (i1 : Int) := by omega
              obtain rfl : kk = i1 := by omega
              go_wp2
              (try simp only [Exit.inBlock, Exit.then]); first | refine bodyPost_ret (results_none rfl _ _ _) rfl ?_ | refine bodyPost_end (results_none rfl _ _ _) rfl ?_
              refine ⟨rfl, ?_⟩
              have h := HE.out
              rw [HR.out, show kk + 1 - m = kk - p by have := HP.out; omega]
              have h2 := S1.out
              rw [toArr h] at h2
              simpa only [List.append_assoc, List.cons_append, List.nil_append] using h2
    have e1 : ((m : Int) - (p : Int) == 1) = false := by rw [beq_eq_false_iff_ne]; have := hm; omega
    have e1' : ¬ ((m : Int) - (p : Int) = 1) := by have := hm; omega
    by_cases hB1 : B.length = 1
    · as_aux_lemma =>
      obtain ⟨y, rfl⟩ : ∃ y, B = [y] := by
        match B, hB1 with
        | [y], _ => exact ⟨y, rfl⟩
      have f2 : (q : Int) - (m : Int) = 1 := by rw [hq]; simp; omega
      have hdm : d[m]! = y := by
        have := at_row d (Q ++ A) Z y (by rw [hd]; simp)
        rw [show (Q ++ A).length = m by rw [hm, hp]; simp] at this
        exact this
      have HB : Hid (∀ t, t < A.length → d[p + t]! = A[t]!) := fun t ht => by
        rw [hp]
        exact at_mid d Q A ([y] ++ Z) (by rw [hd]; simp) t ht
      have HD : Hid (d.toList = Q ++ A ++ [y] ++ Z) := hd
      have HP : Hid (p = Q.length ∧ m = p + A.length ∧ q = m + 1 ∧ 0 < A.length ∧ St key A ∧ d[m]! = y) := ⟨hp, hm, by rw [hq]; rfl, hA, sA, hdm⟩
      have hpm : p < m := by have := HP.out; omega
      have hmq : m < q := by have := HP.out; omega
      have hqs : q ≤ d.size := by have h := size_of hd; simp at h; have := HP.out; omega
      clear hp hm hq hd hA sA sB hdm hlen hB IH S hA1
      go_enter L.f49, Try.ntmps49
      go_wp2
      go_loopg [14, 15] (m - p) (fun kx s10 s11 wr => ∃ (i j : Nat), s10 = .int .i64 i ∧ s11 = .int .i64 j ∧ p ≤ i ∧ i ≤ j ∧ j ≤ m ∧ j - i ≤ kx ∧ Aside (SWK enc k w0 blk off d wr) ∧ Hid ((i = p ∨ key A[i - 1 - p]! ≤ key y) ∧ (j = m ∨ key y < key A[j - p]!)))
      case atStart => exact ⟨p, m, rfl, rfl, by omega, by omega, by omega, by omega, S0, ⟨.inl rfl, .inl rfl⟩⟩
      case round =>
        obtain ⟨i, j, rfl, rfl, hmi, hij, hjq, hkx, S1, HE⟩ := hrel
        clear S0
        by_cases hltij : i < j
        · have hltz : (i : Int) < (j : Int) := by omega
          obtain ⟨h, hh⟩ : ∃ h, h = (i + j) / 2 := ⟨_, rfl⟩
          have hz : ((i : Int) + (j : Int)) / 2 = (h : Int) := by omega
          have hih : i ≤ h := by omega
          have hhj : h < j := by omega
          have hs2 : h < d.size := by omega
          have HH : Hid (h = (i + j) / 2) := hh
          clear hh
          have hsz2 : (h : Int) < (d.size : Int) := by omega
          have hmz : (m : Int) < (d.size : Int) := by omega
          by_cases hlt : cf d[m]! d[h]! < 0
          · have HK : Hid (key y < key A[h - p]!) := by
              have e := (HKEY.out _ _).1 hlt
              have e2 := HB.out (h - p) (by have := HP.out; omega)
              rw [show p + (h - p) = h by omega] at e2
              rw [e2, HP.out.2.2.2.2.2] at e
              exact e
            obtain ⟨x24, hx24⟩ : ∃ x, x = d[m]! := ⟨_, rfl⟩
            obtain ⟨y24, hy24⟩ : ∃ x, x = d[h]! := ⟨_, rfl⟩
            have l24a := S1.out.ld R (by omega) P (m) (by omega)
            have l24b := S1.out.ld R (by omega) P (h) (by omega)
            rw [← hx24] at l24a
            rw [← hy24] at l24b
            have hc24 := S1.out.cmp HC.out (by omega) x24 y24
            have hd24 : decide (cf x24 y24 < 0) = true := by rw [hx24, hy24]; exact decide_eq_true hlt
            have hv24 : cf x24 y24 < 0 := by rw [hx24, hy24]; exact hlt
            clear hx24 hy24
            go_wp2_with fail
            go_quiet_grown (first | (go_at_fn g; refine Calls.grown_of (hc24 _ _)))
            have S2 : Aside (SWK enc k w0 blk off d (grow (wr.drewN nq) osq)) := S1.out.grown nq osq
            clear l24a l24b hc24 S1
            generalize grow (wr.drewN nq) osq = w2 at S2 ⊢
            clear nq osq
            go_wp2
            go_roundg (h - i)
            case measure => omega
            case rel => exact ⟨i, h, rfl, by first | rfl | go_num, hmi, by omega, by omega, Nat.le_refl _, S2, ⟨HE.out.1, .inr HK.out⟩⟩
          · have HK : Hid (key A[h - p]! ≤ key y) := by
              have e := fun h' => hlt ((HKEY.out _ _).2 h')
              have e2 := HB.out (h - p) (by have := HP.out; omega)
              rw [show p + (h - p) = h by omega] at e2
              rw [e2, HP.out.2.2.2.2.2] at e
              exact Int.not_lt.1 e
            obtain ⟨x24, hx24⟩ : ∃ x, x = d[m]! := ⟨_, rfl⟩
            obtain ⟨y24, hy24⟩ : ∃ x, x = d[h]! := ⟨_, rfl⟩
            have l24a := S1.out.ld R (by omega) P (m) (by omega)
            have l24b := S1.out.ld R (by omega) P (h) (by omega)
            rw [← hx24] at l24a
            rw [← hy24] at l24b
            have hc24 := S1.out.cmp HC.out (by omega) x24 y24
            have hd24 : decide (cf x24 y24 < 0) = false := by rw [hx24, hy24]; exact decide_eq_false hlt
            have hv24 : ¬ cf x24 y24 < 0 := by rw [hx24, hy24]; exact hlt
            clear hx24 hy24
            go_wp2_with fail
            go_quiet_grown (first | (go_at_fn g; refine Calls.grown_of (hc24 _ _)))
            have S2 : Aside (SWK enc k w0 blk off d (grow (wr.drewN nq) osq)) := S1.out.grown nq osq
            clear l24a l24b hc24 S1
            generalize grow (wr.drewN nq) osq = w2 at S2 ⊢
            clear nq osq
            go_wp2
            go_roundg (j - (h + 1))
            case measure => omega
            case rel => exact ⟨h + 1, j, by go_num, rfl, by omega, by omega, hjq, Nat.le_refl _, S2, ⟨.inr (by rw [show h + 1 - 1 - p = h - p by omega]; exact HK.out), HE.out.2⟩⟩
        · have hltz : ¬ (i : Int) < (j : Int) := by omega
          obtain rfl : i = j := by omega
          have HR : Hid (mrg key A [y] = A.take (i - p) ++ y :: A.drop (i - p)) := one_r key y A HP.out.2.2.2.2.1 (i - p) (by have := HP.out; omega) (by
            rcases HE.out.1 with h | h
            · exact .inl (by omega)
            · by_cases h0 : i = p
              · exact .inl (by omega)
              · exact .inr (by rw [show i - p - 1 = i - 1 - p by omega]; exact h)) (by
            rcases HE.out.2 with h | h
            · exact .inl (by have := HP.out; omega)
            · exact .inr h)
          clear hltij hkx HE hij hltz
          go_wp2
          go_loopg [17] (m - i) (fun kx s13 wq => ∃ (kk : Nat) (dk : Array α), s13 = .int .i64 kk ∧ i ≤ kk ∧ kk ≤ m ∧ kk - i ≤ kx ∧ dk.size = d.size ∧ Aside (SWK enc k w0 blk off dk wq) ∧ Hid (dk.toList = Q ++ A.take (kk - p) ++ y :: A.drop (kk - p) ++ Z))
          case atStart => exact ⟨m, d, rfl, by omega, Nat.le_refl _, Nat.le_refl _, rfl, S1, by show _ = _; rw [HD.out, List.take_of_length_le (by have := HP.out; omega), List.drop_of_length_le (by have := HP.out; omega)]⟩
          case round =>
            obtain ⟨kk, dk, rfl, hpk, hki, hkx, hds, S1, HE⟩ := hrel
            by_cases hlt : i < kk
            · obtain ⟨kp, rfl⟩ : ∃ kp, kk = kp + 1 := ⟨kk - 1, by omega⟩
              have hltz : (i : Int) < (kp : Int) + 1 := by omega
              have hltz2 : decide ((kp : Int) + 1 > (i : Int)) = true := decide_eq_true (by omega)
              have hwp : IntKind.i64.wrap (kp : Int) = (kp : Int) := by rw [IntKind.wrap_i64]; omega
              have jz1 : (kp : Int) < (d.size : Int) := by omega
              have eau : ((kp : Int) + 1).toNat = kp + 1 := by omega
              have pau : (0 : Int) ≤ (kp : Int) + 1 := by omega
              have bau : (kp : Int) + 1 < (d.size : Int) := by omega
              have rau : IntKind.i64.wrap ((kp : Int) + 1) = (kp : Int) + 1 := by rw [IntKind.wrap_i64]; omega
              have S4 : Aside (SWK enc k w0 blk off (swp dk (kp + 1) kp) ((wr.drew.setCells blk (off + (kp + 1) * k) (enc dk[kp]!)).setCells blk (off + kp * k) (enc dk[(kp + 1)]!))) := S1.out.swapped R (kp + 1) kp (by omega) (by omega)
              have l26a := S1.out.ld1 R (by omega) P (kp + 1) (by omega)
              have l26b := S1.out.ld1 R (by omega) P kp (by omega)
              have s26a := S1.out.st1 R (by omega) P (kp + 1) (by omega) dk[kp]!
              have s26b := S1.out.st2 R (by omega) P (kp + 1) kp (by omega) (by omega) dk[kp]! dk[(kp + 1)]!
              have n26a : (enc dk[(kp + 1)]!).length = k := R.hk _
              have n26b : (enc dk[kp]!).length = k := R.hk _
              generalize enc dk[(kp + 1)]! = cI26 at S4 l26a s26b n26a
              generalize enc dk[kp]! = cJ26 at S4 l26b s26a s26b n26b
              clear S1
              go_wp2_with fail
              go_big_region_o
              clear l26a l26b s26a s26b
              generalize (wr.drew.setCells blk (off + (kp + 1) * k) cJ26).setCells blk (off + kp * k) cI26 = w4 at S4 ⊢
              go_wp2
              go_roundg (kp - i)
              case measure => omega
              case rel =>
                refine ⟨kp, swp dk (kp + 1) kp, by first | rfl | go_num | (congr 1; omega), by omega, by omega, Nat.le_refl _, by rw [size_swp]; exact hds, S4, ?_⟩
                show _ = _
                have hb : kp - p < A.length := by have := HP.out; omega
                have h := swp_list (Q ++ A.take (kp - p)) (A.drop (kp - p + 1) ++ Z) A[kp - p] y dk (by
                  rw [HE.out, show kp + 1 - p = kp - p + 1 by omega, List.take_succ_eq_append_getElem hb]
                  simp only [List.append_assoc, List.cons_append, List.nil_append])
                rw [show (Q ++ A.take (kp - p)).length = kp by
                  rw [List.length_append, List.length_take, Nat.min_eq_left (by omega)]
                  have := HP.out
                  omega] at h
                rw [h, List.drop_eq_getElem_cons hb]
                simp only [List.append_assoc, List.cons_append, List.nil_append]
            · have hltz : ¬ (i : Int) < (kk : Int) := by omega
              obtain rfl : kk = i := by omega
              go_wp2
              (try simp only [Exit.inBlock, Exit.then]); first | refine bodyPost_ret (results_none rfl _ _ _) rfl ?_ | refine bodyPost_end (results_none rfl _ _ _) rfl ?_
              refine ⟨rfl, ?_⟩
              have h := HE.out
              rw [HR.out]
              have h2 := S1.out
              rw [toArr h] at h2
              simpa only [List.append_assoc, List.cons_append, List.nil_append] using h2
    have e2 : ((q : Int) - (m : Int) == 1) = false := by rw [beq_eq_false_iff_ne]; have := hq; omega
    have e2' : ¬ ((q : Int) - (m : Int) = 1) := by have := hq; omega
    have HA : Hid (∀ t, t < A.length → d[p + t]! = A[t]!) := fun t ht => by
      rw [hp]
      exact at_mid d Q A (B ++ Z) (by rw [hd]; simp) t ht
    have HB : Hid (∀ t, t < B.length → d[m + t]! = B[t]!) := fun t ht => by
      have := at_mid d (Q ++ A) B Z (by rw [hd]) t ht
      rw [show (Q ++ A).length = m by rw [hm, hp]; simp] at this
      exact this
    have HD : Hid (d.toList = Q ++ A ++ B ++ Z) := hd
    have HP : Hid (p = Q.length ∧ m = p + A.length ∧ q = m + B.length ∧ 1 < A.length ∧ 1 < B.length ∧ A.length + B.length ≤ s + 1 ∧ St key A ∧ St key B) := ⟨hp, hm, hq, by omega, by omega, hlen, sA, sB⟩
    have hpm : p < m := by have := HP.out; omega
    have hmq : m < q := by have := HP.out; omega
    have hqs : q ≤ d.size := by have h := size_of hd; simp at h; have := HP.out; omega
    clear hp hm hq hd hA sA sB hlen hB S hA1 hB1
    obtain ⟨mid, hmid⟩ : ∃ x, x = (p + q) / 2 := ⟨_, rfl⟩
    have hmidz : ((p : Int) + (q : Int)) / 2 = (mid : Int) := by omega
    have hm1 : p < mid := by have := HP.out; omega
    have hm2 : mid < q := by omega
    obtain ⟨n, hn⟩ : ∃ x, x = mid + m := ⟨_, rfl⟩
    have hnz : (mid : Int) + (m : Int) = (n : Int) := by omega
    have hnb : n ≤ d.size + d.size := by omega
    obtain ⟨pp, hpp⟩ : ∃ x, n = x + 1 := ⟨n - 1, by omega⟩
    have hppz : (n : Int) - 1 = (pp : Int) := by omega
    have HN : Hid (mid = (p + q) / 2 ∧ n = mid + m ∧ n = pp + 1) := ⟨hmid, hn, hpp⟩
    clear hmid hn hpp
    go_enter L.f49, Try.ntmps49
    go_upto_if 140 with fail
    go_cut [20, 21] from 25 (fun s20 s21 wc => ∃ st0 r0 : Nat, s20 = .int .i64 st0 ∧ s21 = .int .i64 r0 ∧ wc = w ∧ Hid (p ≤ st0 ∧ st0 ≤ r0 ∧ r0 ≤ m ∧ m ≤ n - r0 ∧ n - st0 ≤ q ∧ (st0 = p ∨ n - st0 = q) ∧ (r0 = m ∨ n - r0 = m)))
    case first => as_aux_lemma =>
      by_cases hgt : mid < m
      · have hgz : decide ((m : Int) > (mid : Int)) = true := decide_eq_true (by omega)
        have hgz' : (mid : Int) < (m : Int) := by omega
        obtain ⟨st0, hst0⟩ : ∃ s, s = n - q := ⟨_, rfl⟩
        have hst0z : (n : Int) - (q : Int) = (st0 : Int) := by have := HN.out; have := HP.out; omega
        have HS0 : Hid (st0 = n - q) := hst0
        clear hst0
        go_wp2
        go_meet
        case rel => exact ⟨st0, mid, rfl, rfl, rfl, by have := HS0.out; have := HN.out; have := HP.out; exact ⟨by omega, by omega, by omega, by omega, by omega, .inr (by omega), .inr (by omega)⟩⟩
      · have hgz : decide ((m : Int) > (mid : Int)) = false := decide_eq_false (by omega)
        have hgz' : ¬ ((mid : Int) < (m : Int)) := by omega
        go_wp2
        go_meet
        case rel => exact ⟨p, m, rfl, rfl, rfl, by have := HN.out; have := HP.out; exact ⟨by omega, by omega, by omega, by omega, by omega, .inl rfl, .inl rfl⟩⟩
    case rest =>
      obtain ⟨st0, r0, rfl, rfl, rfl, HS0⟩ := hcut
      go_wp2
      go_loopg [20, 21] (r0 - st0) (fun kx s10 s11 wr => ∃ (i j : Nat), s10 = .int .i64 i ∧ s11 = .int .i64 j ∧ st0 ≤ i ∧ i ≤ j ∧ j ≤ r0 ∧ j - i ≤ kx ∧ Aside (SWK enc k w0 blk off d wr) ∧ Hid ((i = st0 ∨ key d[i - 1]! ≤ key d[pp - (i - 1)]!) ∧ (j = r0 ∨ key d[pp - j]! < key d[j]!)))
      case atStart => exact ⟨st0, r0, rfl, rfl, by omega, by have := HS0.out; omega, by omega, by omega, S0, ⟨.inl rfl, .inl rfl⟩⟩
      case round =>
        obtain ⟨i, j, rfl, rfl, hmi, hij, hjq, hkx, S1, HE⟩ := hrel
        clear S0
        have hjpp : j ≤ pp + 1 := by have := HS0.out; have := HN.out; have := HP.out; omega
        have hjm : j ≤ m := by have := HS0.out; have := HN.out; have := HP.out; omega
        have hpi : p ≤ i := by have := HS0.out; have := HN.out; have := HP.out; omega
        by_cases hltij : i < j
        · as_aux_lemma =>
          have hltz : (i : Int) < (j : Int) := by omega
          obtain ⟨h, hh⟩ : ∃ h, h = (i + j) / 2 := ⟨_, rfl⟩
          have hz : ((i : Int) + (j : Int)) / 2 = (h : Int) := by omega
          have hih : i ≤ h := by omega
          have hhj : h < j := by omega
          have hs2 : h < d.size := by omega
          have HH : Hid (h = (i + j) / 2) := hh
          clear hh
          have hle : h ≤ pp := by omega
          have hlez : (h : Int) ≤ (pp : Int) := by omega
          have hcs : pp - h < d.size := by have := HS0.out; have := HN.out; have := HP.out; have := HH.out; omega
          have hsz2 : (h : Int) < (d.size : Int) := by omega
          have eac : ((pp : Int) - (h : Int)).toNat = pp - h := by omega
          have pac : (0 : Int) ≤ (pp : Int) - (h : Int) := by omega
          have bac : (pp : Int) - (h : Int) < (d.size : Int) := by omega
          have rac : IntKind.i64.wrap ((pp : Int) - (h : Int)) = (pp : Int) - (h : Int) := by rw [IntKind.wrap_i64]; omega
          by_cases hlt : cf d[pp - h]! d[h]! < 0
          · have HK : Hid (key d[pp - h]! < key d[h]!) := (HKEY.out _ _).1 hlt
            obtain ⟨x24, hx24⟩ : ∃ x, x = d[pp - h]! := ⟨_, rfl⟩
            obtain ⟨y24, hy24⟩ : ∃ x, x = d[h]! := ⟨_, rfl⟩
            have l24a := S1.out.ld R (by omega) P (pp - h) (by omega)
            have l24b := S1.out.ld R (by omega) P (h) (by omega)
            rw [← hx24] at l24a
            rw [← hy24] at l24b
            have hc24 := S1.out.cmp HC.out (by omega) x24 y24
            have hd24 : decide (cf x24 y24 < 0) = true := by rw [hx24, hy24]; exact decide_eq_true hlt
            have hv24 : cf x24 y24 < 0 := by rw [hx24, hy24]; exact hlt
            clear hx24 hy24
            go_wp2_with fail
            go_quiet_grown (first | (go_at_fn g; refine Calls.grown_of (hc24 _ _)))
            have S2 : Aside (SWK enc k w0 blk off d (grow (wr.drewN nq) osq)) := S1.out.grown nq osq
            clear l24a l24b hc24 S1
            generalize grow (wr.drewN nq) osq = w2 at S2 ⊢
            clear nq osq
            go_wp2
            go_roundg (h - i)
            case measure => omega
            case rel => exact ⟨i, h, rfl, by first | rfl | go_num, hmi, by omega, by omega, Nat.le_refl _, S2, ⟨HE.out.1, .inr HK.out⟩⟩
          · have HK : Hid (key d[h]! ≤ key d[pp - h]!) := Int.not_lt.1 (fun h' => hlt ((HKEY.out _ _).2 h'))
            obtain ⟨x24, hx24⟩ : ∃ x, x = d[pp - h]! := ⟨_, rfl⟩
            obtain ⟨y24, hy24⟩ : ∃ x, x = d[h]! := ⟨_, rfl⟩
            have l24a := S1.out.ld R (by omega) P (pp - h) (by omega)
            have l24b := S1.out.ld R (by omega) P (h) (by omega)
            rw [← hx24] at l24a
            rw [← hy24] at l24b
            have hc24 := S1.out.cmp HC.out (by omega) x24 y24
            have hd24 : decide (cf x24 y24 < 0) = false := by rw [hx24, hy24]; exact decide_eq_false hlt
            have hv24 : ¬ cf x24 y24 < 0 := by rw [hx24, hy24]; exact hlt
            clear hx24 hy24
            go_wp2_with fail
            go_quiet_grown (first | (go_at_fn g; refine Calls.grown_of (hc24 _ _)))
            have S2 : Aside (SWK enc k w0 blk off d (grow (wr.drewN nq) osq)) := S1.out.grown nq osq
            clear l24a l24b hc24 S1
            generalize grow (wr.drewN nq) osq = w2 at S2 ⊢
            clear nq osq
            go_wp2
            go_roundg (j - (h + 1))
            case measure => omega
            case rel => exact ⟨h + 1, j, by go_num, rfl, by omega, by omega, hjq, Nat.le_refl _, S2, ⟨.inr (by rw [Nat.add_sub_cancel]; exact HK.out), HE.out.2⟩⟩
        · have hltz : ¬ (i : Int) < (j : Int) := by omega
          obtain rfl : i = j := by omega
          obtain ⟨st, hst⟩ : ∃ st, st = i := ⟨_, rfl⟩
          rw [← hst] at hmi hjq HE hltij hltz hjm hpi ⊢
          clear hij hst hjpp
          have HE0 := HE
          have HST : Hid (p ≤ st ∧ st ≤ m ∧ m ≤ n - st ∧ n - st ≤ q ∧ n = mid + m ∧ n = pp + 1 ∧ mid = (p + q) / 2 ∧ st0 ≤ st ∧ st ≤ r0 ∧ (st0 = p ∨ n - st0 = q) ∧ (r0 = m ∨ n - r0 = m)) := by
            have := HS0.out; have := HN.out; have := HP.out
            exact ⟨by omega, by omega, by omega, by omega, by omega, by omega, by omega, hmi, hjq, by omega, by omega⟩
          clear hmi hjq hjm hpi
          clear hkx hltij HE
          have hst1 : p ≤ st := by have := HST.out; omega
          have hst2 : st ≤ m := by have := HST.out; omega
          obtain ⟨e, he⟩ : ∃ e, e = n - st := ⟨_, rfl⟩
          have hez : (n : Int) - (st : Int) = (e : Int) := by have := HST.out; omega
          have he1 : m ≤ e := by have := HST.out; omega
          have he2 : e ≤ q := by have := HST.out; omega
          obtain ⟨A1, A2, B1, B2, HAB⟩ : ∃ A1 A2 B1 B2 : List α, Hid (A = A1 ++ A2 ∧ B = B1 ++ B2 ∧ A1.length = st - p ∧ B1.length = e - m ∧ (A1.length + A2.length = A.length ∧ B1.length + B2.length = B.length ∧ (st - p) + (e - m) = mid - p ∧ mid < q ∧ p < mid ∧ mid ≤ e ∧ st ≤ mid) ∧ St key A1 ∧ St key A2 ∧ St key B1 ∧ St key B2 ∧ mrg key A B = mrg key A1 B1 ++ mrg key A2 B2) := by
            have hP := HP.out
            have hS := HST.out
            have hA := hP.2.2.2.2.2.2.1
            have hB := hP.2.2.2.2.2.2.2
            refine ⟨A.take (st - p), A.drop (st - p), B.take (e - m), B.drop (e - m), (List.take_append_drop _ _).symm, (List.take_append_drop _ _).symm, by rw [List.length_take]; omega, by rw [List.length_take]; omega, ⟨by rw [List.length_take, List.length_drop]; omega, by rw [List.length_take, List.length_drop]; omega, by omega, by omega, by omega, by omega, by omega⟩, hA.sublist (List.take_sublist _ _), hA.sublist (List.drop_sublist _ _), hB.sublist (List.take_sublist _ _), hB.sublist (List.drop_sublist _ _), ?_⟩
            refine cut_at key A B hA hB (st - p) (e - m) (by omega) (by omega) ?_ ?_
            · rcases HE0.out.1 with h | h
              · rcases hS.2.2.2.2.2.2.2.2.2.1 with h1 | h1
                · exact .inl (by omega)
                · exact .inr (.inl (by omega))
              · by_cases h0 : st = p
                · exact .inl (by omega)
                · by_cases h1 : e = q
                  · exact .inr (.inl (by omega))
                  · right; right
                    have := h
                    rw [show pp - (st - 1) = m + (e - m) by omega, show st - 1 = p + (st - p - 1) by omega, HB.out (e - m) (by omega), HA.out (st - p - 1) (by omega)] at this
                    exact this
            · rcases HE0.out.2 with h | h
              · rcases hS.2.2.2.2.2.2.2.2.2.2 with h1 | h1
                · exact .inr (.inl (by omega))
                · exact .inl (by omega)
              · by_cases h0 : e = m
                · exact .inl (by omega)
                · by_cases h1 : st = m
                  · exact .inr (.inl (by omega))
                  · right; right
                    have := h
                    have e3 := HA.out (st - p) (by omega)
                    rw [show p + (st - p) = st by omega] at e3
                    rw [show pp - st = m + (e - m - 1) by omega, HB.out (e - m - 1) (by omega), e3] at this
                    exact this
          have HEE : Hid (e = n - st) := he
          clear he HE0
          have z1 : ((Q ++ A1 ++ B1 ++ A2 ++ (B2 ++ Z)).toArray).size = d.size := by
            rw [size_of HD.out, HAB.out.1, HAB.out.2.1]
            simp only [List.size_toArray, List.length_append]
            omega
          have z2 : ((Q ++ mrg key A1 B1 ++ A2 ++ (B2 ++ Z)).toArray).size = d.size := by
            rw [size_of HD.out, HAB.out.1, HAB.out.2.1]
            simp only [List.size_toArray, List.length_append, mrg_length]
            omega
          have Z1 : Hid _ := z1
          have Z2 : Hid _ := z2
          clear z1 z2
          go_upto_region 39 with fail
          go_cut [185] from 25 (fun st_ wx => ∃ t : Bool, st_ = .bool t ∧ Hid (t = true ↔ st < m ∧ m < e) ∧ wr = wx)
          case first => as_aux_lemma =>
            by_cases ha : st < m
            · have ga : decide ((st : Int) < (m : Int)) = true := decide_eq_true (by omega)
              have ga' : (st : Int) < (m : Int) := by omega
              by_cases hb : m < e
              · have gb : decide ((m : Int) < (e : Int)) = true := decide_eq_true (by omega)
                have gb' : (m : Int) < (e : Int) := by omega
                go_wp2
                go_meet
                case rel => exact ⟨true, rfl, ⟨fun _ => ⟨ha, hb⟩, fun _ => rfl⟩, rfl⟩
              · have gb : decide ((m : Int) < (e : Int)) = false := decide_eq_false (by omega)
                have gb' : ¬ ((m : Int) < (e : Int)) := by omega
                go_wp2
                go_meet
                case rel => exact ⟨false, rfl, ⟨fun h => (by cases h), fun h => absurd h.2 hb⟩, rfl⟩
            · have ga : decide ((st : Int) < (m : Int)) = false := decide_eq_false (by omega)
              have ga' : ¬ ((st : Int) < (m : Int)) := by omega
              go_wp2
              go_meet
              case rel => exact ⟨false, rfl, ⟨fun h => (by cases h), fun h => absurd h.1 ha⟩, rfl⟩
          case rest => as_aux_lemma =>
            obtain ⟨t, rfl, HT, rfl⟩ := hcut
            go_upto_if 185 with fail
            go_cut [] from 25 (fun wc => SWK enc k w0 blk off (Q ++ A1 ++ B1 ++ A2 ++ (B2 ++ Z)).toArray wc)
            case first => as_aux_lemma =>
              cases t with
              | true =>
                have ht := HT.out.1 rfl
                have ha : st < m := ht.1
                have hb : m < e := ht.2
                clear ht
                have hr := rotate L enc g cb blk off cap d0 w0 R hsz wr d S1.out (Q ++ A1) A2 B1 (B2 ++ Z) (by rw [HD.out, HAB.out.1, HAB.out.2.1]; simp only [List.append_assoc]) hs st m e (by have := HAB.out; have := HP.out; rw [List.length_append]; omega) (by have := HAB.out; have := HP.out; omega) (by have := HAB.out; have := HP.out; omega) (by have := HAB.out; have := HP.out; omega) (by have := HAB.out; have := HP.out; omega)
                go_wp2_with (first | (go_at_fn 50; refine hr.mono ?_; rintro e_ w3 ⟨rfl, hw3⟩))
                go_meet
                case rel => exact hw3
              | false =>
                have h0 : ¬ st < m ∨ ¬ m < e := by
                  have h1 : ¬ (st < m ∧ m < e) := fun h => by
                    have := HT.out.2 h
                    cases this
                  omega
                have hw3 : SWK enc k w0 blk off (Q ++ A1 ++ B1 ++ A2 ++ (B2 ++ Z)).toArray wr := by
                  have h : d.toList = Q ++ A1 ++ B1 ++ A2 ++ (B2 ++ Z) := by
                    rw [HD.out, HAB.out.1, HAB.out.2.1]
                    rcases h0 with h0 | h0
                    · rw [List.length_eq_zero_iff.1 (show A2.length = 0 by have := HAB.out; have := HP.out; omega)]
                      simp only [List.append_assoc, List.nil_append, List.append_nil]
                    · rw [List.length_eq_zero_iff.1 (show B1.length = 0 by have := HAB.out; have := HP.out; omega)]
                      simp only [List.append_assoc, List.nil_append, List.append_nil]
                  rw [← toArr h]
                  exact S1.out
                go_wp2
                go_meet
                case rel => exact hw3
            case rest =>
              clear HT
              rename World => wA
              have hw3 := hcut
              clear hcut S1
              have z1 := Z1.out
              go_upto_region 41 with fail
              go_cut [199] from 25 (fun st_ wx => ∃ t : Bool, st_ = .bool t ∧ Hid (t = true ↔ p < st ∧ st < mid) ∧ wA = wx)
              case first => as_aux_lemma =>
                by_cases ha : p < st
                · have ga : decide ((p : Int) < (st : Int)) = true := decide_eq_true (by omega)
                  have ga' : (p : Int) < (st : Int) := by omega
                  by_cases hb : st < mid
                  · have gb : decide ((st : Int) < (mid : Int)) = true := decide_eq_true (by omega)
                    have gb' : (st : Int) < (mid : Int) := by omega
                    go_wp2
                    go_meet
                    case rel => exact ⟨true, rfl, ⟨fun _ => ⟨ha, hb⟩, fun _ => rfl⟩, rfl⟩
                  · have gb : decide ((st : Int) < (mid : Int)) = false := decide_eq_false (by omega)
                    have gb' : ¬ ((st : Int) < (mid : Int)) := by omega
                    go_wp2
                    go_meet
                    case rel => exact ⟨false, rfl, ⟨fun h => (by cases h), fun h => absurd h.2 hb⟩, rfl⟩
                · have ga : decide ((p : Int) < (st : Int)) = false := decide_eq_false (by omega)
                  have ga' : ¬ ((p : Int) < (st : Int)) := by omega
                  go_wp2
                  go_meet
                  case rel => exact ⟨false, rfl, ⟨fun h => (by cases h), fun h => absurd h.1 ha⟩, rfl⟩
              case rest => as_aux_lemma =>
                obtain ⟨t, rfl, HT, rfl⟩ := hcut
                go_upto_if 199 with fail
                go_cut [] from 25 (fun wc => SWK enc k w0 blk off (Q ++ mrg key A1 B1 ++ A2 ++ (B2 ++ Z)).toArray wc)
                case first => as_aux_lemma =>
                  cases t with
                  | true =>
                    have ht := HT.out.1 rfl
                    have ha : p < st := ht.1
                    have hb : st < mid := ht.2
                    clear ht
                    have hr := IH _ _ hw3 Q A1 B1 (A2 ++ (B2 ++ Z)) (by simp only [List.append_assoc]) (by rw [z1]; exact hs) p st mid HP.out.1 (by have := HAB.out; have := HP.out; omega) (by have := HAB.out; have := HP.out; omega) (by have := HAB.out; have := HP.out; omega) (by have := HAB.out; have := HP.out; omega) HAB.out.2.2.2.2.2.1 HAB.out.2.2.2.2.2.2.2.1 (by have := HAB.out; have := HP.out; omega)
                    rw [z1] at hr
                    go_wp2_with (first | (go_at_fn 49; refine hr.mono ?_; rintro e_ w4 ⟨rfl, hw4⟩; rw [← List.append_assoc] at hw4))
                    go_meet
                    case rel => exact hw4
                  | false =>
                    have h0 : ¬ p < st ∨ ¬ st < mid := by
                      have h1 : ¬ (p < st ∧ st < mid) := fun h => by
                        have := HT.out.2 h
                        cases this
                      omega
                    have e4 : mrg key A1 B1 = A1 ++ B1 := by
                      rcases h0 with h0 | h0
                      · rw [List.length_eq_zero_iff.1 (show A1.length = 0 by have := HAB.out; omega), nil_mrg, List.nil_append]
                      · rw [List.length_eq_zero_iff.1 (show B1.length = 0 by have := HAB.out; have := HP.out; omega), mrg_nil, List.append_nil]
                    have hw4 : SWK enc k w0 blk off (Q ++ mrg key A1 B1 ++ A2 ++ (B2 ++ Z)).toArray wA := by
                      rw [e4, ← List.append_assoc Q]
                      exact hw3
                    clear e4
                    go_wp2
                    go_meet
                    case rel => exact hw4
                case rest =>
                  clear HT
                  rename World => wB
                  have hw4 := hcut
                  clear hcut hw3
                  have z2 := Z2.out
                  go_upto_region 43 with fail
                  go_cut [213] from 25 (fun st_ wx => ∃ t : Bool, st_ = .bool t ∧ Hid (t = true ↔ mid < e ∧ e < q) ∧ wB = wx)
                  case first => as_aux_lemma =>
                    by_cases ha : mid < e
                    · have ga : decide ((mid : Int) < (e : Int)) = true := decide_eq_true (by omega)
                      have ga' : (mid : Int) < (e : Int) := by omega
                      by_cases hb : e < q
                      · have gb : decide ((e : Int) < (q : Int)) = true := decide_eq_true (by omega)
                        have gb' : (e : Int) < (q : Int) := by omega
                        go_wp2
                        go_meet
                        case rel => exact ⟨true, rfl, ⟨fun _ => ⟨ha, hb⟩, fun _ => rfl⟩, rfl⟩
                      · have gb : decide ((e : Int) < (q : Int)) = false := decide_eq_false (by omega)
                        have gb' : ¬ ((e : Int) < (q : Int)) := by omega
                        go_wp2
                        go_meet
                        case rel => exact ⟨false, rfl, ⟨fun h => (by cases h), fun h => absurd h.2 hb⟩, rfl⟩
                    · have ga : decide ((mid : Int) < (e : Int)) = false := decide_eq_false (by omega)
                      have ga' : ¬ ((mid : Int) < (e : Int)) := by omega
                      go_wp2
                      go_meet
                      case rel => exact ⟨false, rfl, ⟨fun h => (by cases h), fun h => absurd h.1 ha⟩, rfl⟩
                  case rest => as_aux_lemma =>
                    obtain ⟨t, rfl, HT, rfl⟩ := hcut
                    cases t with
                    | true =>
                      have ht := HT.out.1 rfl
                      have ha : mid < e := ht.1
                      have hb : e < q := ht.2
                      clear ht
                      have hr := IH _ _ hw4 (Q ++ mrg key A1 B1) A2 B2 Z (by simp only [List.append_assoc]) (by rw [z2]; exact hs) mid e q (by rw [List.length_append, mrg_length]; have := HAB.out; have := HP.out; omega) (by have := HAB.out; have := HP.out; omega) (by have := HAB.out; have := HP.out; omega) (by have := HAB.out; have := HP.out; omega) (by have := HAB.out; have := HP.out; omega) HAB.out.2.2.2.2.2.2.1 HAB.out.2.2.2.2.2.2.2.2.1 (by have := HAB.out; have := HP.out; omega)
                      rw [z2] at hr
                      go_wp2_with (first | (go_at_fn 49; refine hr.mono ?_; rintro e_ w5 ⟨rfl, hw5⟩))
                      (try simp only [Exit.inBlock, Exit.then]); first | refine bodyPost_ret (results_none rfl _ _ _) rfl ?_ | refine bodyPost_end (results_none rfl _ _ _) rfl ?_
                      refine ⟨rfl, ?_⟩
                      rw [HAB.out.2.2.2.2.2.2.2.2.2, ← List.append_assoc Q]
                      exact hw5
                    | false =>
                      have h0 : ¬ mid < e ∨ ¬ e < q := by
                        have h1 : ¬ (mid < e ∧ e < q) := fun h => by
                          have := HT.out.2 h
                          cases this
                        omega
                      have e5 : mrg key A2 B2 = A2 ++ B2 := by
                        rcases h0 with h0 | h0
                        · rw [List.length_eq_zero_iff.1 (show A2.length = 0 by have := HAB.out; have := HP.out; omega), nil_mrg, List.nil_append]
                        · rw [List.length_eq_zero_iff.1 (show B2.length = 0 by have := HAB.out; have := HP.out; omega), mrg_nil, List.append_nil]
                      have HE5 : Hid (mrg key A2 B2 = A2 ++ B2) := e5
                      clear e5
                      go_wp2
                      (try simp only [Exit.inBlock, Exit.then]); first | refine bodyPost_ret (results_none rfl _ _ _) rfl ?_ | refine bodyPost_end (results_none rfl _ _ _) rfl ?_
                      refine ⟨rfl, ?_⟩
                      rw [HAB.out.2.2.2.2.2.2.2.2.2, HE5.out]
                      simpa only [List.append_assoc] using hw4
end Go.Proofs.YtachnclfgjdglaaSrt
