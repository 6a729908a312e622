/- The library's rotation at structs: swapRangeCmpFunc, rotateCmpFunc. No conditions beside those that each theorem says. -/
import Derived.Shelf.SlSortCmp.KitK
import Derived.Deep.LoopGhost
import Derived.BigRegion
import Derived.WalkKit
import Derived.LoopTactic
import Derived.Test.YtachnclfgjdglaaProg
import Derived.Test.YtachnclfgjdglaaMrg
namespace Go.Proofs.YtachnclfgjdglaaSrt
open Go.Shelf Go.RowKit Go.Lib Go.Sort
set_option linter.unusedVariables false
set_option linter.unusedSimpArgs false
theorem size_of {α : Type} {d : Array α} {l : List α} (h : d.toList = l) : d.size = l.length := by rw [← h, Array.length_toList]
theorem toArr {α : Type} {d : Array α} {l : List α} (h : d.toList = l) : d = l.toArray := by rw [← h]
variable {α : Type} [Inhabited α]
/-! ### rows and their places -/
theorem at_row (d : Array α) (A B : List α) (x : α) (h : d.toList = A ++ x :: B) : d[A.length]! = x := by
  have hs : d.size = A.length + (B.length + 1) := by rw [← Array.length_toList, h]; simp
  rw [getElem!_pos d _ (by omega), ← Array.getElem_toList]
  simp [h]
theorem at_mid (d : Array α) (A M B : List α) (h : d.toList = A ++ M ++ B) (t : Nat) (ht : t < M.length) : d[A.length + t]! = M[t]! := by
  have e : M = M.take t ++ M[t] :: M.drop (t + 1) := by rw [← List.drop_eq_getElem_cons ht, List.take_append_drop]
  have h2 : d.toList = (A ++ M.take t) ++ M[t] :: (M.drop (t + 1) ++ B) := by
    rw [h]
    conv => lhs; rw [e]
    simp only [List.append_assoc, List.cons_append]
  have := at_row d _ _ _ h2
  rw [List.length_append, List.length_take, Nat.min_eq_left (by omega)] at this
  rw [this, getElem!_pos M t ht]
theorem swp_row (d : Array α) (A M B : List α) (x y : α) (h : d.toList = A ++ x :: M ++ y :: B) (u v : Nat) (hu : u = A.length) (hv : v = A.length + 1 + M.length) : (swp d u v).toList = A ++ y :: M ++ x :: B := by
  subst hu; subst hv
  have g1 : d[A.length]! = x := at_row d A (M ++ y :: B) x (by rw [h]; simp)
  have g2 : d[A.length + 1 + M.length]! = y := by
    have := at_row d (A ++ x :: M) B y (by rw [h])
    rw [show (A ++ x :: M).length = A.length + 1 + M.length by simp; omega] at this
    exact this
  unfold swp
  rw [g1, g2, Array.toList_setIfInBounds, Array.toList_setIfInBounds, h]
  rw [List.append_assoc, List.set_append_right _ _ (by omega), Nat.sub_self, List.cons_append, List.set_cons_zero, List.set_append_right _ _ (by omega), show A.length + 1 + M.length - A.length = M.length + 1 by omega, List.set_cons_succ, List.set_append_right _ _ (Nat.le_refl _), Nat.sub_self, List.set_cons_zero]
  simp
variable {P : Program} {k : Nat}
/-- what of a program these functions see -/
structure LayS (P : Program) (k : Nat) : Prop where
  mixed : P.follows .mixedOrders = true
  f45 : P.funcs[45]? = some Try.f45
  f48 : P.funcs[48]? = some Try.f48
  f49 : P.funcs[49]? = some Try.f49
  f50 : P.funcs[50]? = some Try.f50
  f51 : P.funcs[51]? = some Try.f51
  t0 : P.underlying 0 = some (TypeDesc.tuple #[])
  a0 : ∀ w, (isAgg 0).run P w = .ok false w
  z0 : ∀ w, (Go.sizeOf 0).run P w = .ok 1 w
  v0 : ∀ w, (zeroValue 0).run P w = .ok (Value.tuple #[]) w
  t3 : P.underlying 3 = some (TypeDesc.int IntKind.i64)
  a3 : ∀ w, (isAgg 3).run P w = .ok false w
  z3 : ∀ w, (Go.sizeOf 3).run P w = .ok 1 w
  v3 : ∀ w, (zeroValue 3).run P w = .ok (Value.int IntKind.i64 0) w
  t4 : P.underlying 4 = some (TypeDesc.bool)
  a4 : ∀ w, (isAgg 4).run P w = .ok false w
  z4 : ∀ w, (Go.sizeOf 4).run P w = .ok 1 w
  v4 : ∀ w, (zeroValue 4).run P w = .ok (Value.bool false) w
  t32 : P.underlying 32 = some (TypeDesc.int IntKind.u64)
  a32 : ∀ w, (isAgg 32).run P w = .ok false w
  z32 : ∀ w, (Go.sizeOf 32).run P w = .ok 1 w
  v32 : ∀ w, (zeroValue 32).run P w = .ok (Value.int IntKind.u64 0) w
  t50 : P.underlying 50 = some (TypeDesc.slice 52)
  a50 : ∀ w, (isAgg 50).run P w = .ok false w
  z50 : ∀ w, (Go.sizeOf 50).run P w = .ok 1 w
  v50 : ∀ w, (zeroValue 50).run P w = .ok (Value.slice none 0 0) w
  t65 : P.underlying 65 = some (TypeDesc.func #[52, 52] #[3] false)
  a65 : ∀ w, (isAgg 65).run P w = .ok false w
  z65 : ∀ w, (Go.sizeOf 65).run P w = .ok 1 w
  v65 : ∀ w, (zeroValue 65).run P w = .ok (Value.nilFunc) w
  aE : ∀ w, (isAgg 52).run P w = .ok true w
  zE : ∀ w, (Go.sizeOf 52).run P w = .ok k w

set_option maxHeartbeats 8000000 in
set_option maxRecDepth 1000000 in
/-- two runs of one length change their places -/
theorem swapRange (L : LayS P k) (enc : α → List Value) (g : Nat) (cb : Array Value) (blk off cap : Nat) (d0 : Array α) (w0 : World) (R : RowK enc k w0 blk off d0) (hsz : d0.size < 1152921504606846976) (w : World) (d : Array α) (S : SWK enc k w0 blk off d w) (A X M Y B : List α) (hd : d.toList = A ++ X ++ M ++ Y ++ B) (hs : d0.size = d.size) (p q n : Nat) (hp : p = A.length) (hX : X.length = n) (hY : Y.length = n) (hq : q = p + n + M.length) :
    Calls P 51 #[.slice (some ⟨blk, off, none⟩) d.size cap, .int .i64 p, .int .i64 q, .int .i64 n, .func (.func g) #[] cb] w fun e w' => e = .returned (.tuple #[]) ∧ SWK enc k w0 blk off (A ++ Y ++ M ++ X ++ B).toArray w' := by
  have mixed := L.mixed; have t0 := L.t0; have a0 := L.a0; have z0 := L.z0; have v0 := L.v0; have t3 := L.t3; have a3 := L.a3; have z3 := L.z3; have v3 := L.v3; have t4 := L.t4; have a4 := L.a4; have z4 := L.z4; have v4 := L.v4; have t32 := L.t32; have a32 := L.a32; have z32 := L.z32; have v32 := L.v32; have t50 := L.t50; have a50 := L.a50; have z50 := L.z50; have v50 := L.v50; have t65 := L.t65; have a65 := L.a65; have z65 := L.z65; have v65 := L.v65; have aE := L.aE; have zE := L.zE
  have S0 : Aside _ := S
  have hdl := size_of hd
  have hbd : q + n ≤ d.size := by rw [hdl]; simp; omega
  have HD : Hid (d.toList = A ++ X ++ M ++ Y ++ B) := hd
  have HX : Hid (X.length = n) := hX
  have HY : Hid (Y.length = n) := hY
  have HP : Hid (p = A.length ∧ q = p + n + M.length) := ⟨hp, hq⟩
  have hpq : p + n ≤ q := by omega
  clear S hd hdl hX hY hp hq
  go_enter L.f51, Try.ntmps51
  go_wp2
  go_loopg [10] n (fun kx s10 wr => ∃ (i : Nat) (dk : Array α), s10 = .int .i64 i ∧ i ≤ n ∧ n - i ≤ kx ∧ dk.size = d.size ∧ Aside (SWK enc k w0 blk off dk wr) ∧ Hid (dk.toList = A ++ (Y.take i ++ X.drop i) ++ M ++ (X.take i ++ Y.drop i) ++ B))
  case atStart => exact ⟨0, d, rfl, Nat.zero_le _, Nat.le_refl _, rfl, S0, by show _ = _; rw [HD.out]; simp⟩
  case round =>
    obtain ⟨i, dk, rfl, hi, hkx, hds, S1, HE⟩ := hrel
    clear S0
    by_cases hlt : i < n
    · have hltz : (i : Int) < (n : Int) := by omega
      have eau : ((p : Int) + (i : Int)).toNat = p + i := by omega
      have pau : (0 : Int) ≤ (p : Int) + (i : Int) := by omega
      have bau : (p : Int) + (i : Int) < (d.size : Int) := by omega
      have rau : IntKind.i64.wrap ((p : Int) + (i : Int)) = (p : Int) + (i : Int) := by rw [IntKind.wrap_i64]; omega
      have eav : ((q : Int) + (i : Int)).toNat = q + i := by omega
      have pav : (0 : Int) ≤ (q : Int) + (i : Int) := by omega
      have bav : (q : Int) + (i : Int) < (d.size : Int) := by omega
      have rav : IntKind.i64.wrap ((q : Int) + (i : Int)) = (q : Int) + (i : Int) := by rw [IntKind.wrap_i64]; omega
      have S4 : Aside (SWK enc k w0 blk off (swp dk (p + i) (q + i)) ((wr.drew.setCells blk (off + (p + i) * k) (enc dk[(q + i)]!)).setCells blk (off + (q + i) * k) (enc dk[(p + i)]!))) := S1.out.swapped R (p + i) (q + i) (by omega) (by omega)
      have l26a := S1.out.ld1 R (by omega) P (p + i) (by omega)
      have l26b := S1.out.ld1 R (by omega) P (q + i) (by omega)
      have s26a := S1.out.st1 R (by omega) P (p + i) (by omega) dk[(q + i)]!
      have s26b := S1.out.st2 R (by omega) P (p + i) (q + i) (by omega) (by omega) dk[(q + i)]! dk[(p + i)]!
      have n26a : (enc dk[(p + i)]!).length = k := R.hk _
      have n26b : (enc dk[(q + i)]!).length = k := R.hk _
      generalize enc dk[(p + i)]! = cI26 at S4 l26a s26b n26a
      generalize enc dk[(q + i)]! = cJ26 at S4 l26b s26a s26b n26b
      clear S1
      go_wp2_with fail
      go_big_region_o
      clear l26a l26b s26a s26b
      generalize (wr.drew.setCells blk (off + (p + i) * k) cJ26).setCells blk (off + (q + i) * k) cI26 = w4 at S4 ⊢
      go_wp2
      go_roundg (n - (i + 1))
      case measure => omega
      case rel =>
        refine ⟨i + 1, swp dk (p + i) (q + i), by go_num, by omega, Nat.le_refl _, by rw [size_swp]; exact hds, S4, ?_⟩
        show _ = _
        have hx : i < X.length := by rw [HX.out]; exact hlt
        have hy : i < Y.length := by rw [HY.out]; exact hlt
        have h := swp_row dk (A ++ Y.take i) (X.drop (i + 1) ++ M ++ X.take i) (Y.drop (i + 1) ++ B) X[i] Y[i] (by
          rw [HE.out, List.drop_eq_getElem_cons hx, List.drop_eq_getElem_cons hy]
          simp only [List.append_assoc, List.cons_append]) (p + i) (q + i) (by rw [List.length_append, List.length_take, Nat.min_eq_left (by omega), ← HP.out.1]) (by
          rw [HP.out.2]
          simp only [List.length_append, List.length_take, List.length_drop]
          rw [← HP.out.1, Nat.min_eq_left (by omega), Nat.min_eq_left (by omega), HX.out]
          omega)
        rw [h, List.take_succ_eq_append_getElem hx, List.take_succ_eq_append_getElem hy]
        simp only [List.append_assoc, List.cons_append, List.nil_append]
    · have hltz : ¬ (i : Int) < (n : Int) := by omega
      have hin : i = n := by omega
      go_wp2
      go_end0
      refine ⟨rfl, ?_⟩
      have h := HE.out
      rw [hin, List.take_of_length_le (by rw [HY.out]; exact Nat.le_refl _), List.drop_of_length_le (by rw [HX.out]; exact Nat.le_refl _), List.take_of_length_le (by rw [HX.out]; exact Nat.le_refl _), List.drop_of_length_le (by rw [HY.out]; exact Nat.le_refl _), List.append_nil, List.append_nil] at h
      have h2 := S1.out
      rw [toArr h] at h2
      simpa only [List.append_assoc] using h2

set_option maxHeartbeats 8000000 in
set_option maxRecDepth 1000000 in
/-- two runs beside each other change their places -/
theorem rotate (L : LayS P k) (enc : α → List Value) (g : Nat) (cb : Array Value) (blk off cap : Nat) (d0 : Array α) (w0 : World) (R : RowK enc k w0 blk off d0) (hsz : d0.size < 1152921504606846976) (w : World) (d : Array α) (S : SWK enc k w0 blk off d w) (A X Y B : List α) (hd : d.toList = A ++ X ++ Y ++ B) (hs : d0.size = d.size) (p m q : Nat) (hp : p = A.length) (hm : m = p + X.length) (hq : q = m + Y.length) (hX : 0 < X.length) (hY : 0 < Y.length) :
    Calls P 50 #[.slice (some ⟨blk, off, none⟩) d.size cap, .int .i64 p, .int .i64 m, .int .i64 q, .func (.func g) #[] cb] w fun e w' => e = .returned (.tuple #[]) ∧ SWK enc k w0 blk off (A ++ Y ++ X ++ B).toArray w' := by
  have mixed := L.mixed; have t0 := L.t0; have a0 := L.a0; have z0 := L.z0; have v0 := L.v0; have t3 := L.t3; have a3 := L.a3; have z3 := L.z3; have v3 := L.v3; have t4 := L.t4; have a4 := L.a4; have z4 := L.z4; have v4 := L.v4; have t32 := L.t32; have a32 := L.a32; have z32 := L.z32; have v32 := L.v32; have t50 := L.t50; have a50 := L.a50; have z50 := L.z50; have v50 := L.v50; have t65 := L.t65; have a65 := L.a65; have z65 := L.z65; have v65 := L.v65; have aE := L.aE; have zE := L.zE
  have S0 : Aside _ := S
  have e51 : ∀ args w, (callFunc 51 args).run P w = .ok (.enter 51 args) w := enters_of L.f51 (by kernel_rfl) rfl
  have hdl := size_of hd
  have hbd : q ≤ d.size := by rw [hdl]; simp; omega
  have HD : Hid (d.toList = A ++ X ++ Y ++ B) := hd
  have HP : Hid (p = A.length ∧ m = p + X.length ∧ 0 < X.length ∧ 0 < Y.length) := ⟨hp, hm, hX, hY⟩
  obtain ⟨i0, hi0⟩ : ∃ i, i = X.length := ⟨_, rfl⟩
  obtain ⟨j0, hj0⟩ : ∃ i, i = Y.length := ⟨_, rfl⟩
  have f1 : IntKind.i64.wrap ((m : Int) - (p : Int)) = (i0 : Int) := by rw [IntKind.wrap_i64]; omega
  have f2 : IntKind.i64.wrap ((q : Int) - (m : Int)) = (j0 : Int) := by rw [IntKind.wrap_i64]; omega
  have f3 : (m : Int) - (p : Int) = (i0 : Int) := by omega
  have f4 : (q : Int) - (m : Int) = (j0 : Int) := by omega
  have HIJ : Hid (i0 = X.length ∧ j0 = Y.length) := ⟨hi0, hj0⟩
  have hms : m < d.size := by omega
  have hpm : p ≤ m := by omega
  have hmq : m ≤ q := by omega
  clear S hd hdl hp hm hq hi0 hj0 hX hY
  go_enter L.f50, Try.ntmps50
  go_wp2
  clear f1 f2 f3 f4
  go_loopg [10, 11] (i0 + j0) (fun kx s10 s11 wr => ∃ (U V A1 B1 : List α) (dk : Array α), s10 = .int .i64 U.length ∧ s11 = .int .i64 V.length ∧ U.length + V.length ≤ kx ∧ 0 < U.length ∧ 0 < V.length ∧ m = A1.length + U.length ∧ dk.size = d.size ∧ Aside (SWK enc k w0 blk off dk wr) ∧ Hid (dk.toList = A1 ++ U ++ V ++ B1 ∧ A1 ++ V ++ U ++ B1 = A ++ Y ++ X ++ B))
  case atStart => exact ⟨X, Y, A, B, d, by rw [← HIJ.out.1], by rw [← HIJ.out.2], by rw [HIJ.out.1, HIJ.out.2]; exact Nat.le_refl _, HP.out.2.2.1, HP.out.2.2.2, by rw [← HP.out.1]; exact HP.out.2.1, rfl, S0, ⟨HD.out, rfl⟩⟩
  case round =>
    obtain ⟨U, V, A1, B1, dk, rfl, rfl, hkx, hU, hV, hmA, hds, S1, HE⟩ := hrel
    clear S0
    have hdl := size_of HE.out.1
    simp only [List.length_append] at hdl
    obtain ⟨i, hi⟩ : ∃ i, i = U.length := ⟨_, rfl⟩
    obtain ⟨j, hj⟩ : ∃ j, j = V.length := ⟨_, rfl⟩
    obtain ⟨a, ha⟩ : ∃ a, a = A1.length := ⟨_, rfl⟩
    rw [← hi] at hkx hU hmA hdl ⊢
    rw [← hj] at hkx hV hdl ⊢
    rw [← ha] at hmA hdl
    have HL : Hid (i = U.length ∧ j = V.length ∧ a = A1.length) := ⟨hi, hj, ha⟩
    have hbi : m + j ≤ d.size := by omega
    have hmi : i ≤ m := by omega
    have HM : Hid (m = a + i) := hmA
    clear hi hj ha hmA hdl
    have g2 : (m : Int) - (i : Int) = (a : Int) := by have := HM.out; omega
    rcases Nat.lt_trichotomy i j with hlt | heq | hgt
    · have z1 : ((i : Int) != (j : Int)) = true := by rw [bne_iff_ne]; omega
      have z2 : decide ((i : Int) > (j : Int)) = false := decide_eq_false (by omega)
      have z3 : ¬ ((j : Int) < (i : Int)) := by omega
      have z4 : ¬ ((i : Int) = (j : Int)) := by omega
      obtain ⟨q2, hq2⟩ : ∃ x, x = m + j - i := ⟨_, rfl⟩
      obtain ⟨j2, hj2⟩ : ∃ x, x = j - i := ⟨_, rfl⟩
      have g5 : (m : Int) + (j : Int) - (i : Int) = (q2 : Int) := by omega
      have hmj : m + j - i ≤ d.size := by omega
      have g7 : (j : Int) - (i : Int) = (j2 : Int) := by omega
      have HZ : Hid (q2 = m + j - i ∧ j2 = j - i ∧ i < j) := ⟨hq2, hj2, hlt⟩
      clear hmj
      have hsw := swapRange L enc g cb blk off cap d0 w0 R hsz wr dk S1.out A1 U (V.take j2) (V.drop j2) B1 (by rw [HE.out.1]; simp) (by omega) a q2 i HL.out.2.2 HL.out.1.symm (by rw [List.length_drop]; have := HL.out; omega) (by rw [List.length_take]; have := HL.out; have := HM.out; omega)
      rw [hds] at hsw
      have HEE := HE
      clear HE hq2 hj2
      go_wp2_with (go_at_fn 51; refine hsw.mono ?_; rintro e w3 ⟨rfl, hw3⟩)
      go_roundg (j)
      case measure => omega
      case rel => exact ⟨V.drop j2, V.take j2, A1, U ++ B1, _, by rw [List.length_drop]; congr 1; have := HL.out; have := HZ.out; omega, by rw [List.length_take]; congr 1; have := HL.out; have := HZ.out; omega, by rw [List.length_take, List.length_drop]; have := HL.out; have := HZ.out; omega, by rw [List.length_drop]; have := HL.out; have := HZ.out; omega, by rw [List.length_take]; have := HL.out; have := HZ.out; omega, by rw [List.length_drop]; have := HL.out; have := HZ.out; have := HM.out; omega, by rw [← hds, size_of HEE.out.1]; simp; omega, hw3, ⟨by simp, by
        rw [← HEE.out.2]
        conv => rhs; rw [← List.take_append_drop j2 V]
        simp⟩⟩
    · have z1 : ((i : Int) != (j : Int)) = false := by rw [heq]; simp
      have z4 : ((i : Int) = (j : Int)) := by omega
      have hsw := swapRange L enc g cb blk off cap d0 w0 R hsz wr dk S1.out A1 U [] V B1 (by rw [HE.out.1]; simp) (by omega) a m i HL.out.2.2 HL.out.1.symm (by have := HL.out; omega) (by have := HM.out; simp; omega)
      rw [hds] at hsw
      have HEE := HE
      clear HE
      subst heq
      clear z4
      go_wp2_with (go_at_fn 51; refine hsw.mono ?_; rintro e w3 ⟨rfl, hw3⟩)
      go_end0
      refine ⟨rfl, ?_⟩
      rw [← HEE.out.2]
      simpa using hw3
    · have z1 : ((i : Int) != (j : Int)) = true := by rw [bne_iff_ne]; omega
      have z2 : decide ((i : Int) > (j : Int)) = true := decide_eq_true (by omega)
      have z3 : ((j : Int) < (i : Int)) := by omega
      have z4 : ¬ ((i : Int) = (j : Int)) := by omega
      obtain ⟨j2, hj2⟩ : ∃ x, x = i - j := ⟨_, rfl⟩
      have g7 : (i : Int) - (j : Int) = (j2 : Int) := by omega
      have HZ : Hid (j2 = i - j ∧ j < i) := ⟨hj2, hgt⟩
      have hsw := swapRange L enc g cb blk off cap d0 w0 R hsz wr dk S1.out A1 (U.take j) (U.drop j) V B1 (by
        rw [HE.out.1]
        conv => lhs; rw [← List.take_append_drop j U]
        simp) (by omega) a m j HL.out.2.2 (by rw [List.length_take]; have := HL.out; omega) HL.out.2.1.symm (by rw [List.length_drop]; have := HL.out; have := HM.out; omega)
      rw [hds] at hsw
      have HEE := HE
      clear HE hj2
      go_wp2_with (go_at_fn 51; refine hsw.mono ?_; rintro e w3 ⟨rfl, hw3⟩)
      go_roundg (i)
      case measure => omega
      case rel => exact ⟨U.drop j, U.take j, A1 ++ V, B1, _, by rw [List.length_drop]; congr 1; have := HL.out; have := HZ.out; omega, by rw [List.length_take]; congr 1; have := HL.out; have := HZ.out; omega, by rw [List.length_take, List.length_drop]; have := HL.out; have := HZ.out; omega, by rw [List.length_drop]; have := HL.out; have := HZ.out; omega, by rw [List.length_take]; have := HL.out; have := HZ.out; omega, by rw [List.length_drop, List.length_append]; have := HL.out; have := HZ.out; have := HM.out; omega, by rw [← hds, size_of HEE.out.1]; simp; omega, hw3, ⟨by simp, by
        rw [← HEE.out.2]
        conv => rhs; rw [← List.take_append_drop j U]
        simp⟩⟩
end Go.Proofs.YtachnclfgjdglaaSrt
