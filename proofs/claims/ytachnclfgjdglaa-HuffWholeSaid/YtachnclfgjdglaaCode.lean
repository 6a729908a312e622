/- Codes by lengths: what huff.are, fill, firsts and Codes compute. No conditions beside those that each theorem says. -/
import Derived.Test.YtachnclfgjdglaaLens
import Derived.BigRegion
import Derived.Laws.Rows
import Derived.Laws.Tables
import Derived.Laws.CopyOwn
namespace Go.Proofs.Ytachnclfgjdglaa.Coin
open Go.RowKit Go.Sort Go.Proofs.YtachnclfgjdglaaW.PrintWords Go.Proofs.YtachnclfgjdglaaW.PrintLast Go.Proofs.YtachnclfgjdglaaW.PrintMore
set_option linter.unusedVariables false
set_option linter.unusedSimpArgs false

def badL (x : Int) : Bool := decide (x < 0) || decide (x > 15)
def isL (l : List Int) : Bool := decide ((l.length : Int) ≤ 320) && !(l.any badL)
theorem badC (x : Int) (w : World) : Calls Try.prog 37 #[.int .i64 x] w fun e w' => e = .returned (.bool (badL x)) ∧ w' = w := by
  unfold badL
  by_cases h1 : x < 0
  · have d1 : decide (x < 0) = true := decide_eq_true h1
    rw [d1]
    clear h1
    go_enter Try.func37, Try.ntmps37
    go_wp2
    go_ret
    exact ⟨rfl, rfl⟩
  · have d1 : decide (x < 0) = false := decide_eq_false h1
    rw [d1]
    obtain ⟨b, hb⟩ : ∃ b, decide (x > 15) = b := ⟨_, rfl⟩
    rw [hb]
    clear h1
    go_enter Try.func37, Try.ntmps37
    go_wp2
    go_ret
    exact ⟨by simp [hb], rfl⟩
/-- an element of a row of numbers -/
theorem at_i {w : World} {A : Option Addr} {l : List Int} (h : Kd.C (Kd.int .i64) w A l.length l) (k : Nat) (hk : k < l.length) : ∃ ad, A = some ad ∧ w.cell? (ad.add k) = some (.int .i64 (l.getD k 0)) := by
  obtain ⟨ad, c, e, _, hK, hcc⟩ := Kd.C_get h 0 (k : Int) (by omega) (by omega)
  rw [Int.toNat_natCast] at hK hcc
  obtain rfl : c = [.int .i64 (l.getD k 0)] := hK
  have := hcc 0 _ rfl
  rw [show (Kd.int .i64).sz = 1 from rfl, Nat.mul_one, Nat.add_zero] at this
  exact ⟨ad, e, this⟩
theorem any_take (l : List Int) (k : Nat) (hk : k < l.length) : (l.take (k + 1)).any badL = ((l.take k).any badL || badL (l.getD k 0)) := by
  rw [take_snoc l 0 k hk, List.any_append]
  simp
theorem any_hit (l : List Int) (k : Nat) (hk : k < l.length) (h : badL (l.getD k 0) = true) : l.any badL = true := by
  rw [List.any_eq_true]
  refine ⟨l.getD k 0, ?_, h⟩
  rw [List.getD_eq_getElem?_getD, List.getElem?_eq_getElem hk]
  exact List.getElem_mem hk
set_option maxHeartbeats 4000000 in
theorem indexC (A : Option Addr) (c : Nat) (l : List Int) (w : World) (hr : Kd.C (Kd.int .i64) w A l.length l) (hn : l.length ≤ 1000000) :
    Calls Try.prog 43 #[.slice A l.length c, .func (.func 37) #[] #[]] w fun e w' => ∃ r : Int, e = .returned (.int .i64 r) ∧ decide (r ≥ 0) = l.any badL ∧ w' = w := by
  have HR := Aside0.mk hr
  have HN := Aside0.mk hn
  clear hr hn
  go_enter Try.func43, Try.ntmps43
  go_wp2
  go_loopg [5, 8] l.length (fun gg _ v8 wr => ∃ k : Nat, k ≤ l.length ∧ l.length - k ≤ gg ∧ v8 = .int .i64 k ∧ Aside0 ((l.take k).any badL = false) ∧ wr = w)
  case atStart => exact ⟨0, by omega, by omega, rfl, ⟨rfl⟩, rfl⟩
  case round =>
    obtain ⟨k, hk, hgg, rfl, HA, hw⟩ := hrel
    subst wr
    by_cases hlt : k < l.length
    case neg =>
      have hke : k = l.length := by omega
      subst hke
      have hd1 : decide ((l.length : Int) < (l.length : Int)) = false := decide_eq_false (by omega)
      clear hk hgg hlt
      go_wp2
      go_ret
      have := HA.out
      rw [List.take_length] at this
      exact ⟨-1, rfl, by rw [this]; rfl, rfl⟩
    have hd1 : decide ((k : Int) < (l.length : Int)) = true := decide_eq_true (by omega)
    have hkz : (k : Int) < (l.length : Int) := by omega
    obtain ⟨ad, e, hcell⟩ := at_i HR.out k hlt
    cases e
    have hat := any_take l k hlt
    have hah := any_hit l k hlt
    generalize l.getD k 0 = x at hcell hat hah
    have hb := fun W => badC x W
    have HAT := Aside0.mk hat
    have HAH := Aside0.mk hah
    have HK := Aside0.mk hlt
    have HGG := Aside0.mk hgg
    have hw2 : wrap64 ((k : Int) + 1) = ((k + 1 : Nat) : Int) := by have := HN.out; unfold wrap64; omega
    clear hat hah hgg hk
    cases hx : badL x with
    | true =>
      rw [hx] at hb
      have HX := Aside0.mk hx
      clear hx
      go_wp2_with (go_at_call 37; refine (hb _).mono ?_; rintro e w' ⟨rfl, rfl⟩)
      go_ret
      exact ⟨(k : Int), rfl, by rw [HAH.out HX.out]; exact decide_eq_true (by omega), rfl⟩
    | false =>
      rw [hx] at hb
      have HX := Aside0.mk hx
      clear hx
      go_wp2_with (go_at_call 37; refine (hb _).mono ?_; rintro e w' ⟨rfl, rfl⟩)
      have HW2 := Aside0.mk hw2
      clear hw2
      go_roundg (l.length - (k + 1))
      case measure => have := HK.out; have := HGG.out; omega
      case rel =>
        have h1 := HK.out
        have h2 := HN.out
        exact ⟨k + 1, by omega, by omega, by first | rw [HW2.out] | go_num, ⟨by rw [HAT.out, HA.out, HX.out]; rfl⟩, rfl⟩
theorem containsC (A : Option Addr) (c : Nat) (l : List Int) (w : World) (hr : Kd.C (Kd.int .i64) w A l.length l) (hn : l.length ≤ 1000000) :
    Calls Try.prog 36 #[.slice A l.length c, .func (.func 37) #[] #[]] w fun e w' => e = .returned (.bool (l.any badL)) ∧ w' = w := by
  have hi := indexC A c l w hr hn
  generalize l.any badL = b at hi ⊢
  generalize l.length = n at hi ⊢
  clear hr hn
  go_enter Try.func36, Try.ntmps36
  go_wp2_with (go_at_call 43; refine hi.mono ?_; rintro e w' ⟨r, rfl, hd, rfl⟩)
  go_ret
  exact ⟨rfl, rfl⟩
theorem are (A : Option Addr) (c : Nat) (l : List Int) (w : World) (hr : Kd.C (Kd.int .i64) w A l.length l) :
    Calls Try.prog 27 #[.slice A l.length c] w fun e w' => e = .returned (.bool (isL l)) ∧ w' = w := by
  unfold isL
  by_cases h1 : (l.length : Int) ≤ 320
  · have hc := containsC A c l w hr (by omega)
    have d1 : decide ((l.length : Int) ≤ 320) = true := decide_eq_true h1
    rw [d1]
    generalize l.any badL = b at hc ⊢
    generalize l.length = n at hc d1 h1 ⊢
    clear hr h1
    go_enter Try.func27, Try.ntmps27
    go_wp2_with (go_at_call 36; refine hc.mono ?_; rintro e w' ⟨rfl, rfl⟩)
    go_ret
    exact ⟨by simp, rfl⟩
  · have d1 : decide ((l.length : Int) ≤ 320) = false := decide_eq_false h1
    rw [d1]
    clear hr h1
    go_enter Try.func27, Try.ntmps27
    go_wp2
    go_ret
    exact ⟨rfl, rfl⟩
/-! ### how much they fill -/
def fillP (l : List Int) : Nat → Int × Int
  | 0 => (0, 0)
  | k + 1 => if l.getD k 0 > 0 then ((fillP l k).1 + 2 ^ (15 - l.getD k 0).toNat, (fillP l k).2 + 1) else fillP l k
theorem isL_at {l : List Int} (h : isL l = true) (k : Nat) (hk : k < l.length) : 0 ≤ l.getD k 0 ∧ l.getD k 0 ≤ 15 := by
  unfold isL at h
  rw [Bool.and_eq_true, Bool.not_eq_true'] at h
  by_cases hb : badL (l.getD k 0) = true
  · rw [any_hit l k hk hb] at h
    cases h.2
  · generalize l.getD k 0 = x at hb ⊢
    unfold badL at hb
    simp at hb
    omega
theorem isL_len {l : List Int} (h : isL l = true) : l.length ≤ 320 := by
  unfold isL at h
  rw [Bool.and_eq_true, decide_eq_true_iff] at h
  omega
theorem pow_le (x : Int) (h0 : 0 < x) (h1 : x ≤ 15) : 0 < (2 : Int) ^ (15 - x).toNat ∧ (2 : Int) ^ (15 - x).toNat ≤ 16384 := by
  obtain ⟨n, rfl⟩ := Int.eq_ofNat_of_zero_le (by omega : 0 ≤ x)
  have key : ∀ n : Fin 16, 0 < n.val → 0 < (2 : Int) ^ (15 - (n.val : Int)).toNat ∧ (2 : Int) ^ (15 - (n.val : Int)).toNat ≤ 16384 := by decide +kernel
  exact key ⟨n, by omega⟩ (by show 0 < n; omega)
theorem fillP_small {l : List Int} (h : isL l = true) : ∀ k, k ≤ l.length → 0 ≤ (fillP l k).1 ∧ (fillP l k).1 ≤ 16384 * k ∧ 0 ≤ (fillP l k).2 ∧ (fillP l k).2 ≤ k
  | 0, _ => ⟨Int.le_refl _, by simp [fillP], Int.le_refl _, by simp [fillP]⟩
  | k + 1, hk => by
    have ih := fillP_small h k (by omega)
    have ha := isL_at h k (by omega)
    rw [fillP]
    by_cases hp : l.getD k 0 > 0
    · rw [if_pos hp]
      have := pow_le (l.getD k 0) hp ha.2
      refine ⟨?_, ?_, ?_, ?_⟩ <;> simp only <;> omega
    · rw [if_neg hp]
      refine ⟨?_, ?_, ?_, ?_⟩ <;> omega
theorem shl_one (x : Int) (h0 : 0 < x) (h1 : x ≤ 15) : ∃ y : Int, wrap64 (15 - x) = y ∧ 0 ≤ y ∧ IntKind.i64.wrap (1 * 2 ^ min y.toNat 64) = 2 ^ (15 - x).toNat ∧ IntKind.i64.wrap (2 ^ min y.toNat 64) = 2 ^ (15 - x).toNat ∧ wrap64 (1 * 2 ^ min y.toNat 64) = 2 ^ (15 - x).toNat ∧ wrap64 (2 ^ min y.toNat 64) = 2 ^ (15 - x).toNat := by
  refine ⟨15 - x, by unfold wrap64; omega, by omega, ?_⟩
  obtain ⟨n, hn⟩ := Int.eq_ofNat_of_zero_le (by omega : 0 ≤ 15 - x)
  have hn16 : n ≤ 15 := by omega
  have key : ∀ n : Fin 16, wrap64 (2 ^ n.val) = 2 ^ n.val ∧ IntKind.i64.wrap (2 ^ n.val) = 2 ^ n.val := by decide +kernel
  obtain ⟨e1, e2⟩ := key ⟨n, by omega⟩
  rw [hn]
  simp only [Int.toNat_natCast, Nat.min_eq_left (by omega : n ≤ 64), Int.one_mul]
  exact ⟨e2, e2, e1, e1⟩
set_option maxHeartbeats 4000000 in
theorem fill (A : Option Addr) (c : Nat) (l : List Int) (w : World) (hr : Kd.C (Kd.int .i64) w A l.length l) (hl : isL l = true) :
    Calls Try.prog 28 #[.slice A l.length c] w fun e w' => e = .returned (.tuple #[.int .i64 (fillP l l.length).1, .int .i64 (fillP l l.length).2]) ∧ w' = w := by
  have HR := Aside0.mk hr
  have HI := Aside0.mk hl
  have HN := Aside0.mk (isL_len hl)
  clear hr hl
  go_enter Try.func28, Try.ntmps28
  go_wp2
  go_loopg [4, 5, 7, 10] l.length (fun gg v4 v5 _ v10 wr => ∃ k : Nat, k ≤ l.length ∧ l.length - k ≤ gg ∧ v10 = .int .i64 k ∧ v4 = .int .i64 (fillP l k).1 ∧ v5 = .int .i64 (fillP l k).2 ∧ wr = w)
  case atStart => exact ⟨0, by omega, by omega, rfl, rfl, rfl, rfl⟩
  case round =>
    obtain ⟨k, hk, hgg, rfl, rfl, rfl, hw⟩ := hrel
    subst wr
    by_cases hlt : k < l.length
    case neg =>
      have hke : k = l.length := by omega
      subst hke
      have hd1 : decide ((l.length : Int) < (l.length : Int)) = false := decide_eq_false (by omega)
      clear hk hgg hlt
      go_wp2
      go_ret2
      exact ⟨rfl, rfl⟩
    have hd1 : decide ((k : Int) < (l.length : Int)) = true := decide_eq_true (by omega)
    have hkz : (k : Int) < (l.length : Int) := by omega
    obtain ⟨ad, e, hcell⟩ := at_i HR.out k hlt
    cases e
    have hf := fillP_small HI.out k (by omega)
    have ha := isL_at HI.out k hlt
    have hs : fillP l (k + 1) = if l.getD k 0 > 0 then ((fillP l k).1 + 2 ^ (15 - l.getD k 0).toNat, (fillP l k).2 + 1) else fillP l k := rfl
    generalize l.getD k 0 = x at hcell ha hs
    generalize fillP l k = p at hf hs ⊢
    have hw2 : wrap64 ((k : Int) + 1) = ((k + 1 : Nat) : Int) := by have := HN.out; unfold wrap64; omega
    have HK := Aside0.mk hlt
    have HGG := Aside0.mk hgg
    have HW2 := Aside0.mk hw2
    clear hgg hw2
    by_cases hx : x > 0
    · rw [if_pos hx] at hs
      have dx : decide (x > 0) = true := decide_eq_true hx
      obtain ⟨y, z1, z2, z3, z4, z5, z6⟩ := shl_one x hx ha.2
      have z7 : decide (0 ≤ y) = true := decide_eq_true z2
      have hp := pow_le x hx ha.2
      generalize (2 : Int) ^ (15 - x).toNat = p2 at hs z3 z4 z5 z6 hp
      have y1 : wrap64 (p.1 + p2) = p.1 + p2 := by have := HN.out; clear z1 z2 z3 z4 z5 z6 z7 hs; unfold wrap64; omega
      have y2 : wrap64 (p.2 + 1) = p.2 + 1 := by have := HN.out; clear y1 z1 z2 z3 z4 z5 z6 z7 hs; unfold wrap64; omega
      have HS := Aside0.mk hs
      have HY1 := Aside0.mk y1
      have HY2 := Aside0.mk y2
      have hw2 := HW2.out
      clear hs hf ha hp hk
      go_wp2
      clear hw2 y1 y2 z1 z2 z3 z4 z5 z6 z7
      go_roundg (l.length - (k + 1))
      case measure => have := HK.out; have := HGG.out; omega
      case rel =>
        have h1 := HK.out
        exact ⟨k + 1, by omega, by omega, by first | rw [HW2.out] | go_num, by rw [HS.out, HY1.out], by rw [HS.out, HY2.out], rfl⟩
    · rw [if_neg hx] at hs
      have dx : decide (x > 0) = false := decide_eq_false hx
      have HS := Aside0.mk hs
      have hw2 := HW2.out
      clear hs hf ha hk
      go_wp2
      clear hw2
      go_roundg (l.length - (k + 1))
      case measure => have := HK.out; have := HGG.out; omega
      case rel =>
        have h1 := HK.out
        exact ⟨k + 1, by omega, by omega, by first | rw [HW2.out] | go_num, by rw [HS.out], by rw [HS.out], rfl⟩
/-! ### the first code of each length -/
def manyP (l : List Int) : Nat → List Int
  | 0 => List.replicate 17 0
  | k + 1 => if l.getD k 0 > 0 then (manyP l k).set (l.getD k 0).toNat (wrap64 ((manyP l k).getD (l.getD k 0).toNat 0 + 1)) else manyP l k
def firstP (m : List Int) : Nat → List Int
  | 0 => List.replicate 17 0
  | j + 1 => (firstP m j).set (j + 2) (wrap64 (wrap64 ((firstP m j).getD (j + 1) 0 + m.getD (j + 1) 0) * 2))
theorem manyP_len (l : List Int) : ∀ k, (manyP l k).length = 17
  | 0 => rfl
  | k + 1 => by
    rw [manyP]
    split
    · rw [List.length_set, manyP_len l k]
    · exact manyP_len l k
theorem firstP_len (m : List Int) : ∀ j, (firstP m j).length = 17
  | 0 => rfl
  | j + 1 => by rw [firstP, List.length_set, firstP_len m j]
/-- an array's block -/
def Arr (w : World) (base g : Nat) (ok : Nat → Prop) (l : List Int) : Prop := Kd.R (Kd.int .i64) 48 w base ok (.slice (some ⟨g, 0, none⟩) 17 17) l ∧ l.length = 17
theorem arr_new (w : World) (base : Nat) (hb : base ≤ w.heap.size) : Arr (w.alloc (.cells (nums .i64 (List.replicate 17 0)).toArray 48)) base w.heap.size (fun _ => True) (List.replicate 17 0) :=
  ⟨Kd.R_of_own (own_lit w base 48 .i64 (List.replicate 17 0) hb (by simp)) (fun _ _ => trivial), by simp⟩
theorem arr_at {w W : World} {base g : Nat} {ok : Nat → Prop} {l : List Int} (h : Arr w base g ok l) (hb : Below w.heap.size w W) (ok' : Nat → Prop) (hg : ok' g) : Arr W base g ok' l := by
  obtain ⟨⟨h1, inner, ho, hr⟩, hl⟩ := h
  refine ⟨Kd.R_below ⟨fun k hk => ?_, inner, ho, hr⟩ hb, hl⟩
  have : g = k := by simpa [Value.ownBlock] using hk
  exact this ▸ hg
theorem Arr.block {w : World} {base g : Nat} {ok : Nat → Prop} {l : List Int} (h : Arr w base g ok l) : w.heap[g]? = some (.cells (nums .i64 l).toArray 48 (0, 0)) := by
  have ho : w.ownsRow base 48 1 (.slice (some ⟨g, 0, none⟩) 17 17) l.length (encs (Value.int .i64) l) := Kd.own_of_R (h1 := fun _ => rfl) h.1
  rcases ho.2 with ⟨e0, _⟩ | ⟨g', cap, cur, e0, _, hg, hn, _, hs, ht⟩
  · cases e0
  injection e0 with e1 e2 e3
  injection e1 with e1
  injection e1 with e1
  subst e1; subst e3
  rw [hg]
  have : cur = (nums .i64 l).toArray := by
    apply Array.toList_inj.1
    rw [List.take_of_length_le (by rw [Array.length_toList, hs, h.2]; omega)] at ht
    rw [ht]
    rfl
  rw [this]
theorem inf48 (l : List Int) (h : l.length = 17) : (Try.prog.info? 48).map (·.size) = some (nums .i64 l).toArray.size := by
  rw [show (nums .i64 l).toArray.size = 17 by simp [nums, h]]
  kernel_rfl
theorem nums_one (l : List Int) : (nums .i64 l).toArray.all (·.oneCell') = true := by
  rw [Array.all_eq_true_iff_forall_mem]
  intro v hv
  simp [nums] at hv
  obtain ⟨x, _, rfl⟩ := hv
  rfl
theorem heap_setRow (w : World) (g : Nat) (old cs : Array Value) (t : TypeId) (h : w.heap[g]? = some (.cells old t (0, 0))) : (w.setRow g cs).heap[g]? = some (.cells cs t (0, 0)) := by
  simp [World.setRow, Array.getElem?_modify, h]
theorem Arr.cell {w : World} {base g : Nat} {ok : Nat → Prop} {l : List Int} (h : Arr w base g ok l) (i : Int) (h0 : 0 ≤ i) (h1 : i < 17) : w.cell? ⟨g, i.toNat, none⟩ = some (.int .i64 (l.getD i.toNat 0)) ∧ w.frozen? ⟨g, i.toNat, none⟩ = false := by
  have h2 := h.1
  rw [← h.2] at h2
  exact Kd.R_cell (g := g) 0 (show (Kd.int .i64).R 48 w base ok (.slice (some ⟨g, 0, none⟩) l.length 17) l by rw [h.2]; exact h.1) i h0 (by rw [h.2]; exact h1)
theorem Arr.put {w : World} {base g : Nat} {ok : Nat → Prop} {l : List Int} (h : Arr w base g ok l) (i x : Int) : Arr (w.setCell ⟨g, i.toNat, none⟩ (.int .i64 x)) base g ok (l.set i.toNat x) := by
  have h2 := (Kd.R_put (g := g) (cap := 17) (show (Kd.int .i64).R 48 w base ok (.slice (some ⟨g, 0, none⟩) l.length 17) l by rw [h.2]; exact h.1) i x).1
  rw [h.2] at h2
  exact ⟨h2, by rw [List.length_set, h.2]⟩
theorem Arr.far {w : World} {base g : Nat} {ok : Nat → Prop} {l : List Int} (h : Arr w base g ok l) {p : Addr} (hp : ∀ k, ok k → k ≠ p.block) (u : Value) : Arr (w.setCell p u) base g ok l := ⟨Kd.R_far h.1 hp u, h.2⟩
theorem Arr.below {w W : World} {base g : Nat} {ok : Nat → Prop} {l : List Int} (h : Arr w base g ok l) (hb : Below w.heap.size w W) : Arr W base g ok l := ⟨Kd.R_below h.1 hb, h.2⟩
theorem Arr.mono {w : World} {base g : Nat} {ok ok' : Nat → Prop} {l : List Int} (h : Arr w base g ok l) (hg : ok' g) : Arr w base g ok' l := by
  obtain ⟨⟨h1, inner, ho, hr⟩, hl⟩ := h
  exact ⟨⟨fun k hk => by
    have : g = k := by simpa [Value.ownBlock] using hk
    exact this ▸ hg, inner, ho, hr⟩, hl⟩
set_option maxHeartbeats 4000000 in
theorem firsts (A : Option Addr) (c : Nat) (l : List Int) (w : World) (hr : Kd.C (Kd.int .i64) w A l.length l) (hl : isL l = true) :
    Calls Try.prog 29 #[.slice A l.length c] w fun e w' => e = .returned (.agg (nums .i64 (firstP (manyP l l.length) 15)).toArray) ∧ Below w.heap.size w w' := by
  have HR := Aside0.mk hr
  have HI := Aside0.mk hl
  have HN := Aside0.mk (isL_len hl)
  clear hr hl
  go_enter Try.func29, Try.ntmps29
  go_wp2
  generalize hw3 : ((w.alloc (.cells #[.int .i64 0, .int .i64 0, .int .i64 0, .int .i64 0, .int .i64 0, .int .i64 0, .int .i64 0, .int .i64 0, .int .i64 0, .int .i64 0, .int .i64 0, .int .i64 0, .int .i64 0, .int .i64 0, .int .i64 0, .int .i64 0, .int .i64 0] 48)).alloc (.cells #[.int .i64 0, .int .i64 0, .int .i64 0, .int .i64 0, .int .i64 0, .int .i64 0, .int .i64 0, .int .i64 0, .int .i64 0, .int .i64 0, .int .i64 0, .int .i64 0, .int .i64 0, .int .i64 0, .int .i64 0, .int .i64 0, .int .i64 0] 48)).alloc (.cells #[.int .i64 0, .int .i64 0, .int .i64 0, .int .i64 0, .int .i64 0, .int .i64 0, .int .i64 0, .int .i64 0, .int .i64 0, .int .i64 0, .int .i64 0, .int .i64 0, .int .i64 0, .int .i64 0, .int .i64 0, .int .i64 0, .int .i64 0] 48) = w3
  generalize hg2 : w.heap.size = g2
  have HR2 := Aside0.mk (show Arr w3 g2 g2 (fun k => k ≠ g2 + 1 ∧ k ≠ g2 + 1 + 1) (List.replicate 17 0) from by
    have h := arr_new w g2 (by omega)
    rw [hg2] at h
    rw [← hw3]
    exact arr_at h (below_alloc (below_alloc (Below.refl _ _) _) _) _ (by omega))
  have HM := Aside0.mk (show Arr w3 g2 (g2 + 1) (fun k => k ≠ g2 ∧ k ≠ g2 + 1 + 1) (List.replicate 17 0) from by
    have h := arr_new (w.alloc (.cells (nums .i64 (List.replicate 17 0)).toArray 48)) g2 (by simp; omega)
    rw [show (w.alloc (.cells (nums .i64 (List.replicate 17 0)).toArray 48)).heap.size = g2 + 1 by simp [hg2]] at h
    rw [← hw3]
    exact arr_at h (below_alloc (Below.refl _ _) _) _ (by omega))
  have HF := Aside0.mk (show Arr w3 g2 (g2 + 1 + 1) (fun k => k ≠ g2 ∧ k ≠ g2 + 1) (List.replicate 17 0) from by
    have h := arr_new ((w.alloc (.cells (nums .i64 (List.replicate 17 0)).toArray 48)).alloc (.cells (nums .i64 (List.replicate 17 0)).toArray 48)) g2 (by simp; omega)
    rw [show ((w.alloc (.cells (nums .i64 (List.replicate 17 0)).toArray 48)).alloc (.cells (nums .i64 (List.replicate 17 0)).toArray 48)).heap.size = g2 + 1 + 1 by simp [hg2]] at h
    rw [← hw3]
    exact h.mono (by omega))
  have HB := Aside0.mk (show Below g2 w w3 from by
    rw [← hw3, ← hg2]
    exact below_alloc (below_alloc (below_alloc (Below.refl _ _) _) _) _)
  have HG2 := Aside0.mk hg2
  clear hw3 hg2
  go_loopg [6, 10] l.length (fun gg _ v10 wr => ∃ k : Nat, k ≤ l.length ∧ l.length - k ≤ gg ∧ v10 = .int .i64 k ∧ Aside0 (Arr wr g2 g2 (fun k => k ≠ g2 + 1 ∧ k ≠ g2 + 1 + 1) (List.replicate 17 0)) ∧ Aside0 (Arr wr g2 (g2 + 1) (fun k => k ≠ g2 ∧ k ≠ g2 + 1 + 1) (manyP l k)) ∧ Aside0 (Arr wr g2 (g2 + 1 + 1) (fun k => k ≠ g2 ∧ k ≠ g2 + 1) (List.replicate 17 0)) ∧ Aside0 (Below g2 w wr))
  case atStart => exact ⟨0, by omega, by omega, rfl, HR2, HM, HF, HB⟩
  case round =>
    obtain ⟨k, hk, hgg, rfl, HR2, HM, HF, HB⟩ := hrel
    by_cases hlt : k < l.length
    case neg =>
      have hke : k = l.length := by omega
      subst hke
      have hd1 : decide ((l.length : Int) < (l.length : Int)) = false := decide_eq_false (by omega)
      clear hk hgg hlt
      go_wp2
      obtain ⟨m, hm⟩ : ∃ m, m = manyP l l.length := ⟨_, rfl⟩
      rw [← hm] at HM
      have HMm := Aside0.mk hm
      clear hm hd1
      go_loopg [7] 15 (fun gg v7 w4 => ∃ j : Nat, j ≤ 15 ∧ 15 - j ≤ gg ∧ v7 = .int .i64 (j + 1 : Nat) ∧ Aside0 (Arr w4 g2 g2 (fun k => k ≠ g2 + 1 ∧ k ≠ g2 + 1 + 1) (List.replicate 17 0)) ∧ Aside0 (Arr w4 g2 (g2 + 1) (fun k => k ≠ g2 ∧ k ≠ g2 + 1 + 1) m) ∧ Aside0 (Arr w4 g2 (g2 + 1 + 1) (fun k => k ≠ g2 ∧ k ≠ g2 + 1) (firstP m j)) ∧ Aside0 (Below g2 w w4))
      case atStart => exact ⟨0, by omega, by omega, rfl, HR2, HM, HF, HB⟩
      case round =>
        obtain ⟨j, hj, hgg, rfl, HR2, HM, HF, HB⟩ := hrel
        by_cases hlt : j < 15
        case neg =>
          have hje : j = 15 := by omega
          subst hje
          clear hj hgg hlt
          have HFb := Aside0.mk HF.out.block
          have HRb := Aside0.mk HR2.out.block
          have HFl := Aside0.mk (firstP_len m 15)
          go_wp2_with (first | ((with_reducible refine gate_dst (N := 37) rfl ?_); refine wpList_load_row rfl 48 (.tmp 4) rfl (g2 + 1 + 1) rfl 48 (nums .i64 (firstP m 15)).toArray (0, 0) _ HFb.out Try.underlying48 rfl (inf48 _ HFl.out) ?_) | ((with_reducible refine gate_store (t := 48) (p := 2) rfl ?_); refine wpList_store_row rfl 48 (.tmp 2) (.tmp 37) rfl g2 (nums .i64 (firstP m 15)).toArray rfl rfl 48 (nums .i64 (List.replicate 17 0)).toArray HRb.out (inf48 _ HFl.out) (by have := HFl.out; simp [nums, this]) (nums_one _) ?_))
          (try simp only [Exit.inBlock, Exit.then])
          refine bodyPost_ret (results_cell_row rfl _ _ g2 48 (nums .i64 (firstP m 15)).toArray (0, 0) _ rfl (heap_setRow _ _ _ _ _ HRb.out) Try.underlying48 rfl (inf48 _ HFl.out)) rfl ?_
          refine ⟨by rw [HMm.out], ?_⟩
          rw [HG2.out]
          exact below_setRow HB.out (Nat.le_refl _) _
        have hd1 : decide (((j + 1 : Nat) : Int) ≤ 15) = true := decide_eq_true (by omega)
        have hjz : ((j + 1 : Nat) : Int) ≤ 15 := by omega
        obtain ⟨m1, m2⟩ := HM.out.cell ((j + 1 : Nat) : Int) (by omega) (by omega)
        obtain ⟨f1, f2⟩ := HF.out.cell ((j + 1 : Nat) : Int) (by omega) (by omega)
        obtain ⟨n1, n2⟩ := HF.out.cell ((j + 2 : Nat) : Int) (by omega) (by omega)
        rw [Int.toNat_natCast] at m1 m2 f1 f2 n1 n2
        have hs : firstP m (j + 1) = (firstP m j).set (j + 2) (wrap64 (wrap64 ((firstP m j).getD (j + 1) 0 + m.getD (j + 1) 0) * 2)) := rfl
        generalize (firstP m j).getD (j + 1) 0 = fv at f1 hs
        generalize m.getD (j + 1) 0 = mv at m1 hs
        generalize (firstP m j).getD (j + 2) 0 = nv at n1
        obtain ⟨i, hi⟩ : ∃ i, i = j + 1 := ⟨_, rfl⟩
        have hi2 : j + 2 = i + 1 := by omega
        rw [← hi] at m1 m2 f1 f2 hd1 hjz ⊢
        rw [hi2] at n1 n2 hs
        have hbg : g2 + 1 + 1 < wr.heap.size := Kd.R_lt HF.out.1 _ rfl
        have hbg1 : g2 + 1 < wr.heap.size := by omega
        have HS := Aside0.mk hs
        have HJ := Aside0.mk (And.intro hi hlt)
        have HGG := Aside0.mk hgg
        have z1 : (i : Int) < 17 := by omega
        have z2 : (i : Int) + 1 < 17 := by omega
        have z3 : (0 : Int) ≤ (i : Int) + 1 := by omega
        have z4 : (0 : Int) ≤ (i : Int) := by omega
        have z5 : i < 17 := by omega
        have z6 : i + 1 < 17 := by omega
        have hw1 : wrap64 ((i : Int) + 1) = ((i + 1 : Nat) : Int) := by unfold wrap64; omega
        clear hs hi hi2 hj hlt hgg
        have HW1 := Aside0.mk hw1
        go_wp2
        go_region
        clear hw1 z1 z2 z3 z4 z5 z6 hd1 hjz
        go_wp2
        go_roundg (15 - (j + 1))
        case measure => have := HJ.out; have := HGG.out; omega
        case rel =>
          have h1 := HJ.out
          refine ⟨j + 1, by omega, by omega, ?_, ⟨HR2.out.far (p := ⟨g2 + 1 + 1, i + 1, none⟩) (fun k hk => hk.2) _⟩, ⟨HM.out.far (p := ⟨g2 + 1 + 1, i + 1, none⟩) (fun k hk => hk.2) _⟩, ⟨?_⟩, ⟨(HB.out.setCell (p := ⟨g2 + 1 + 1, i + 1, none⟩) (by show g2 ≤ g2 + 1 + 1; omega) _).drew⟩⟩
          · rw [HW1.out, h1.1]
          · rw [HS.out]
            exact HF.out.put ((i + 1 : Nat) : Int) _
    have hd1 : decide ((k : Int) < (l.length : Int)) = true := decide_eq_true (by omega)
    have hkz : (k : Int) < (l.length : Int) := by omega
    obtain ⟨ad, e, hcell0⟩ := at_i HR.out k hlt
    cases e
    have hcell := (HB.out.cell (by rw [← HG2.out]; exact World.block_lt_of_cell? w _ hcell0)).trans hcell0
    have ha := isL_at HI.out k hlt
    have hs : manyP l (k + 1) = if l.getD k 0 > 0 then (manyP l k).set (l.getD k 0).toNat (wrap64 ((manyP l k).getD (l.getD k 0).toNat 0 + 1)) else manyP l k := rfl
    clear hcell0
    generalize l.getD k 0 = x at hcell ha hs
    have hw2 : wrap64 ((k : Int) + 1) = ((k + 1 : Nat) : Int) := by have := HN.out; unfold wrap64; omega
    have HK := Aside0.mk hlt
    have HGG := Aside0.mk hgg
    have HW2 := Aside0.mk hw2
    clear hgg hw2
    by_cases hx : x > 0
    · rw [if_pos hx] at hs
      have dx : decide (x > 0) = true := decide_eq_true hx
      obtain ⟨m1, m2⟩ := HM.out.cell x (by omega) (by omega)
      generalize hv : (manyP l k).getD x.toNat 0 = v at m1 hs
      have z1 : (0 ≤ x) = True := eq_true (by omega)
      have z2 : (x < 17) = True := eq_true (by omega)
      have HS := Aside0.mk hs
      have hw2 := HW2.out
      clear hs hv hk ha
      go_wp2
      clear hw2
      go_roundg (l.length - (k + 1))
      case measure => have := HK.out; have := HGG.out; omega
      case rel =>
        have h1 := HK.out
        exact ⟨k + 1, by omega, by omega, by first | rw [HW2.out] | go_num, ⟨HR2.out.far (p := ⟨g2 + 1, x.toNat, none⟩) (fun k hk => hk.1) _⟩, ⟨by rw [HS.out]; exact HM.out.put x _⟩, ⟨HF.out.far (p := ⟨g2 + 1, x.toNat, none⟩) (fun k hk => hk.2) _⟩, ⟨HB.out.setCell (by show g2 ≤ g2 + 1; omega) _⟩⟩
    · rw [if_neg hx] at hs
      have dx : decide (x > 0) = false := decide_eq_false hx
      have HS := Aside0.mk hs
      have hw2 := HW2.out
      clear hs ha hk
      go_wp2
      clear hw2
      go_roundg (l.length - (k + 1))
      case measure => have := HK.out; have := HGG.out; omega
      case rel =>
        have h1 := HK.out
        exact ⟨k + 1, by omega, by omega, by first | rw [HW2.out] | go_num, HR2, ⟨by rw [HS.out]; exact HM.out⟩, HF, HB⟩
end Go.Proofs.Ytachnclfgjdglaa.Coin
