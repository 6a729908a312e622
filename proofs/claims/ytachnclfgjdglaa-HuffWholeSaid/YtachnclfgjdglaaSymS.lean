/- The library's stable sort at structs, of any length: stableCmpFunc. No conditions beside those that the theorem says. -/
import Derived.Test.YtachnclfgjdglaaSymM
namespace Go.Proofs.YtachnclfgjdglaaSrt
open Go.Shelf Go.RowKit Go.Lib Go.Sort
set_option linter.unusedVariables false
set_option linter.unusedSimpArgs false
variable {α : Type}
section
variable (key : α → Int)
/-! ### a row in runs of one length, each in order -/
def chunk (bs : Nat) (l : List α) (i : Nat) : List α := (l.drop (i * bs)).take bs
def rk (bs : Nat) (l : List α) : Nat → Nat → List α
  | _, 0 => []
  | i, r + 1 => srt (kl key) (chunk bs l i) ++ rk bs l (i + 1) r
theorem rk_add (bs : Nat) (l : List α) : ∀ r i s, rk key bs l i (r + s) = rk key bs l i r ++ rk key bs l (i + r) s
  | 0, i, s => by rw [Nat.zero_add, rk, List.nil_append, Nat.add_zero]
  | r + 1, i, s => by rw [show r + 1 + s = (r + s) + 1 by omega, rk, rk_add bs l r (i + 1) s, rk, List.append_assoc, show i + 1 + r = i + (r + 1) by omega]
theorem rk_snoc (bs : Nat) (l : List α) (t : Nat) : rk key bs l 0 (t + 1) = rk key bs l 0 t ++ srt (kl key) (chunk bs l t) := by
  rw [rk_add key bs l t 0 1, Nat.zero_add, rk, rk, List.append_nil]
theorem chunk_len (bs : Nat) (l : List α) (i : Nat) : (chunk bs l i).length = min bs (l.length - i * bs) := by rw [chunk, List.length_take, List.length_drop]
theorem rk_nil (bs : Nat) (l : List α) : ∀ r i, l.length ≤ i * bs → rk key bs l i r = []
  | 0, i, _ => rfl
  | r + 1, i, h => by
    rw [rk, rk_nil bs l r (i + 1) (by rw [Nat.add_mul, Nat.one_mul]; omega), chunk, List.drop_of_length_le h, List.take_nil]
    rfl
theorem rk_len (bs : Nat) (l : List α) : ∀ r i, i * bs ≤ l.length → (rk key bs l i r).length = min ((i + r) * bs) l.length - i * bs
  | 0, i, h => by rw [rk, Nat.add_zero, List.length_nil]; omega
  | r + 1, i, h => by
    rw [rk, List.length_append, srt_length, chunk_len]
    by_cases h1 : (i + 1) * bs ≤ l.length
    · rw [rk_len bs l r (i + 1) h1, show i + 1 + r = i + (r + 1) by omega]
      have h2 : (i + 1) * bs ≤ (i + (r + 1)) * bs := Nat.mul_le_mul_right _ (by omega)
      rw [Nat.add_mul, Nat.one_mul] at h1 h2
      rw [show (i + 1) * bs = i * bs + bs by rw [Nat.add_mul, Nat.one_mul]]
      omega
    · have h3 : rk key bs l (i + 1) r = [] := rk_nil key bs l r (i + 1) (by omega)
      have h2 : (i + 1) * bs ≤ (i + (r + 1)) * bs := Nat.mul_le_mul_right _ (by omega)
      rw [h3, List.length_nil]
      rw [Nat.add_mul, Nat.one_mul] at h1
      rw [Nat.add_mul, Nat.one_mul] at h2
      omega
theorem chunk_two (bs : Nat) (l : List α) (t : Nat) : chunk (2 * bs) l t = chunk bs l (2 * t) ++ chunk bs l (2 * t + 1) := by
  unfold chunk
  rw [show 2 * bs = bs + bs by omega, List.take_add, List.drop_drop, show t * (bs + bs) = 2 * t * bs by rw [Nat.mul_add, Nat.mul_assoc 2 t bs]; omega, show 2 * t * bs + bs = (2 * t + 1) * bs by rw [Nat.add_mul, Nat.one_mul]]
theorem srt_two (bs : Nat) (l : List α) (t : Nat) : mrg key (srt (kl key) (chunk bs l (2 * t))) (srt (kl key) (chunk bs l (2 * t + 1))) = srt (kl key) (chunk (2 * bs) l t) := by
  rw [chunk_two, srt_append]
theorem rk_tail (bs : Nat) (l : List α) (t c : Nat) (h : l.length ≤ (2 * t + 1) * bs) (hc : l.length ≤ c * bs) : rk key bs l (2 * t) (c - 2 * t) = srt (kl key) (chunk (2 * bs) l t) := by
  have h2 : chunk bs l (2 * t + 1) = [] := by unfold chunk; rw [List.drop_of_length_le h, List.take_nil]
  rw [chunk_two, h2, List.append_nil]
  by_cases hct : c ≤ 2 * t
  · have h3 : chunk bs l (2 * t) = [] := by
      unfold chunk
      rw [List.drop_of_length_le (Nat.le_trans hc (Nat.mul_le_mul_right _ hct)), List.take_nil]
    rw [h3, show c - 2 * t = 0 by omega]
    rfl
  · rw [show c - 2 * t = (c - 2 * t - 1) + 1 by omega, rk, rk_nil key bs l _ (2 * t + 1) h, List.append_nil]
theorem rk_all (bs : Nat) (l : List α) (c : Nat) (h1 : 1 ≤ c) (h : l.length ≤ bs) : rk key bs l 0 c = srt (kl key) l := by
  rw [show c = (c - 1) + 1 by omega, rk, rk_nil key bs l _ (0 + 1) (by omega), List.append_nil, chunk, Nat.zero_mul, List.drop_zero, List.take_of_length_le h]
end
variable [Inhabited α]
variable {P : Program} {k : Nat}
set_option maxHeartbeats 40000000 in
set_option maxRecDepth 1000000 in
/-- a row in the stable order -/
theorem stableAny (L : LayS P k) (enc : α → List Value) (g : Nat) (cb : Array Value) (blk off cap : Nat) (d0 : Array α) (w0 : World) (R : RowK enc k w0 blk off d0) (hsz : d0.size < 1152921504606846976) (cf : α → α → Int) (key : α → Int) (hkey : ∀ x y, cf x y < 0 ↔ key x < key y) (eg : ∀ args w, (callFunc g args).run P w = .ok (.enter g args) w) (hcmp : CmpLays P g cb enc k cf blk off d0.size w0)
    (hins : ∀ (w : World) (d : Array α), SWK enc k w0 blk off d w → d0.size = d.size → ∀ (A M B : List α), d.toList = A ++ M ++ B → ∀ (a b : Nat), a = A.length → b = a + M.length →
      Calls P 48 #[.slice (some ⟨blk, off, none⟩) d.size cap, .int .i64 a, .int .i64 b, .func (.func g) #[] cb] w fun e w' => e = .returned (.tuple #[]) ∧ SWK enc k w0 blk off (A ++ srt (kl key) M ++ B).toArray w')
    (w : World) (d : Array α) (S : SWK enc k w0 blk off d w) (hs : d0.size = d.size) :
    Calls P 45 #[.slice (some ⟨blk, off, none⟩) d.size cap, .int .i64 d.size, .func (.func g) #[] cb] w fun e w' => e = .returned (.tuple #[]) ∧ SWK enc k w0 blk off (srt (kl key) d.toList).toArray w' := by
  have mixed := L.mixed; have t0 := L.t0; have a0 := L.a0; have z0 := L.z0; have v0 := L.v0; have t3 := L.t3; have a3 := L.a3; have z3 := L.z3; have v3 := L.v3; have t4 := L.t4; have a4 := L.a4; have z4 := L.z4; have v4 := L.v4; have t32 := L.t32; have a32 := L.a32; have z32 := L.z32; have v32 := L.v32; have t50 := L.t50; have a50 := L.a50; have z50 := L.z50; have v50 := L.v50; have t65 := L.t65; have a65 := L.a65; have z65 := L.z65; have v65 := L.v65; have aE := L.aE; have zE := L.zE
  have e48 : ∀ args w, (callFunc 48 args).run P w = .ok (.enter 48 args) w := enters_of L.f48 (by kernel_rfl) rfl
  have e49 : ∀ args w, (callFunc 49 args).run P w = .ok (.enter 49 args) w := enters_of L.f49 (by kernel_rfl) rfl
  have HSYM : Aside _ := symMerge L enc g cb blk off cap d0 w0 R hsz cf key hkey eg hcmp
  have HINS : Aside _ := hins
  have S0 : Aside _ := S
  obtain ⟨l, hl⟩ : ∃ l, l = d.toList := ⟨_, rfl⟩
  obtain ⟨n, hn⟩ : ∃ n, n = d.size := ⟨_, rfl⟩
  have HL : Hid (l = d.toList ∧ n = l.length ∧ n = d.size ∧ d0.size = d.size) := ⟨hl, by rw [hn, hl, Array.length_toList], hn, hs⟩
  have hnb : n < 1152921504606846976 := by omega
  rw [← hl, ← hn]
  clear hkey hcmp hins S hl hn hs
  go_enter L.f45, Try.ntmps45
  go_wp2
  go_loopg [7, 8] (n + 1) (fun kx s7 s8 wr => ∃ (t a b : Nat) (dk : Array α), s7 = .int .i64 a ∧ s8 = .int .i64 b ∧ a ≤ n ∧ b ≤ n + 20 ∧ a < b ∧ n + 1 - a ≤ kx ∧ Aside (SWK enc k w0 blk off dk wr) ∧ Hid (a = 20 * t ∧ b = a + 20 ∧ dk.toList = rk key 20 l 0 t ++ l.drop a))
  case atStart => exact ⟨0, 0, 20, d, rfl, rfl, Nat.zero_le _, by omega, by omega, Nat.le_refl _, S0, ⟨rfl, rfl, by rw [HL.out.1]; rfl⟩⟩
  case round =>
    obtain ⟨t, a, b, dk, rfl, rfl, han, hbn, hab, hkx, S1, HE⟩ := hrel
    clear S0
    have hta : (rk key 20 l 0 t).length = a := by
      rw [rk_len key 20 l t 0 (by omega), Nat.zero_add, Nat.zero_mul]
      have := HE.out
      have := HL.out
      omega
    have hdn : dk.size = n := by
      rw [size_of HE.out.2.2, List.length_append, hta, List.length_drop]
      have := HL.out
      omega
    have hch : ∀ M : Nat, l.drop a = (l.drop a).take M ++ l.drop (a + M) := fun M => by
      rw [← List.drop_drop, List.take_append_drop]
    have HT : Hid ((rk key 20 l 0 t).length = a ∧ dk.size = n ∧ ∀ M : Nat, l.drop a = (l.drop a).take M ++ l.drop (a + M)) := ⟨hta, hdn, hch⟩
    clear hta hch
    by_cases hlt : b ≤ n
    · have hltz : (b : Int) ≤ (n : Int) := by omega
      have hc := HINS.out wr dk S1.out (by have := HL.out; omega) (rk key 20 l 0 t) ((l.drop a).take 20) (l.drop (a + 20)) (by rw [HE.out.2.2, List.append_assoc, ← HT.out.2.2 20]) a b HT.out.1.symm (by
        rw [List.length_take, List.length_drop]
        have := HE.out
        have := HL.out
        omega)
      rw [hdn] at hc
      clear S1 hdn
      go_wp2_with (go_at_fn 48; refine hc.mono ?_; rintro e w2 ⟨rfl, hw2⟩)
      go_roundg (n + 1 - b)
      case measure => omega
      case rel => exact ⟨t + 1, b, b + 20, _, rfl, by go_num, hlt, by omega, by omega, Nat.le_refl _, hw2, ⟨by have := HE.out; omega, rfl, by
        show _ ++ _ ++ _ = _
        rw [rk_snoc, chunk, show t * 20 = a by have := HE.out; omega, show b = a + 20 from HE.out.2.1]⟩⟩
    · have hltz : ¬ (b : Int) ≤ (n : Int) := by omega
      have hc := HINS.out wr dk S1.out (by have := HL.out; omega) (rk key 20 l 0 t) (l.drop a) [] (by rw [HE.out.2.2, List.append_nil]) a n HT.out.1.symm (by
        rw [List.length_drop]
        have := HL.out
        omega)
      rw [hdn] at hc
      clear S1 hdn
      go_wp2_with (go_at_fn 48; refine hc.mono ?_; rintro e w2 ⟨rfl, hw2⟩)
      have S2 : Aside (SWK enc k w0 blk off (rk key 20 l 0 (t + 1)).toArray w2) := by
        rw [rk_snoc, chunk, show t * 20 = a by have := HE.out; omega, List.take_of_length_le (show (l.drop a).length ≤ 20 by rw [List.length_drop]; have := HE.out; have := HL.out; omega)]
        rw [List.append_nil] at hw2
        exact hw2
      have HN2 : Hid (n ≤ (t + 1) * 20) := by have := HE.out; show n ≤ (t + 1) * 20; omega
      clear hc hw2 han hbn hab hkx HE HT hlt hltz
      go_loopg [6, 7, 8, 9] (n + 1) (fun kx s6 _ _ _ wr => ∃ (bs c : Nat) (dk : Array α), s6 = .int .i64 bs ∧ 1 ≤ bs ∧ bs ≤ 2 * n + 20 ∧ n + 1 - bs ≤ kx ∧ Aside (SWK enc k w0 blk off dk wr) ∧ Hid (1 ≤ c ∧ n ≤ c * bs ∧ dk.toList = rk key bs l 0 c))
      case atStart => exact ⟨20, t + 1, _, rfl, by omega, by omega, by omega, S2, ⟨by omega, HN2.out, rfl⟩⟩
      case round =>
        obtain ⟨bs, c, dk, rfl, hb1, hb2, hkx, S1, HE⟩ := hrel
        clear S2
        by_cases hlt : bs < n
        · have hltz : (bs : Int) < (n : Int) := by omega
          obtain ⟨b2, hb2e⟩ : ∃ b2, b2 = 2 * bs := ⟨_, rfl⟩
          have hb2z : 2 * (bs : Int) = (b2 : Int) := by omega
          have hb2z' : (bs : Int) * 2 = (b2 : Int) := by omega
          have hb2l : b2 < 2 * n := by omega
          have hb2g : bs < b2 := by omega
          have HB2 : Hid (b2 = 2 * bs) := hb2e
          have HKX : Hid (n + 1 - bs ≤ gk) := hkx
          clear hb2e hkx hb2
          go_wp2
          go_loopg [7, 8] (n + 1) (fun kx s7 s8 wr => ∃ (t a b : Nat) (dk : Array α), s7 = .int .i64 a ∧ s8 = .int .i64 b ∧ a ≤ n ∧ b ≤ 3 * n ∧ a < b ∧ n + 1 - a ≤ kx ∧ Aside (SWK enc k w0 blk off dk wr) ∧ Hid (a = t * b2 ∧ b = a + b2 ∧ dk.toList = rk key b2 l 0 t ++ rk key bs l (2 * t) (c - 2 * t)))
          case atStart => exact ⟨0, 0, b2, dk, rfl, rfl, Nat.zero_le _, by omega, by omega, Nat.le_refl _, S1, ⟨by rw [Nat.zero_mul], by omega, by rw [HE.out.2.2]; rfl⟩⟩
          case round =>
            obtain ⟨t, a, b, dk, rfl, rfl, han, hbn, hab, hkx, S1, HF⟩ := hrel
            have hta : (rk key b2 l 0 t).length = a := by
              rw [rk_len key b2 l t 0 (by omega), Nat.zero_add, Nat.zero_mul, ← HF.out.1]
              have := HL.out
              omega
            have hta2 : 2 * t * bs = a := by rw [HF.out.1, HB2.out, Nat.mul_assoc 2 t bs, Nat.mul_left_comm 2 t bs]
            have hta3 : (2 * t + 1) * bs = a + bs := by rw [Nat.add_mul, Nat.one_mul, hta2]
            have hta4 : (2 * t + 2) * bs = a + b2 := by rw [Nat.add_mul, hta2, HB2.out]
            have hrl : (rk key bs l (2 * t) (c - 2 * t)).length = n - a := by
              have hl := HL.out
              by_cases hct : 2 * t ≤ c
              · rw [rk_len key bs l (c - 2 * t) (2 * t) (by omega), hta2, show 2 * t + (c - 2 * t) = c by omega]
                have := HE.out.2.1
                omega
              · rw [show c - 2 * t = 0 by omega, rk, List.length_nil]
                have h1 : c * bs ≤ 2 * t * bs := Nat.mul_le_mul_right _ (by omega)
                have := HE.out.2.1
                omega
            have hdn : dk.size = n := by
              rw [size_of HF.out.2.2, List.length_append, hta, hrl]
              omega
            have hcc : ∀ x, x * bs < n → x < c := fun x hx => by
              rcases Nat.lt_or_ge x c with h | h
              · exact h
              · have := Nat.mul_le_mul_right bs h
                have := HE.out.2.1
                omega
            have HT : Hid ((rk key b2 l 0 t).length = a ∧ (2 * t) * bs = a ∧ (2 * t + 1) * bs = a + bs ∧ (2 * t + 2) * bs = a + b2 ∧ (∀ x, x * bs < n → x < c)) := ⟨hta, hta2, hta3, hta4, hcc⟩
            clear hta hta2 hta3 hta4 hrl hcc
            by_cases hle : b ≤ n
            · have hlez : (b : Int) ≤ (n : Int) := by omega
              have hc2 : 2 * t + 1 < c := HT.out.2.2.2.2 (2 * t + 1) (by have := HT.out; have := HF.out; have := HB2.out; omega)
              have hl := HL.out
              have e0 : (chunk bs l (2 * t)).length = bs := by rw [chunk_len, HT.out.2.1]; have := HF.out; have := HB2.out; omega
              have e1 : (chunk bs l (2 * t + 1)).length = bs := by rw [chunk_len, HT.out.2.2.1]; have := HF.out; have := HB2.out; omega
              have hr := HSYM.out (bs + bs) wr dk S1.out (rk key b2 l 0 t) (srt (kl key) (chunk bs l (2 * t))) (srt (kl key) (chunk bs l (2 * t + 1))) (rk key bs l (2 * t + 2) (c - 2 * t - 2)) (by
                rw [HF.out.2.2, show c - 2 * t = ((c - 2 * t - 2) + 1) + 1 by omega, rk, rk]
                simp only [List.append_assoc]
                rw [show c - 2 * t - 2 + 1 + 1 - 2 = c - 2 * t - 2 by omega]) (by omega) a (a + bs) b HT.out.1.symm (by rw [srt_length, e0]) (by rw [srt_length, e1]; have := HF.out; have := HB2.out; omega) (by rw [srt_length, e0]; omega) (by rw [srt_length, e1]; omega) (srt_st key _) (srt_st key _) (by rw [srt_length, srt_length, e0, e1]; omega)
              rw [hdn, srt_two] at hr
              have hm : (a : Int) + (bs : Int) = ((a + bs : Nat) : Int) := by omega
              have HC2 : Hid (2 * t + 1 < c) := hc2
              clear hc2 hl e0 e1 S1 hdn
              obtain ⟨m, hme⟩ : ∃ m, m = a + bs := ⟨_, rfl⟩
              rw [← hme] at hm hr
              have hmb : m ≤ n + n := by omega
              clear hme
              go_wp2_with (go_at_fn 49; refine hr.mono ?_; rintro e w3 ⟨rfl, hw3⟩)
              go_roundg (n + 1 - b)
              case measure => omega
              case rel => exact ⟨t + 1, b, b + b2, _, rfl, by first | rfl | go_num, hle, by omega, by omega, Nat.le_refl _, hw3, ⟨by rw [Nat.add_mul, Nat.one_mul, ← HF.out.1]; exact HF.out.2.1, rfl, by
                show _ ++ _ ++ _ = _
                rw [HB2.out] at *
                rw [rk_snoc, show 2 * (t + 1) = 2 * t + 2 by omega, show c - (2 * t + 2) = c - 2 * t - 2 by omega]⟩⟩
            · have hlez : ¬ (b : Int) ≤ (n : Int) := by omega
              obtain ⟨m, hme⟩ : ∃ m, m = a + bs := ⟨_, rfl⟩
              have hm : (a : Int) + (bs : Int) = (m : Int) := by omega
              have hmb : m ≤ n + n := by omega
              have hl := HL.out
              have hfin : n ≤ (t + 1) * b2 := by rw [Nat.add_mul, Nat.one_mul, ← HF.out.1]; have := HF.out; omega
              have HFIN : Hid (n ≤ (t + 1) * b2) := hfin
              have HM : Hid (m = a + bs) := hme
              clear hfin hme
              by_cases hmn : m < n
              · have hmz : (m : Int) < (n : Int) := by omega
                have hc2 : 2 * t + 1 < c := HT.out.2.2.2.2 (2 * t + 1) (by have := HT.out; have := HM.out; omega)
                have e0 : (chunk bs l (2 * t)).length = bs := by rw [chunk_len, HT.out.2.1]; have := HF.out; have := HB2.out; have := HM.out; omega
                have e1 : (chunk bs l (2 * t + 1)).length = n - m := by rw [chunk_len, HT.out.2.2.1]; have := HF.out; have := HB2.out; have := HM.out; omega
                have hr := HSYM.out (bs + (n - m)) wr dk S1.out (rk key b2 l 0 t) (srt (kl key) (chunk bs l (2 * t))) (srt (kl key) (chunk bs l (2 * t + 1))) [] (by
                  rw [HF.out.2.2, show c - 2 * t = ((c - 2 * t - 2) + 1) + 1 by omega, rk, rk, rk_nil key bs l _ (2 * t + 1 + 1) (by rw [show 2 * t + 1 + 1 = 2 * t + 2 from rfl, HT.out.2.2.2.1]; have := HF.out; omega)]
                  simp only [List.append_assoc]) (by omega) a m n HT.out.1.symm (by rw [srt_length, e0]; exact HM.out) (by rw [srt_length, e1]; omega) (by rw [srt_length, e0]; omega) (by rw [srt_length, e1]; omega) (srt_st key _) (srt_st key _) (by rw [srt_length, srt_length, e0, e1]; omega)
                rw [hdn, srt_two, List.append_nil] at hr
                clear hc2 hl e0 e1 S1 hdn
                go_wp2_with (go_at_fn 49; refine hr.mono ?_; rintro e w3 ⟨rfl, hw3⟩)
                go_roundg (n + 1 - b2)
                case measure => have := HKX.out; omega
                case rel => exact ⟨b2, t + 1, _, by first | rfl | go_num, by omega, by omega, Nat.le_refl _, hw3, ⟨by omega, HFIN.out, by rw [HB2.out, rk_snoc]⟩⟩
              · have hmz : ¬ (m : Int) < (n : Int) := by omega
                have hrt : dk.toList = rk key b2 l 0 (t + 1) := by
                  rw [HF.out.2.2, rk_tail key bs l t c (by rw [HT.out.2.2.1]; have := HM.out; omega) (by have := HE.out.2.1; omega), HB2.out, rk_snoc]
                have HRT : Hid (dk.toList = rk key b2 l 0 (t + 1)) := hrt
                clear hrt hl hdn
                go_wp2
                go_roundg (n + 1 - b2)
                case measure => have := HKX.out; omega
                case rel => exact ⟨b2, t + 1, dk, by first | rfl | go_num, by omega, by omega, Nat.le_refl _, S1, ⟨by omega, HFIN.out, HRT.out⟩⟩
        · have hltz : ¬ (bs : Int) < (n : Int) := by omega
          go_wp2
          go_end0
          refine ⟨rfl, ?_⟩
          have h := HE.out.2.2
          rw [rk_all key bs l c HE.out.1 (by have := HL.out; omega)] at h
          rw [← toArr h]
          exact S1.out
end Go.Proofs.YtachnclfgjdglaaSrt
