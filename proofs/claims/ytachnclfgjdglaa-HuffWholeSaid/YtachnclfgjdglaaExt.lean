/- Words of this workplace that the turned printer's proofs use beside the printed words: a constant string made into bytes. No conditions. -/
import Derived.Test.YtachnclfgjdglaaWMore
import Derived.Lib.SlBytesConst
import Derived.Lib.OthersKept
namespace Go.Proofs.YtachnclfgjdglaaExt
open Go.RowKit Go.Proofs.YtachnclfgjdglaaW.PrintWords Go.Proofs.YtachnclfgjdglaaW.PrintLast Go.Proofs.YtachnclfgjdglaaW.PrintMore
set_option linter.unusedVariables false
set_option linter.unusedSimpArgs false

theorem FK_slice_mk2 {α : Type} {d : Kd α} {e n c : Nat} {W : World} {ok : Nat → Prop} {A : Option Addr} {l : List α} (hl : n ≤ c) (hf : Kd.F d W ok A n l) : Kd.FK (Kd.slice e d) W ok l [.slice A n c] := fun W' hW => by
  have h := hf W' hW
  obtain rfl : l.length = n := h.1
  exact ⟨A, c, rfl, hl, h⟩

section
variable {P : Program} {ops : Array Oper} {rest : List Oper} {o o2 : Oper} {a : Act} {Q : Exit → Act → World → Prop}

theorem reads_marked (W : World) (e : TypeId) (xs : List Int) (hm : xs.length ≤ 9223372036854775807) (fr : Nat × Nat) :
    Kd.C (Kd.int .u8) (W.alloc (.cells (xs.map (Value.int .u8)).toArray e fr)) (some ⟨W.heap.size, 0, none⟩) xs.length xs := by
  refine Kd.C_of_reads (d := (0 : Int)) (h1 := fun _ => rfl) ⟨rfl, hm, fun h0 => ⟨_, rfl, fun j hj => ?_⟩⟩
  rw [add_plain]
  have hb : (W.alloc (.cells (xs.map (Value.int .u8)).toArray e fr)).heap[W.heap.size]? = some (.cells (xs.map (Value.int .u8)).toArray e fr) := heap_alloc_new W _
  have hc := cell_of_row _ W.heap.size j _ e fr hb
  rw [hc]
  simp [List.getElem?_eq_getElem hj, List.getD_eq_getElem?_getD]

theorem V_bconst {w0 W : World} (base e : Nat) (hgd : o.guard = none) (hgd2 : o2.guard = none) {N t : Nat} (_hd : o.dst = some N) (ho2 : o2.op = .convert t t (.tmp N))
    (ht : P.underlying t = some (.slice e)) (he : P.underlying e = some (.int .u8)) {xs : List Int} {inner : List Value}
    (hev : ∀ v, (a.put o.dst v).eval (.tmp N) = v)
    (hrun : (execOp a.eval o).run P W = .ok (.value (.slice (some ⟨W.heap.size, 0, none⟩) xs.length xs.length)) (W.alloc (.cells inner.toArray e)))
    (hin : inner = xs.map (Value.int .u8)) (HB : Below base w0 W) (hbase : base ≤ W.heap.size) (hm : xs.length ≤ 9223372036854775807)
    (h : ∀ v1 w1, (Kd.int .u8).V e w1 base (fun k => W.heap.size ≤ k) v1 xs → Below base w0 w1 → W.grownBy w1 none → wpList P ops Q rest ((a.put o.dst v1).put o2.dst v1) w1) :
    wpList P ops Q (o :: o2 :: rest) a W := by
  subst hin
  refine Kd.event_run hgd hrun ?_
  refine Kd.event_run hgd2 (v := .slice (some ⟨W.heap.size, 0, none⟩) xs.length xs.length) (w1 := W.alloc (.cells (xs.map (Value.int .u8)).toArray e ((xs.map (Value.int .u8)).toArray.size, (xs.map (Value.int .u8)).toArray.size + 1))) ?_ ?_
  · unfold execOp
    simp only [ho2, hev]
    rw [Sem.run_bind, Lib.run_convert_bytes_const (P := P) W t e _ _ _ ht he]
    rfl
  · have hb := below_alloc (Below.refl W.heap.size W) (.cells (xs.map (Value.int .u8)).toArray e ((xs.map (Value.int .u8)).toArray.size, (xs.map (Value.int .u8)).toArray.size + 1))
    refine h _ _ (Kd.V_mk (Nat.le_refl _) ?_) (HB.alloc hbase _) (World.grownBy_alloc W _ none)
    intro W' hW'
    have hc := reads_marked W e xs hm ((xs.map (Value.int .u8)).toArray.size, (xs.map (Value.int .u8)).toArray.size + 1)
    refine Kd.C_of_reads (d := (0 : Int)) (h1 := fun _ => rfl) ?_
    have hr := Kd.reads_of_C (d := (0 : Int)) hc
    refine ⟨hr.1, hr.2.1, fun h0 => ?_⟩
    obtain ⟨ad, had, hcell⟩ := hr.2.2 h0
    refine ⟨ad, had, fun j hj => ?_⟩
    have h1 := hcell j hj
    have e1 : ad = ⟨W.heap.size, 0, none⟩ := (Option.some.inj had).symm
    subst e1
    rw [add_plain] at h1 ⊢
    have h2 := hW' W.heap.size (Nat.le_refl _) (by simp)
    rw [← h1]
    simp [World.cell?, h2]
/-- '[]byte(s)': a row that is read, of new memory. -/
theorem V_sbytes {w0 W : World} (base e : Nat) (hgd : o.guard = none) {N src t : Nat} (_hd : o.dst = some N) {x : Operand} {u : TypeDesc} {s : ByteArray} (ho : o.op = .convert src t x) (hev : a.eval x = .string s)
    (hs : P.underlying src = some u) (ht : P.underlying t = some (.slice e)) (he : P.underlying e = some (.int .u8)) (hm : s.size ≤ 140737488351232)
    (HB : Below base w0 W) (hbase : base ≤ W.heap.size)
    (h : ∀ v1 w1, (Kd.int .u8).V e w1 base (fun k => W.heap.size ≤ k) v1 (bytesOf s) → Below base w0 w1 → wpList P ops Q rest (a.put o.dst v1) w1) :
    wpList P ops Q (o :: rest) a W := by
  refine Kd.event_run hgd (v := .slice (some ⟨W.heap.size, 0, none⟩) (bytesOf s).length (grownCap W s.size 0 e)) (w1 := Lib.bytesWorld W e s) ?_ ?_
  · unfold execOp
    simp only [ho, hev]
    rw [Sem.run_bind, Lib.run_convert_string_bytes (P := P) W src t e s hs ht he, bytesOf_length]
    rfl
  · have hb := bytes_below (Below.refl W.heap.size W) (Nat.le_refl _) e s
    refine h _ _ (Kd.V_mk (by rw [bytesOf_length]; exact grownCap_ge _ _ _ _) ?_) (bytes_below HB hbase e s)
    intro W' hW'
    have hr := bytes_reads W e s (by omega)
    refine Kd.C_of_reads (d := (0 : Int)) (h1 := fun _ => rfl) ?_
    rw [← bytesOf_length s] at hr
    refine ⟨hr.1, hr.2.1, fun h0 => ?_⟩
    obtain ⟨ad, had, hcell⟩ := hr.2.2 h0
    refine ⟨ad, had, fun j hj => ?_⟩
    have h1 := hcell j hj
    have e1 : ad = ⟨W.heap.size, 0, none⟩ := (Option.some.inj had).symm
    subst e1
    rw [add_plain] at h1 ⊢
    have h2 := hW' W.heap.size (Nat.le_refl _) (by rw [Lib.bytesWorld_size]; omega)
    rw [← h1]
    simp [World.cell?, h2]
end
end Go.Proofs.YtachnclfgjdglaaExt
