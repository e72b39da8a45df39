/- What a disk's argument looks like in memory. No condition. -/
import Derived.Test.YtggaghghclomkaaGreatArgR
import Derived.Test.YtggaghghclomkaaGreatDiskS
namespace Go.Proofs.YtggaghghclomkaaGreat
open Go.RowKit Go.ChangeShapes Go.WideShapes Go.Deep
section
variable {H : Type} {enc : TypeId × Value → H} {P : Program} {w : World} {base : Nat} {spare : Nat → Bool} {held : Bool} {t e : TypeId} {fuel : Nat} {v : Value} {x : DataW H × List MemPlace}
theorem cell_node {cs : List Value} {f0 f1 f2 : Field} {e8 : TypeId} (he : P.underlying e = some (.struct #[f0, f1, f2])) (hc : P.cellsOf e = 3) (h0 : f0.offset = 0) (h1 : f1.offset = 1) (h2 : f2.offset = 2)
    (t0 : P.underlying f0.type = some (.int .i64)) (t1 : P.underlying f1.type = some (.slice e8)) (t2 : P.underlying f2.type = some (.slice e8)) (t8 : P.underlying e8 = some (.int .u8)) (c8 : P.cellsOf e8 = 1)
    (c0 : P.cellsOf f0.type = 1) (c1 : P.cellsOf f1.type = 1) (c2 : P.cellsOf f2.type = 1)
    (h : DataW.trod enc P w base spare held fuel e cs = some x) : ∃ d : Nd, cs = NdC d ∧ NdOk w 0 w.heap.size d ∧ NdFit (NdP d) := by
  have hl := (fld_len he h).trans hc
  obtain ⟨y0, n0, g0⟩ := fld (j := 0) he h rfl h0 c0
  obtain ⟨y1, n1, g1⟩ := fld (j := 1) he h rfl h1 c1
  obtain ⟨y2, n2, g2⟩ := fld (j := 2) he h rfl h2 c2
  obtain ⟨a, e0, ba⟩ := cell_int t0 g0
  match cs, hl with
  | [u0, u1, u2], _ =>
    simp at e0 g1 g2
    obtain ⟨A, c, s, hv, m, b, R⟩ := arg_bytes t1 t8 c8 g1
    obtain ⟨A2, c2', s2, hv2, m2, b2, R2⟩ := arg_bytes t2 t8 c8 g2
    exact ⟨⟨a, s, s2, u1, u2⟩, by rw [e0]; rfl, ⟨⟨A, c, hv, m, R⟩, ⟨A2, c2', hv2, m2, R2⟩⟩, by simp only [NdP]; omega, by simp only [NdP]; omega⟩
theorem cell_link {cs : List Value} {f0 f1 : Field} (he : P.underlying e = some (.struct #[f0, f1])) (hc : P.cellsOf e = 2) (h0 : f0.offset = 0) (h1 : f1.offset = 1)
    (t0 : P.underlying f0.type = some .string) (t1 : P.underlying f1.type = some (.int .i64)) (c0 : P.cellsOf f0.type = 1) (c1 : P.cellsOf f1.type = 1)
    (h : DataW.trod enc P w base spare held fuel e cs = some x) : ∃ d : LkD, cs = LkC d ∧ LkOk w 0 w.heap.size d ∧ LkFit (LkP d) := by
  have hl := (fld_len he h).trans hc
  obtain ⟨y0, n0, g0⟩ := fld (j := 0) he h rfl h0 c0
  obtain ⟨y1, n1, g1⟩ := fld (j := 1) he h rfl h1 c1
  obtain ⟨s, e0, bs⟩ := cell_str t0 g0
  obtain ⟨a, e1, ba⟩ := cell_int t1 g1
  match cs, hl with
  | [u0, u1], _ =>
    simp at e0 e1
    exact ⟨⟨s, a⟩, by rw [e0, e1]; rfl, trivial, bs, ba⟩
theorem cell_turn {cs : List Value} {f0 f1 f2 f3 : Field} (he : P.underlying e = some (.struct #[f0, f1, f2, f3])) (hc : P.cellsOf e = 4) (h0 : f0.offset = 0) (h1 : f1.offset = 1) (h2 : f2.offset = 2) (h3 : f3.offset = 3)
    (t0 : P.underlying f0.type = some (.int .i64)) (t1 : P.underlying f1.type = some .string) (t2 : P.underlying f2.type = some .string) (t3 : P.underlying f3.type = some (.int .i64))
    (c0 : P.cellsOf f0.type = 1) (c1 : P.cellsOf f1.type = 1) (c2 : P.cellsOf f2.type = 1) (c3 : P.cellsOf f3.type = 1)
    (h : DataW.trod enc P w base spare held fuel e cs = some x) : ∃ d : TnD, cs = TnC d ∧ TnOk w 0 w.heap.size d ∧ TnFit (TnP d) := by
  have hl := (fld_len he h).trans hc
  obtain ⟨y0, n0, g0⟩ := fld (j := 0) he h rfl h0 c0
  obtain ⟨y1, n1, g1⟩ := fld (j := 1) he h rfl h1 c1
  obtain ⟨y2, n2, g2⟩ := fld (j := 2) he h rfl h2 c2
  obtain ⟨y3, n3, g3⟩ := fld (j := 3) he h rfl h3 c3
  obtain ⟨a, e0, ba⟩ := cell_int t0 g0
  obtain ⟨s, e1, bs⟩ := cell_str t1 g1
  obtain ⟨s2, e2, bs2⟩ := cell_str t2 g2
  obtain ⟨a3, e3, ba3⟩ := cell_int t3 g3
  match cs, hl with
  | [u0, u1, u2, u3], _ =>
    simp at e0 e1 e2 e3
    exact ⟨⟨a, s, s2, a3⟩, by rw [e0, e1, e2, e3]; rfl, trivial, bs, bs2, ba3⟩
theorem cell_disk {cs : List Value} {f0 f1 f2 f3 f4 f5 : Field} {eN eK eT : TypeId} (he : P.underlying e = some (.struct #[f0, f1, f2, f3, f4, f5])) (hc : P.cellsOf e = 6) (h0 : f0.offset = 0) (h1 : f1.offset = 1) (h2 : f2.offset = 2) (h3 : f3.offset = 3) (h4 : f4.offset = 4) (h5 : f5.offset = 5)
    (t0 : P.underlying f0.type = some (.int .i64)) (t1 : P.underlying f1.type = some (.int .i64)) (t2 : P.underlying f2.type = some (.int .i64)) (t3 : P.underlying f3.type = some (.slice eN)) (t4 : P.underlying f4.type = some (.slice eK)) (t5 : P.underlying f5.type = some (.slice eT))
    (c0 : P.cellsOf f0.type = 1) (c1 : P.cellsOf f1.type = 1) (c2 : P.cellsOf f2.type = 1) (c3 : P.cellsOf f3.type = 1) (c4 : P.cellsOf f4.type = 1) (c5 : P.cellsOf f5.type = 1) (cN : P.cellsOf eN = 3) (cK : P.cellsOf eK = 2) (cT : P.cellsOf eT = 4)
    (hN : ∀ n cs x, DataW.trod enc P w base spare held n eN cs = some x → ∃ d : Nd, cs = NdC d ∧ NdOk w 0 w.heap.size d ∧ NdFit (NdP d))
    (hK : ∀ n cs x, DataW.trod enc P w base spare held n eK cs = some x → ∃ d : LkD, cs = LkC d ∧ LkOk w 0 w.heap.size d ∧ LkFit (LkP d))
    (hT : ∀ n cs x, DataW.trod enc P w base spare held n eT cs = some x → ∃ d : TnD, cs = TnC d ∧ TnOk w 0 w.heap.size d ∧ TnFit (TnP d))
    (h : DataW.trod enc P w base spare held fuel e cs = some x) : ∃ (d : DiskP) (sn sk st : Value), cs = dskC d sn sk st ∧ d.fits ∧ RDk w 0 w.heap.size d sn sk st := by
  have hl := (fld_len he h).trans hc
  obtain ⟨y0, n0, g0⟩ := fld (j := 0) he h rfl h0 c0
  obtain ⟨y1, n1, g1⟩ := fld (j := 1) he h rfl h1 c1
  obtain ⟨y2, n2, g2⟩ := fld (j := 2) he h rfl h2 c2
  obtain ⟨y3, n3, g3⟩ := fld (j := 3) he h rfl h3 c3
  obtain ⟨y4, n4, g4⟩ := fld (j := 4) he h rfl h4 c4
  obtain ⟨y5, n5, g5⟩ := fld (j := 5) he h rfl h5 c5
  obtain ⟨a0, e0, b0⟩ := cell_int t0 g0
  obtain ⟨a1, e1, b1⟩ := cell_int t1 g1
  obtain ⟨a2, e2, b2⟩ := cell_int t2 g2
  match cs, hl with
  | [u0, u1, u2, u3, u4, u5], _ =>
    simp at e0 e1 e2 g3 g4 g5
    obtain ⟨A3, k3, l3, v3, m3, q3, R3, z3⟩ := arg_rows (f := NdC) (s := 3) NdC_len (by omega) t3 cN hN g3
    obtain ⟨A4, k4, l4, v4, m4, q4, R4, z4⟩ := arg_rows (f := LkC) (s := 2) LkC_len (by omega) t4 cK hK g4
    obtain ⟨A5, k5, l5, v5, m5, q5, R5, z5⟩ := arg_rows (f := TnC) (s := 4) TnC_len (by omega) t5 cT hT g5
    refine ⟨⟨a0, a1, a2, l3.map NdP, l4.map LkP, l5.map TnP⟩, u3, u4, u5, by rw [e0, e1, e2]; rfl, ⟨b0, b1, b2, ⟨by simp only [List.length_map]; omega, ?_⟩, ⟨by simp only [List.length_map]; omega, ?_⟩, ⟨by simp only [List.length_map]; omega, ?_⟩⟩,
      ⟨l3, A3, k3, rfl, v3, m3, R3, fun d hd => (z3 d hd).1⟩, ⟨l4, A4, k4, rfl, v4, m4, R4, fun d hd => (z4 d hd).1⟩, ⟨l5, A5, k5, rfl, v5, m5, R5, fun d hd => (z5 d hd).1⟩⟩
    · intro p hp
      obtain ⟨d, hd, rfl⟩ := List.mem_map.1 hp
      exact (z3 d hd).2
    · intro p hp
      obtain ⟨d, hd, rfl⟩ := List.mem_map.1 hp
      exact (z4 d hd).2
    · intro p hp
      obtain ⟨d, hd, rfl⟩ := List.mem_map.1 hp
      exact (z5 d hd).2
end
end Go.Proofs.YtggaghghclomkaaGreat
