/- What an operation's argument looks like in memory. No condition. -/
import Derived.Test.YtedbiminpokbgaaArg
import Derived.Test.YtedbiminpokbgaaOp
namespace Go.Proofs.Ytedbiminpokbgaa
open Go.RowKit Go.ChangeShapes Go.WideShapes Go.Deep
section
variable {H : Type} {enc : TypeId × Value → H} {P : Program} {w : World} {base : Nat} {spare : Nat → Bool} {held : Bool} {t e : TypeId} {fuel : Nat} {v : Value} {x : DataW H × List MemPlace}
theorem cell_op {cs : List Value} {f0 f1 f2 f3 f4 : Field} {e8 : TypeId} (he : P.underlying e = some (.struct #[f0, f1, f2, f3, f4])) (hc : P.cellsOf e = 5) (h0 : f0.offset = 0) (h1 : f1.offset = 1) (h2 : f2.offset = 2) (h3 : f3.offset = 3) (h4 : f4.offset = 4)
    (t0 : P.underlying f0.type = some (.int .i64)) (t1 : P.underlying f1.type = some .string) (t2 : P.underlying f2.type = some .string) (t3 : P.underlying f3.type = some (.int .i64)) (t4 : P.underlying f4.type = some (.slice e8)) (t8 : P.underlying e8 = some (.int .u8)) (c8 : P.cellsOf e8 = 1)
    (c0 : P.cellsOf f0.type = 1) (c1 : P.cellsOf f1.type = 1) (c2 : P.cellsOf f2.type = 1) (c3 : P.cellsOf f3.type = 1) (c4 : P.cellsOf f4.type = 1)
    (h : DataW.trod enc P w base spare held fuel e cs = some x) : ∃ (o : OpD) (A : Option Addr) (c : Nat), cs = opC o (.slice A o.data.length c) ∧ o.fits ∧ o.data.length ≤ c ∧ c ≤ 9223372036854775807 ∧ Rd w 0 w.heap.size 1 A o.data.length (u8s o.data) := by
  have hl := (fld_len he h).trans hc
  obtain ⟨y0, n0, g0⟩ := fld (j := 0) he h rfl h0 c0
  obtain ⟨y1, n1, g1⟩ := fld (j := 1) he h rfl h1 c1
  obtain ⟨y2, n2, g2⟩ := fld (j := 2) he h rfl h2 c2
  obtain ⟨y3, n3, g3⟩ := fld (j := 3) he h rfl h3 c3
  obtain ⟨y4, n4, g4⟩ := fld (j := 4) he h rfl h4 c4
  obtain ⟨a, e0, ba⟩ := cell_int t0 g0
  obtain ⟨s, e1, bs⟩ := cell_str t1 g1
  obtain ⟨s2, e2, bs2⟩ := cell_str t2 g2
  obtain ⟨a3, e3, ba3⟩ := cell_int t3 g3
  match cs, hl with
  | [u0, u1, u2, u3, u4], _ =>
    simp at e0 e1 e2 e3 g4
    obtain ⟨A, c, d, hv, m, b, R⟩ := arg_bytes t4 t8 c8 g4
    exact ⟨⟨a, s, s2, a3, d⟩, A, c, by rw [e0, e1, e2, e3, hv]; rfl, ⟨ba, ba3, bs, bs2⟩, m, b, R⟩
end
end Go.Proofs.Ytedbiminpokbgaa
