/- What a store's argument looks like in memory. No condition. -/
import Derived.Test.YtmkmphdfpghjbaaArgD
import Derived.Test.YtmkmphdfpghjbaaStoreS
namespace Go.Proofs.Ytmkmphdfpghjbaa
open Go.RowKit Go.ChangeShapes Go.WideShapes Go.Deep
section
variable {H : Type} {enc : TypeId × Value → H} {P : Program} {w : World} {base : Nat} {spare : Nat → Bool} {held : Bool} {t e : TypeId} {fuel : Nat} {v : Value} {x : DataW H × List MemPlace}
theorem cell_store {cs : List Value} {f0 f1 f2 f3 f4 : Field} {eE : TypeId} (he : P.underlying e = some (.struct #[f0, f1, f2, f3, f4])) (hc : P.cellsOf e = 10) (h0 : f0.offset = 0) (h1 : f1.offset = 6) (h2 : f2.offset = 7) (h3 : f3.offset = 8) (h4 : f4.offset = 9)
    (t1 : P.underlying f1.type = some (.int .i64)) (t2 : P.underlying f2.type = some (.int .i64)) (t3 : P.underlying f3.type = some (.slice eE)) (t4 : P.underlying f4.type = some (.int .i64))
    (c0 : P.cellsOf f0.type = 6) (c1 : P.cellsOf f1.type = 1) (c2 : P.cellsOf f2.type = 1) (c3 : P.cellsOf f3.type = 1) (c4 : P.cellsOf f4.type = 1) (cE : P.cellsOf eE = 2)
    (hD : ∀ n cs x, DataW.trod enc P w base spare held n f0.type cs = some x → ∃ (d : DiskP) (sn sk st : Value), cs = dskC d sn sk st ∧ d.fits ∧ RDk w 0 w.heap.size d sn sk st)
    (hE : ∀ n cs x, DataW.trod enc P w base spare held n eE cs = some x → ∃ d : Ent, cs = entC d ∧ (-9223372036854775808 ≤ d.1 ∧ d.1 ≤ 9223372036854775807) ∧ d.2.length ≤ 9223372036854775807)
    (h : DataW.trod enc P w base spare held fuel e cs = some x) : ∃ (s : StoreP) (sn sk st sl : Value), cs = stoC s sn sk st sl ∧ s.fits ∧ RSt w 0 w.heap.size s sn sk st sl := by
  have hl := (fld_len he h).trans hc
  obtain ⟨y0, n0, g0⟩ := fld (j := 0) he h rfl h0 c0
  obtain ⟨y1, n1, g1⟩ := fld (j := 1) he h rfl h1 c1
  obtain ⟨y2, n2, g2⟩ := fld (j := 2) he h rfl h2 c2
  obtain ⟨y3, n3, g3⟩ := fld (j := 3) he h rfl h3 c3
  obtain ⟨y4, n4, g4⟩ := fld (j := 4) he h rfl h4 c4
  obtain ⟨a1, e1, b1⟩ := cell_int t1 g1
  obtain ⟨a2, e2, b2⟩ := cell_int t2 g2
  obtain ⟨a4, e4, b4⟩ := cell_int t4 g4
  obtain ⟨d, sn, sk, st, e0, fd, Rd0⟩ := hD _ _ _ g0
  match cs, hl with
  | [u0, u1, u2, u3, u4, u5, u6, u7, u8, u9], _ =>
    simp at e1 e2 e4 g3
    simp [dskC] at e0
    obtain ⟨A3, k3, l3, v3, m3, q3, R3, z3⟩ := arg_rows (f := entC) (s := 2) entC_len (by omega) t3 cE hE g3
    obtain ⟨q0, q1, q2, q3', q4, q5⟩ := e0
    exact ⟨⟨d, a1, a2, l3, a4⟩, sn, sk, st, u8, by rw [q0, q1, q2, q3', q4, q5, e1, e2, e4]; rfl, ⟨fd, by simp only; omega, z3⟩, Rd0, A3, k3, v3, m3, R3⟩
end
end Go.Proofs.Ytmkmphdfpghjbaa
