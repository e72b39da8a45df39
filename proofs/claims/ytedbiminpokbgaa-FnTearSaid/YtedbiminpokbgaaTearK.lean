/- The steps between two contents, in the words of what goes from call to call. -/
import Derived.Test.YtedbiminpokbgaaKind
import Derived.Test.YtedbiminpokbgaaTear
namespace Go.Proofs.Ytedbiminpokbgaa
open Go.RowKit
attribute [local irreducible] TL TC TN TX TR TQ Pu Ret
theorem specTearSteps_k {w : World} {lo hi lo2 hi2 : Nat} {v v2 : Value} {s t : List UInt8} (h : RB w lo hi v s) (h2 : RB w lo2 hi2 v2 t) (hl : s.length ≤ 1048576) (hl2 : t.length ≤ 1048576) : Ret Try.prog 38 #[v, v2] w fun v' w' => v' = I (tearSteps s t) ∧ Ext w w' := by
  obtain ⟨A, c, rfl, _, hr⟩ := h
  obtain ⟨A2, c2, rfl, _, hr2⟩ := h2
  exact specTearSteps_c hr hr2 (by omega) (by omega)
theorem implTearSteps_k {w : World} {lo hi lo2 hi2 : Nat} {v v2 : Value} {s t : List UInt8} (h : RB w lo hi v s) (h2 : RB w lo2 hi2 v2 t) (hl : s.length ≤ 1048576) (hl2 : t.length ≤ 1048576) : Ret Try.prog 39 #[v, v2] w fun v' w' => v' = I (tearSteps s t) ∧ Ext w w' := by
  obtain ⟨A, c, rfl, _, hr⟩ := h
  obtain ⟨A2, c2, rfl, _, hr2⟩ := h2
  exact implTearSteps_c hr hr2 (by omega) (by omega)
theorem specTear_k {w : World} {lo hi lo2 hi2 : Nat} {v v2 : Value} {s t : List UInt8} {k : Int} (h : RB w lo hi v s) (h2 : RB w lo2 hi2 v2 t) (hl : s.length ≤ 1048576) (hl2 : t.length ≤ 1048576) : Ret Try.prog 40 #[v, v2, I k] w fun v' w' => Ext w w' ∧ OB w' w.heap.size w'.heap.size v' (tear s t k) := by
  obtain ⟨A, c, rfl, hc, hr⟩ := h
  obtain ⟨A2, c2, rfl, hc2, hr2⟩ := h2
  exact (specTear_c hr hr2 (by omega) (by omega) hc hc2).mono fun v' w' ⟨A', c', hv, e, ho⟩ => ⟨e, A', c', hv, ho⟩
theorem implTear_k {w : World} {lo hi lo2 hi2 : Nat} {v v2 : Value} {s t : List UInt8} {k : Int} (h : RB w lo hi v s) (h2 : RB w lo2 hi2 v2 t) (hl : s.length ≤ 1048576) (hl2 : t.length ≤ 1048576) : Ret Try.prog 41 #[v, v2, I k] w fun v' w' => Ext w w' ∧ OB w' w.heap.size w'.heap.size v' (tear s t k) := by
  obtain ⟨A, c, rfl, hc, hr⟩ := h
  obtain ⟨A2, c2, rfl, hc2, hr2⟩ := h2
  exact (implTear_c hr hr2 (by omega) (by omega) hc hc2).mono fun v' w' ⟨A', c', hv, e, ho⟩ => ⟨e, A', c', hv, ho⟩
end Go.Proofs.Ytedbiminpokbgaa
