/- The laws' helpers on lists of entries, in the words of lists. No condition. -/
import Derived.Test.YtmkmphdfpghjbaaEntM
namespace Go.Proofs.Ytmkmphdfpghjbaa
open Go.RowKit
attribute [local irreducible] TL TC TN TX TR TQ TA Pu Ret
theorem szE_k {w : World} {lo hi : Nat} {v : Value} {l : List Ent} {left : Int} (h : RE w lo hi v l) (hlen : l.length ≤ 9223372036854775807) (h0 : 0 ≤ left) (h1 : left ≤ 1048576) (hd : ∀ d ∈ l, ((-9223372036854775808 ≤ d.1 ∧ d.1 ≤ 9223372036854775807) ∧ d.2.length ≤ 9223372036854775807)) :
    Ret Try.prog 87 #[v, I left] w fun v w' => (v = I (-1) ∨ (v = I (left - l.length - totE l) ∧ l.length + totE l ≤ left)) ∧ Ext w w' := by
  obtain ⟨A, c, rfl, _, hr⟩ := h
  exact szEntryS_c hr hlen h0 h1 (fun d hdl => (hd d hdl).2)
theorem toE_k {w : World} {lo hi : Nat} {v : Value} {l : List Ent} (h : RE w lo hi v l) (hl : l.length ≤ 1048576) : Ret Try.prog 91 #[v] w fun v' w' => Ext w w' ∧ OE w' w.heap.size w'.heap.size v' l := by
  obtain ⟨A, c, rfl, _, hr⟩ := h
  exact toEntryS_c hr hl
theorem eqE_k {w : World} {lo hi lo2 hi2 : Nat} {v v2 : Value} {l : List Ent} (h : RE w lo hi v l) (h2 : RE w lo2 hi2 v2 l) (hl : l.length ≤ 1099511627776) : Ret Try.prog 38 #[v, v2] w fun v' w' => v' = .bool true ∧ Ext w w' := by
  obtain ⟨A, c, rfl, _, hr⟩ := h
  obtain ⟨A2, c2, rfl, _, hr2⟩ := h2
  exact eqEntryS_c hr hr2 hl
theorem markE_k {w : World} {lo hi : Nat} {v : Value} {l : List Ent} {k : Int} (h : OE w lo hi v l) (hl : l.length ≤ 1099511627776) (hk0 : 0 ≤ k) (hk1 : k ≤ 1099511627776) :
    Ret Try.prog 39 #[v, I k] w fun v' w' => v' = I (k + 2 * l.length) ∧ Ch (Iv lo hi) w w' ∧ w.heap.size ≤ w'.heap.size ∧ ME w' lo hi v k l := by
  obtain ⟨A, c, rfl, ho⟩ := h
  exact (markEntryS_c ho hl hk0 hk1).mono fun v' w' ⟨hv, e, hz, ho'⟩ => ⟨hv, e, hz, A, c, by rw [mkE_length], by rw [mkE_length]; exact ho'⟩
theorem heldE_k {w : World} {lo hi : Nat} {v : Value} {l : List Ent} {k : Int} (h : ME w lo hi v k l) (hl : l.length ≤ 1099511627776) (hk0 : 0 ≤ k) (hk1 : k ≤ 1099511627776) :
    Ret Try.prog 40 #[v, I k] w fun v' w' => v' = I (k + 2 * l.length) ∧ Ext w w' := by
  obtain ⟨A, c, hv, ho⟩ := h
  rw [mkE_length] at hv ho
  subst hv
  exact heldEntryS_c ho.rd hl hk0 hk1
end Go.Proofs.Ytmkmphdfpghjbaa
