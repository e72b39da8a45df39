/- Lists of entries: the plain law. No condition. -/
import Derived.Test.YtmkmphdfpghjbaaPure
namespace Go.Proofs.Ytmkmphdfpghjbaa
open Go.RowKit
theorem pEntry_iff {e : Int × List UInt8} : pEntry e.1 e.2 = true ↔ 1 ≤ e.1 ∧ e.1 ≤ 1000000000 ∧ 1 ≤ (e.2.length : Int) ∧ (e.2.length : Int) ≤ 1000 := by
  simp [pEntry, inB]; omega
/-! entries -/
def entsOkTo (l : List (Int × List UInt8)) (k : Nat) : Prop := (∀ i, (h : i < l.length) → i < k → pEntry l[i].1 l[i].2 = true) ∧ ∀ i, (h : i + 1 < l.length) → i + 1 < k → l[i].1 + 1 = l[i + 1].1
noncomputable def pEntries (l : List (Int × List UInt8)) : Bool := by classical exact decide (entsOkTo l l.length)
theorem pEntries_iff {l : List (Int × List UInt8)} : pEntries l = true ↔ entsOkTo l l.length := by simp [pEntries]
theorem pEntries_not {l : List (Int × List UInt8)} (h : ¬ entsOkTo l l.length) : pEntries l = false := by simp [pEntries, h]
theorem entsOkTo_zero (l : List (Int × List UInt8)) : entsOkTo l 0 := ⟨fun i _ h => by omega, fun i _ h => by omega⟩
theorem entsOkTo_le {l : List (Int × List UInt8)} {k k' : Nat} (h : entsOkTo l k) (hk : k' ≤ k) : entsOkTo l k' := ⟨fun i h1 h2 => h.1 i h1 (by omega), fun i h1 h2 => h.2 i h1 (by omega)⟩
theorem entsOkTo_succ {l : List (Int × List UInt8)} {k : Nat} (h : entsOkTo l k) (hk : k < l.length) (h1 : pEntry l[k].1 l[k].2 = true) (h2 : ∀ (_ : 0 < k), l[k - 1].1 + 1 = l[k].1) : entsOkTo l (k + 1) := by
  refine ⟨fun i hi hik => ?_, fun i hi hik => ?_⟩
  · by_cases e : i = k
    · subst e; exact h1
    · exact h.1 i hi (by omega)
  · by_cases e : i + 1 = k
    · subst e; exact h2 (by omega)
    · exact h.2 i hi (by omega)
def pLast (l : List (Int × List UInt8)) (n : Int) : List (Int × List UInt8) := l.drop (l.length - (min n.toNat l.length))
end Go.Proofs.Ytmkmphdfpghjbaa
