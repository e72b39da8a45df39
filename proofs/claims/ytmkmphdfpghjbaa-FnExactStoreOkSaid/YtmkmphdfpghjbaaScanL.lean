/- Lists of records: the plain law. No condition. -/
import Derived.Test.YtmkmphdfpghjbaaFrameL
import Derived.Test.YtmkmphdfpghjbaaEntL
namespace Go.Proofs.Ytmkmphdfpghjbaa
open Go.RowKit

theorem readF_next {b : List UInt8} {i : Int} (h : (pReadF b i).2.2 = 0) : 0 ≤ i ∧ i + 10 < (pReadF b i).2.1 ∧ (pReadF b i).2.1 ≤ b.length ∧ pEntry (pReadF b i).1.1 (pReadF b i).1.2 = true ∧ (pReadF b i).2.1 = i + 10 + (pReadF b i).1.2.length := by
  unfold pReadF at *
  by_cases h1 : i < 0 ∨ b.length < i
  · rw [if_pos h1] at h; simp at h
  rw [if_neg h1] at h ⊢
  simp only at h ⊢
  by_cases h2 : b.length < i.toNat + 10
  · rw [if_pos h2] at h; simp at h
  rw [if_neg h2] at h ⊢
  by_cases h3 : getF b i.toNat 2 < 1 ∨ 1000 < getF b i.toNat 2
  · rw [if_pos h3] at h; simp at h
  rw [if_neg h3] at h ⊢
  by_cases h4 : (b.length : Int) < i.toNat + 10 + getF b i.toNat 2
  · rw [if_pos h4] at h; simp at h
  rw [if_neg h4] at h ⊢
  by_cases h5 : getF b (i.toNat + 2) 4 < 1 ∨ 1000000000 < getF b (i.toNat + 2) 4
  · rw [if_pos h5] at h; simp at h
  rw [if_neg h5] at h ⊢
  by_cases h6 : getF b (i.toNat + 6) 4 ≠ crc ((b.drop i.toNat).take 6 ++ textAt b i.toNat (getF b i.toNat 2).toNat)
  · rw [if_pos h6] at h; simp at h
  rw [if_neg h6] at h ⊢
  have hl : (textAt b i.toNat (getF b i.toNat 2).toNat).length = (getF b i.toNat 2).toNat := by unfold textAt; rw [List.length_take, List.length_drop]; omega
  refine ⟨by omega, by simp only; omega, by simp only; omega, pEntry_iff.2 ?_, by simp only; omega⟩
  simp only [hl]; omega
/-- Does the number that is read stand behind the last one? -/
def follows (p : Option Int) (n : Int) : Bool := match p with
  | none => true
  | some q => decide (q + 1 = n)
def scanFrom (b : List UInt8) (p : Option Int) (a : Nat) : List (Int × List UInt8) × Nat :=
  if h : (pReadF b a).2.2 = 0 ∧ follows p (pReadF b a).1.1 = true then
    ((pReadF b a).1 :: (scanFrom b (some (pReadF b a).1.1) (pReadF b a).2.1.toNat).1, (scanFrom b (some (pReadF b a).1.1) (pReadF b a).2.1.toNat).2)
  else ([], a)
termination_by b.length - a
decreasing_by all_goals (have := readF_next h.1; omega)
theorem scanFrom_end {b : List UInt8} {p : Option Int} {a : Nat} (h : ¬ ((pReadF b a).2.2 = 0 ∧ follows p (pReadF b a).1.1 = true)) : scanFrom b p a = ([], a) := by rw [scanFrom, dif_neg h]
theorem scanFrom_step {b : List UInt8} {p : Option Int} {a : Nat} (h : (pReadF b a).2.2 = 0) (h2 : follows p (pReadF b a).1.1 = true) :
    scanFrom b p a = ((pReadF b a).1 :: (scanFrom b (some (pReadF b a).1.1) (pReadF b a).2.1.toNat).1, (scanFrom b (some (pReadF b a).1.1) (pReadF b a).2.1.toNat).2) := by rw [scanFrom, dif_pos ⟨h, h2⟩]
def pScan (b : List UInt8) : List (Int × List UInt8) × Nat := scanFrom b none 0
def lastNum (l : List (Int × List UInt8)) : Option Int := l.getLast?.map (·.1)
theorem lastNum_snoc (l : List (Int × List UInt8)) (e : Int × List UInt8) : lastNum (l ++ [e]) = some e.1 := by simp [lastNum]
theorem scanFrom_len (b : List UInt8) : ∀ (n a : Nat) (p : Option Int), b.length - a ≤ n → a ≤ b.length → 10 * (scanFrom b p a).1.length ≤ b.length - a ∧ a ≤ (scanFrom b p a).2 ∧ (scanFrom b p a).2 ≤ b.length
  | 0, a, p, hn, ha => by
    rw [scanFrom_end (fun h => by have := readF_next h.1; omega)]
    simp only [List.length_nil]; omega
  | n + 1, a, p, hn, ha => by
    by_cases h : (pReadF b a).2.2 = 0 ∧ follows p (pReadF b a).1.1 = true
    · have h1 := readF_next h.1
      have ih := scanFrom_len b n (pReadF b a).2.1.toNat (some (pReadF b a).1.1) (by omega) (by omega)
      rw [scanFrom_step h.1 h.2]
      simp only [List.length_cons]
      omega
    · rw [scanFrom_end h]; simp only [List.length_nil]; omega

noncomputable def pLog (l : List (Int × List UInt8)) : List UInt8 × Bool := if pEntries l = true ∧ (l.flatMap frame).length ≤ 65536 then (l.flatMap frame, true) else ([], false)
theorem pLog_len (l : List (Int × List UInt8)) : (pLog l).1.length ≤ 65536 := by
  unfold pLog
  split
  · rename_i h; exact h.2
  · simp
theorem frames_take {l : List (Int × List UInt8)} {k : Nat} (h : k < l.length) : (l.take (k + 1)).flatMap frame = (l.take k).flatMap frame ++ frame l[k] := by
  rw [List.take_succ_eq_append_getElem h, List.flatMap_append]; simp
theorem frames_le (l : List (Int × List UInt8)) (k : Nat) : ((l.take k).flatMap frame).length ≤ (l.flatMap frame).length := by
  conv => rhs; rw [← List.take_append_drop k l]
  rw [List.flatMap_append, List.length_append]; omega
end Go.Proofs.Ytmkmphdfpghjbaa
