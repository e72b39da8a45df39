/- Numbers as decimal text: the plain law. No condition. -/
import Derived.Test.YtohbamaomaadiaaDoorKind
import Derived.Lib.ItoaMem
import Derived.Lib.ItoaLen
import Derived.Lib.AtoiTie
namespace Go.Proofs.YtohbamaomaadiaaDoor
open Go.Lib

def numT (n : Int) : List UInt8 := if 0 ≤ n ∧ n ≤ 4294967295 then itoa n else []
theorem numT_out {n : Int} (h : ¬ (0 ≤ n ∧ n ≤ 4294967295)) : numT n = [] := by unfold numT; rw [if_neg h]
theorem numT_in {u : Nat} (h : u ≤ 4294967295) : numT (u : Int) = decDigits u := by unfold numT; rw [if_pos (by omega), itoa_nonneg]
theorem pb48 {d : Nat} (h : d < 10) : pb (48 + (d : Int)) = UInt8.ofNat (48 + d) := by
  unfold pb
  congr 1; omega
theorem numT_small {u : Nat} (h : u < 10) : numT (u : Int) = [pb (48 + (u : Int))] := by rw [numT_in (by omega), decDigits_one h, pb48 h]
theorem numT_step {u : Nat} (h : ¬ u < 10) (h2 : u ≤ 4294967295) : numT (u : Int) = numT ((u / 10 : Nat) : Int) ++ [pb (48 + ((u % 10 : Nat) : Int))] := by
  rw [numT_in h2, numT_in (by omega), decDigits, dif_neg h, pb48 (by omega)]
theorem decDigits_ne (u : Nat) : decDigits u ≠ [] := by
  rw [decDigits]; split <;> simp
theorem nDigits_le (k : Nat) : ∀ u, u < 10 ^ (k + 1) → nDigits u ≤ k + 1 := by
  induction k with
  | zero => intro u h; rw [nDigits_small (by simpa using h)]; omega
  | succ k ih =>
    intro u h
    rw [nDigits]
    split
    · omega
    · have : u / 10 < 10 ^ (k + 1) := by rw [Nat.pow_succ] at h; omega
      have := ih _ this
      omega
theorem numT_le (n : Int) : (numT n).length ≤ 10 := by
  by_cases h : 0 ≤ n ∧ n ≤ 4294967295
  · obtain ⟨u, rfl⟩ := Int.eq_ofNat_of_zero_le h.1
    rw [numT_in (by omega), decDigits_length]
    exact nDigits_le 9 u (by have : (10 : Nat) ^ (9 + 1) = 10000000000 := by decide
                             omega)
  · rw [numT_out h]; simp
theorem decFrom_append : ∀ (a b : List UInt8) (acc : Nat), decFrom acc (a ++ b) = (decFrom acc a).bind fun n => decFrom n b
  | [], b, acc => rfl
  | x :: a, b, acc => by
    rw [List.cons_append, decFrom, decFrom]
    cases digitVal x with
    | none => rfl
    | some d => exact decFrom_append a b _
theorem digitVal_dec {d : Nat} (h : d < 10) : digitVal (UInt8.ofNat (48 + d)) = some d := by
  have : ∀ d, d < 10 → digitVal (UInt8.ofNat (48 + d)) = some d := by decide
  exact this d h
theorem decFrom_decDigits (u : Nat) : decFrom 0 (decDigits u) = some u := by
  induction u using Nat.strongRecOn with
  | ind u ih =>
    rw [decDigits]
    split
    · rename_i h
      rw [decFrom, digitVal_dec h]; simp [decFrom]
    · rename_i h
      rw [decFrom_append, ih _ (by omega), Option.bind_some, decFrom, digitVal_dec (by omega)]
      simp only [decFrom]
      congr 1; omega
/-- What TextNum gives. -/
def pText (s : List UInt8) : Int × Bool :=
  match decNat s with
  | some n => if s.length ≤ 10 ∧ numT n = s then ((n : Int), true) else (0, false)
  | none => (0, false)
theorem pText_num {v : Int} {s : List UInt8} (hs : s ≠ []) (h : numT v = s) : pText s = (v, true) ∧ decNat s = some v.toNat ∧ s.length ≤ 10 ∧ 0 ≤ v := by
  by_cases hv : 0 ≤ v ∧ v ≤ 4294967295
  · obtain ⟨u, rfl⟩ := Int.eq_ofNat_of_zero_le hv.1
    have hl := numT_le (u : Int)
    rw [h] at hl
    have hd : decNat s = some u := by
      rw [← h, numT_in (by omega)]
      unfold decNat
      rw [if_neg (by simpa using decDigits_ne u), decFrom_decDigits]
    refine ⟨?_, by simpa using hd, hl, by omega⟩
    unfold pText
    rw [hd]
    simp [hl, h]
  · rw [numT_out hv] at h
    exact absurd h.symm hs
theorem pText_none {s : List UInt8} (h : ∀ n : Nat, decNat s = some n → s.length ≤ 10 → numT n ≠ s) : pText s = (0, false) := by
  unfold pText
  cases hd : decNat s with
  | none => rfl
  | some n =>
    simp only
    rw [if_neg (fun hh => h n hd hh.1 hh.2)]
theorem atoiAll_of_dec {s : List UInt8} {n : Nat} (hd : decNat s = some n) (hl : s.length ≤ 10) : atoiAll s = .ok (n : Int) := by
  rw [atoiAll_short s (by omega)]
  cases s with
  | nil => simp [decNat] at hd
  | cons b r =>
    have hb : 48 ≤ b.toNat ∧ b.toNat ≤ 57 := by
      simp only [decNat, List.isEmpty_cons, Bool.false_eq_true, if_false, decFrom, digitVal] at hd
      split at hd
      · rename_i d h1
        split at h1
        · assumption
        · cases h1
      · cases hd
    show NumEnd.ofOption (if (b == 45) = true then _ else if (b == 43) = true then _ else _) = _
    rw [if_neg (by intro e; rw [beq_iff_eq] at e; subst e; revert hb; decide), if_neg (by intro e; rw [beq_iff_eq] at e; subst e; revert hb; decide), hd]
    rfl
/-- What the program's TextNum makes of a text that spells v. -/
theorem pText_ok {s : List UInt8} {v : Int} (h : atoiAll s = .ok v) : pText s = if numT v = s then (v, true) else (0, false) := by
  have hs : s ≠ [] := by rintro rfl; simp [atoiAll] at h
  split
  · rename_i hv; exact (pText_num hs hv).1
  · rename_i hv
    refine pText_none fun n hd hl hn => hv ?_
    have := atoiAll_of_dec hd hl
    rw [h] at this
    injection this with this
    rw [this]; exact hn
theorem pText_bad {s : List UInt8} (h : ∀ v, atoiAll s ≠ .ok v) : pText s = (0, false) :=
  pText_none fun n hd hl _ => h _ (atoiAll_of_dec hd hl)
theorem decFrom_bad {s : List UInt8} : ∀ {k : Nat} {acc : Nat} (hk : k < s.length), digitVal (s.getD k 0) = none → decFrom acc s = none := by
  induction s with
  | nil => intro k acc hk; simp at hk
  | cons b r ih =>
    intro k acc hk h
    cases k with
    | zero => simp at h; rw [decFrom, h]
    | succ k =>
      rw [decFrom]
      cases digitVal b with
      | none => rfl
      | some d => exact ih (k := k) (by simpa using hk) (by simpa using h)
end Go.Proofs.YtohbamaomaadiaaDoor
