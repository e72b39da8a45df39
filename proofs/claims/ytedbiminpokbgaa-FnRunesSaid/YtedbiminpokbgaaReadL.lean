/- Reading a rune from bytes: the plain law. -/
import Derived.Test.YtedbiminpokbgaaRune
namespace Go.Proofs.Ytedbiminpokbgaa
open Go.RowKit

def by8 (b : List UInt8) (i : Nat) : Int := ((b.getD i 0).toNat : Int)
theorem by8_eq (b : List UInt8) (i : Nat) : ((b.getD i 0).toNat : Int) = by8 b i := rfl
theorem by8_b (b : List UInt8) (i : Nat) : 0 ≤ by8 b i ∧ by8 b i ≤ 255 := by unfold by8; have := (b.getD i 0).toNat_lt; omega
def rdOff (k : Nat) : Int := [0, 0, 192, 224, 240].getD k 0
def rdF (b : List UInt8) (a : Nat) (o : Int) : Nat → Int
  | 0 => by8 b a - o
  | i + 1 => rdF b a o i * 64 + by8 b (a + (i + 1)) - 128
theorem rdF_pow (b : List UInt8) (a : Nat) {o : Int} (ho : 0 ≤ o ∧ o ≤ 255) : ∀ i, -(1000 ^ (i + 1) : Int) ≤ rdF b a o i ∧ rdF b a o i ≤ 1000 ^ (i + 1)
  | 0 => by have := by8_b b a; simp only [rdF]; omega
  | i + 1 => by
    have h := rdF_pow b a ho i
    have h1 := by8_b b (a + (i + 1))
    have h2 : (1000 : Int) ^ (i + 1 + 1) = 1000 ^ (i + 1) * 1000 := Int.pow_succ _ _
    have h3 : (0 : Int) < 1000 ^ (i + 1) := Int.pow_pos (by omega)
    simp only [rdF]
    omega
theorem rdF_le (b : List UInt8) (a : Nat) {o : Int} (ho : 0 ≤ o ∧ o ≤ 255) {i : Nat} (hi : i ≤ 3) : -1000000000000 ≤ rdF b a o i ∧ rdF b a o i ≤ 1000000000000 := by
  have h := rdF_pow b a ho i
  have : i = 0 ∨ i = 1 ∨ i = 2 ∨ i = 3 := by omega
  rcases this with rfl | rfl | rfl | rfl <;> simp only [Nat.zero_add, Nat.reduceAdd, Int.reducePow] at h <;> omega
theorem rdOff_b {k : Nat} (h : k ≤ 4) : 0 ≤ rdOff k ∧ rdOff k ≤ 255 := by
  have : k = 0 ∨ k = 1 ∨ k = 2 ∨ k = 3 ∨ k = 4 := by omega
  rcases this with rfl | rfl | rfl | rfl | rfl <;> decide
def rd (b : List UInt8) (a n : Nat) : Int := rdF b a (rdOff n) (n - 1)
def okAt (b : List UInt8) (a n : Nat) : Bool := decide (a + n ≤ b.length ∧ pRuneBytes (rd b a n) = (b.take (a + n)).drop a)
def pReadAt (b : List UInt8) (a : Nat) : Int × Nat :=
  if okAt b a 1 = true then (rd b a 1, 1) else if okAt b a 2 = true then (rd b a 2, 2) else if okAt b a 3 = true then (rd b a 3, 3) else if okAt b a 4 = true then (rd b a 4, 4) else (0, 0)
def pRead (b : List UInt8) (i : Int) : Int × Nat := if 0 ≤ i ∧ i < b.length then pReadAt b i.toNat else (0, 0)
theorem cutLen {b : List UInt8} {a n : Nat} (h : a + n ≤ b.length) : ((b.take (a + n)).drop a).length = n := by simp; omega
theorem cutHead {b : List UInt8} {a n : Nat} (h : a + n ≤ b.length) (hn : 1 ≤ n) : ((b.take (a + n)).drop a).getD 0 0 = b.getD a 0 := by
  simp only [List.getD_eq_getElem?_getD, List.getElem?_drop, List.getElem?_take]
  rw [if_pos (by omega)]; simp
theorem pb_nat {x : Int} (h : 0 ≤ x ∧ x ≤ 255) : ((pb x).toNat : Int) = x := by
  unfold pb; rw [Int.emod_eq_of_lt h.1 (by omega)]; simp; omega
theorem okAt_len {b : List UInt8} {a n : Nat} (h : okAt b a n = true) : a + n ≤ b.length ∧ (pRuneBytes (rd b a n)).length = n ∧ (pRuneBytes (rd b a n)).getD 0 0 = (if n = 0 then 0 else b.getD a 0) := by
  simp only [okAt, decide_eq_true_eq] at h
  refine ⟨h.1, by rw [h.2, cutLen h.1], ?_⟩
  rw [h.2]
  split
  · rename_i h0; subst h0; simp [List.getD_eq_getElem?_getD]
  · exact cutHead h.1 (by omega)
/-- What the first byte says of the length. -/
def firstN (x : Int) : Nat := if x < 128 then 1 else if 192 ≤ x ∧ x ≤ 223 then 2 else if 224 ≤ x ∧ x ≤ 239 then 3 else if 240 ≤ x ∧ x ≤ 247 then 4 else 0
theorem okAt_first {b : List UInt8} {a n : Nat} (hn : 1 ≤ n) (h : okAt b a n = true) : firstN (by8 b a) = n := by
  obtain ⟨_, h2, h3⟩ := okAt_len h
  rw [if_neg (by omega)] at h3
  unfold by8
  rw [← h3]
  revert h2
  cases hp : pRuneOk (rd b a n)
  · intro h2
    unfold pRuneBytes at h2
    rw [if_neg (by simp [hp])] at h2
    simp at h2; omega
  · have hp' := hp
    simp only [pRuneOk, decide_eq_true_eq] at hp'
    by_cases c1 : rd b a n < 128
    · rw [rb1 hp c1]
      intro h2
      simp only [List.length_cons, List.length_nil] at h2
      simp only [List.getD_eq_getElem?_getD, List.getElem?_cons_zero, Option.getD_some]
      rw [pb_nat (by omega)]; unfold firstN; rw [if_pos (by omega)]; omega
    · by_cases c2 : rd b a n < 2048
      · rw [rb2 hp (by omega) c2]
        intro h2
        simp only [List.length_cons, List.length_nil] at h2
        simp only [List.getD_eq_getElem?_getD, List.getElem?_cons_zero, Option.getD_some]
        rw [pb_nat (by omega)]; unfold firstN; rw [if_neg (by omega), if_pos (by omega)]; omega
      · by_cases c3 : rd b a n < 65536
        · rw [rb3 hp (by omega) c3]
          intro h2
          simp only [List.length_cons, List.length_nil] at h2
          simp only [List.getD_eq_getElem?_getD, List.getElem?_cons_zero, Option.getD_some]
          rw [pb_nat (by omega)]; unfold firstN; rw [if_neg (by omega), if_neg (by omega), if_pos (by omega)]; omega
        · rw [rb4 hp (by omega)]
          intro h2
          simp only [List.length_cons, List.length_nil] at h2
          simp only [List.getD_eq_getElem?_getD, List.getElem?_cons_zero, Option.getD_some]
          rw [pb_nat (by omega)]; unfold firstN; rw [if_neg (by omega), if_neg (by omega), if_neg (by omega), if_pos (by omega)]; omega
theorem pReadAt_ok {b : List UInt8} {a n : Nat} (hn : 1 ≤ n ∧ n ≤ 4) (h : okAt b a n = true) : pReadAt b a = (rd b a n, n) := by
  have key : ∀ m, 1 ≤ m → okAt b a m = true → m = n := fun m h1 h2 => (okAt_first h1 h2).symm.trans (okAt_first hn.1 h)
  unfold pReadAt
  have hne : ∀ m, 1 ≤ m → m ≠ n → ¬ okAt b a m = true := fun m h1 h2 h3 => h2 (key m h1 h3)
  obtain ⟨n1, n4⟩ := hn
  have : n = 1 ∨ n = 2 ∨ n = 3 ∨ n = 4 := by omega
  rcases this with rfl | rfl | rfl | rfl
  · rw [if_pos h]
  · rw [if_neg (hne 1 (by omega) (by omega)), if_pos h]
  · rw [if_neg (hne 1 (by omega) (by omega)), if_neg (hne 2 (by omega) (by omega)), if_pos h]
  · rw [if_neg (hne 1 (by omega) (by omega)), if_neg (hne 2 (by omega) (by omega)), if_neg (hne 3 (by omega) (by omega)), if_pos h]
theorem pReadAt_no {b : List UInt8} {a : Nat} (h : ∀ n, 1 ≤ n → n ≤ 4 → okAt b a n = false) : pReadAt b a = (0, 0) := by
  unfold pReadAt
  rw [if_neg (by simp [h]), if_neg (by simp [h]), if_neg (by simp [h]), if_neg (by simp [h])]
theorem pReadAt_first {b : List UInt8} {a n : Nat} (hf : firstN (by8 b a) = n) (h : n = 0 ∨ okAt b a n = false) : pReadAt b a = (0, 0) := by
  refine pReadAt_no fun m h1 h4 => ?_
  cases hm : okAt b a m
  · rfl
  · have := okAt_first h1 hm
    rw [hf] at this
    subst this
    rcases h with h | h
    · omega
    · rw [h] at hm; cases hm
theorem okAt_long {b : List UInt8} {a n : Nat} (h : ¬ a + n ≤ b.length) : okAt b a n = false := by simp [okAt]; omega
theorem okAt_1 {b : List UInt8} {a : Nat} (ha : a < b.length) (h : by8 b a < 128) : okAt b a 1 = true := by
  have h0 := by8_b b a
  have e : rd b a 1 = by8 b a := by simp [rd, rdF, rdOff]
  unfold okAt
  rw [e, rb1 (by simp [pRuneOk]; omega) h]
  refine decide_eq_true ⟨by omega, ?_⟩
  rw [List.take_succ_eq_append_getElem ha, List.drop_append_of_le_length (by simp; omega), List.drop_eq_nil_of_le (by simp; omega)]
  have : pb (by8 b a) = b[a] := UInt8.toNat_inj.1 (by have := pb_nat (x := by8 b a) (by omega); simp only [by8, List.getD_eq_getElem?_getD, List.getElem?_eq_getElem ha, Option.getD_some] at this ⊢; omega)
  rw [this]; rfl
theorem pRead_le (b : List UInt8) (i : Int) : (pRead b i).2 ≤ 4 ∧ ((pRead b i).2 ≠ 0 → 0 ≤ i ∧ i + (pRead b i).2 ≤ b.length) := by
  unfold pRead
  split
  · rename_i h
    unfold pReadAt
    split
    · rename_i h1; have := (okAt_len h1).1; simp only; omega
    · split
      · rename_i h1; have := (okAt_len h1).1; simp only; omega
      · split
        · rename_i h1; have := (okAt_len h1).1; simp only; omega
        · split
          · rename_i h1; have := (okAt_len h1).1; simp only; omega
          · simp
  · simp
end Go.Proofs.Ytedbiminpokbgaa
