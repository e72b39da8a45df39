/- The steps between two contents: what the law asks of them. No condition. -/
import Derived.Test.YtedbiminpokbgaaTearK
namespace Go.Proofs.Ytedbiminpokbgaa
open Go.RowKit

theorem tearSteps_nn (s t : List UInt8) : 0 ≤ tearSteps s t ∧ tearSteps s t ≤ s.length + t.length := by have := share_le s t; unfold tearSteps; omega
theorem tearK_in {s t : List UInt8} {k : Int} (h0 : 0 ≤ k) (h1 : k ≤ tearSteps s t) : tearK s t k = k.toNat := by unfold tearK; congr 1; omega
theorem tear_zero (s t : List UInt8) : tear s t 0 = s := by
  have := tearSteps_nn s t
  unfold tear
  rw [tearK_in (by omega) (by omega), if_pos (by simp)]
  simp
theorem tear_all (s t : List UInt8) : tear s t (tearSteps s t) = t := by
  have h := tearSteps_nn s t
  have hs := share_le s t
  have ht := share_take s t
  unfold tear
  rw [tearK_in h.1 (Int.le_refl _)]
  by_cases hc : (tearSteps s t).toNat ≤ s.length - share s t
  · rw [if_pos hc]
    unfold tearSteps at hc ⊢
    rw [show s.length - ((s.length : Int) + t.length - 2 * (share s t : Int)).toNat = share s t by omega, ht, List.take_of_length_le (by omega)]
  · rw [if_neg hc]
    unfold tearSteps at hc ⊢
    rw [List.take_of_length_le (by omega)]
theorem share_self : ∀ s : List UInt8, share s s = s.length
  | [] => rfl
  | a :: x => by simp [share, share_self x]
theorem tear_self (s : List UInt8) (k : Int) : tear s s k = s := by
  have h : tearK s s k = 0 := by unfold tearK tearSteps; rw [share_self]; omega
  unfold tear
  rw [h, if_pos (by omega)]
  simp
theorem tear_step (s t : List UInt8) (i : Nat) (h : (i : Int) < tearSteps s t) :
    ((tear s t i).length = (tear s t ((i : Int) + 1)).length + 1 ∧ (tear s t i).take (tear s t ((i : Int) + 1)).length = tear s t ((i : Int) + 1)) ∨
    ((tear s t ((i : Int) + 1)).length = (tear s t i).length + 1 ∧ (tear s t ((i : Int) + 1)).take (tear s t i).length = tear s t i) := by
  have hs := share_le s t
  have ht := share_take s t
  have h2 : (i : Int) + 1 ≤ s.length + t.length - 2 * (share s t : Int) := by unfold tearSteps at h; omega
  have k0 : tearK s t i = i := by rw [tearK_in (by omega) (by omega)]; omega
  have k1 : tearK s t ((i : Int) + 1) = i + 1 := by rw [tearK_in (by omega) (by omega)]; omega
  unfold tear
  rw [k0, k1]
  by_cases h1 : i + 1 ≤ s.length - share s t
  · left
    rw [if_pos h1, if_pos (by omega)]
    refine ⟨by simp only [List.length_take]; omega, ?_⟩
    rw [List.take_take, List.length_take]
    congr 1; omega
  · right
    rw [if_neg h1]
    by_cases h3 : i ≤ s.length - share s t
    · rw [if_pos h3, show s.length - i = share s t by omega, ht]
      refine ⟨by simp only [List.length_take]; omega, ?_⟩
      rw [List.take_take, List.length_take]
      congr 1; omega
    · rw [if_neg h3]
      refine ⟨by simp only [List.length_take]; omega, ?_⟩
      rw [List.take_take, List.length_take]
      congr 1; omega
theorem RB.to {w : World} {lo hi c : Nat} {A : Option Addr} {s : List UInt8} {k : Int} (h : Rd w lo hi 1 A s.length (u8s s)) (hk : 0 ≤ k ∧ k ≤ s.length) (hc : s.length ≤ c) : RB w lo hi (.slice (cutA A c 0 1) k.toNat c) (s.take k.toNat) := by
  have hl : (s.take k.toNat).length = k.toNat := by rw [List.length_take]; omega
  exact ⟨_, _, by rw [hl], by rw [hl]; omega, by rw [hl]; exact h.to8 hk hc⟩
theorem RB.from {w : World} {lo hi c : Nat} {A : Option Addr} {s : List UInt8} {k : Int} (h : Rd w lo hi 1 A s.length (u8s s)) (hk : 0 ≤ k ∧ k ≤ s.length) (hc : s.length ≤ c) : RB w lo hi (.slice (cutA A c k.toNat 1) (s.length - k.toNat) (c - k.toNat)) (s.drop k.toNat) := by
  have hl : (s.drop k.toNat).length = s.length - k.toNat := by rw [List.length_drop]
  exact ⟨_, _, by rw [hl], by rw [hl]; omega, by rw [hl]; exact h.from8 hk hc⟩
end Go.Proofs.Ytedbiminpokbgaa
