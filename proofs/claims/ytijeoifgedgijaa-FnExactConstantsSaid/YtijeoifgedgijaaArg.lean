/- What an argument that can be read looks like in memory. No condition. -/
import Derived.Test.YtijeoifgedgijaaMake
import Derived.ProofKit
import Derived.OpenShut
import Derived.ShutString
import Derived.Deep.Slices
import Derived.Deep.Fields
import Derived.ChangeSame
namespace Go.Proofs.Ytijeoifgedgijaa
open Go.RowKit Go.ChangeShapes Go.WideShapes Go.Deep
section
variable {H : Type} {enc : TypeId × Value → H} {P : Program} {w : World} {base : Nat} {spare : Nat → Bool} {held : Bool} {t e : TypeId} {fuel : Nat} {v : Value} {x : DataW H × List MemPlace}
theorem arg_bytes (ht : P.underlying t = some (.slice e)) (he : P.underlying e = some (.int .u8)) (hc : P.cellsOf e = 1) (h : DataW.trod enc P w base spare held fuel t [v] = some x) :
    ∃ A c s, v = .slice A s.length c ∧ s.length ≤ c ∧ c ≤ 9223372036854775807 ∧ Rd w 0 w.heap.size 1 A s.length (u8s s) := by
  rcases open_ints ht he hc h with ⟨hcs, _⟩ | ⟨ad, len, cap, zs, hcs, _, hl, hm, hz, _, hcell, hwf⟩
  · simp at hcs
    exact ⟨none, 0, [], by simpa using hcs, Nat.le_refl _, by omega, by simp [u8s], Nat.le_refl _, fun h => by simp at h⟩
  · simp at hcs
    have hzl : len ≤ zs.length := by rw [hz]; split <;> omega
    have hlen : ((zs.take len).map fun z => UInt8.ofNat z.toNat).length = len := by simp; omega
    refine ⟨some ad, cap, (zs.take len).map fun z => UInt8.ofNat z.toNat, by rw [hlen]; exact hcs, by rw [hlen]; exact hl, by simpa [maxLen] using hm, by simp, Nat.le_refl _, fun hn => ?_⟩
    rw [hlen] at hn
    have h0 := hcell 0 (by omega)
    refine ⟨ad, rfl, Nat.zero_le _, by have := block_lt_of_cell h0; rwa [block_of_add] at this, fun j u hu => ?_⟩
    have hj : j < len := by
      have := (List.getElem?_eq_some_iff.1 hu).1
      rw [u8s_length, hlen] at this; exact this
    have hjz : j < zs.length := by omega
    rw [hcell j hjz, ← hu]
    have hb := bounds_u8 (hwf zs[j] (List.getElem_mem hjz))
    simp [u8s, List.getElem?_take, hj, List.getElem?_eq_getElem hjz, List.getD_eq_getElem?_getD]
    omega
theorem i64s_one (l : List Int) : ∀ u ∈ l.map I, u.oneCell' = true := by
  intro u hu
  simp only [List.mem_map] at hu
  obtain ⟨b, _, rfl⟩ := hu
  rfl
theorem arg_ints (ht : P.underlying t = some (.slice e)) (he : P.underlying e = some (.int .i64)) (hc : P.cellsOf e = 1) (h : DataW.trod enc P w base spare held fuel t [v] = some x) :
    ∃ (A : Option Addr) (c : Nat) (s : List Int), v = .slice A s.length c ∧ s.length ≤ c ∧ c ≤ 9223372036854775807 ∧ Rd w 0 w.heap.size 1 A s.length (s.map I) ∧ ∀ z ∈ s, -9223372036854775808 ≤ z ∧ z ≤ 9223372036854775807 := by
  rcases open_ints ht he hc h with ⟨hcs, _⟩ | ⟨ad, len, cap, zs, hcs, _, hl, hm, hz, _, hcell, hwf⟩
  · simp at hcs
    exact ⟨none, 0, [], by simpa using hcs, Nat.le_refl _, by omega, ⟨by simp, Nat.le_refl _, fun h => by simp at h⟩, by simp⟩
  · simp at hcs
    have hzl : len ≤ zs.length := by rw [hz]; split <;> omega
    have hlen : (zs.take len).length = len := by simp; omega
    refine ⟨some ad, cap, zs.take len, by rw [hlen]; exact hcs, by rw [hlen]; exact hl, by simpa [maxLen] using hm, ⟨by simp, Nat.le_refl _, fun hn => ?_⟩, fun z hz => bounds_i64 (hwf z (List.mem_of_mem_take hz))⟩
    rw [hlen] at hn
    have h0 := hcell 0 (by omega)
    refine ⟨ad, rfl, Nat.zero_le _, by have := block_lt_of_cell h0; rwa [block_of_add] at this, fun j u hu => ?_⟩
    have hj : j < len := by
      have := (List.getElem?_eq_some_iff.1 hu).1
      rw [List.length_map, hlen] at this; exact this
    have hjz : j < zs.length := by omega
    rw [hcell j hjz, ← hu]
    simp [List.getElem?_take, hj, List.getElem?_eq_getElem hjz, List.getD_eq_getElem?_getD]
theorem S_of (s : ByteArray) : ∃ l : List UInt8, Value.string s = S l ∧ l.length = s.size := ⟨s.data.toList, by cases s; rfl, rfl⟩
end
end Go.Proofs.Ytijeoifgedgijaa
