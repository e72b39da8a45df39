/- What an argument that can be read looks like in memory. No condition. -/
import Derived.Test.YtggaghghclomkaaGreatMake
import Derived.ProofKit
import Derived.OpenShut
import Derived.ShutString
import Derived.Deep.Slices
import Derived.Deep.Fields
import Derived.ChangeSame
namespace Go.Proofs.YtggaghghclomkaaGreat
open Go.RowKit Go.ChangeShapes Go.WideShapes Go.Deep
section
variable {H : Type} {enc : TypeId × Value → H} {P : Program} {w : World} {base : Nat} {spare : Nat → Bool} {held : Bool} {t e : TypeId} {fuel : Nat} {v : Value} {x : DataW H × List MemPlace}
theorem arg_bytes (ht : P.underlying t = some (.slice e)) (he : P.underlying e = some (.int .u8)) (hc : P.cellsOf e = 1) (h : DataW.trod enc P w base spare held fuel t [v] = some x) :
    ∃ A c s, v = .slice A s.length c ∧ s.length ≤ c ∧ c ≤ 9223372036854775807 ∧ Rd w 0 w.heap.size 1 A s.length (u8s s) := by
  rcases open_ints ht he hc h with ⟨hcs, _⟩ | ⟨ad, len, cap, zs, hcs, _, hl, hm, hz, _, hcell, hwf⟩
  · simp at hcs
    exact ⟨none, 0, [], by simpa using hcs, Nat.le_refl _, by omega, by simp [u8s], Nat.le_refl _, fun h => by simp at h⟩
  · simp at hcs
    have hzl : len ≤ zs.length := by rw [hz]; split <;> omega
    have hlen : ((zs.take len).map fun z => UInt8.ofNat z.toNat).length = len := by simp; omega
    refine ⟨some ad, cap, (zs.take len).map fun z => UInt8.ofNat z.toNat, by rw [hlen]; exact hcs, by rw [hlen]; exact hl, by simpa [maxLen] using hm, by simp, Nat.le_refl _, fun hn => ?_⟩
    rw [hlen] at hn
    have h0 := hcell 0 (by omega)
    refine ⟨ad, rfl, Nat.zero_le _, by have := block_lt_of_cell h0; rwa [block_of_add] at this, fun j u hu => ?_⟩
    have hj : j < len := by
      have := (List.getElem?_eq_some_iff.1 hu).1
      rw [u8s_length, hlen] at this; exact this
    have hjz : j < zs.length := by omega
    rw [hcell j hjz, ← hu]
    have hb := bounds_u8 (hwf zs[j] (List.getElem_mem hjz))
    simp [u8s, List.getElem?_take, hj, List.getElem?_eq_getElem hjz, List.getD_eq_getElem?_getD]
    omega
theorem i64s_one (l : List Int) : ∀ u ∈ l.map I, u.oneCell' = true := by
  intro u hu
  simp only [List.mem_map] at hu
  obtain ⟨b, _, rfl⟩ := hu
  rfl
theorem arg_ints (ht : P.underlying t = some (.slice e)) (he : P.underlying e = some (.int .i64)) (hc : P.cellsOf e = 1) (h : DataW.trod enc P w base spare held fuel t [v] = some x) :
    ∃ (A : Option Addr) (c : Nat) (s : List Int), v = .slice A s.length c ∧ s.length ≤ c ∧ c ≤ 9223372036854775807 ∧ Rd w 0 w.heap.size 1 A s.length (s.map I) ∧ ∀ z ∈ s, -9223372036854775808 ≤ z ∧ z ≤ 9223372036854775807 := by
  rcases open_ints ht he hc h with ⟨hcs, _⟩ | ⟨ad, len, cap, zs, hcs, _, hl, hm, hz, _, hcell, hwf⟩
  · simp at hcs
    exact ⟨none, 0, [], by simpa using hcs, Nat.le_refl _, by omega, ⟨by simp, Nat.le_refl _, fun h => by simp at h⟩, by simp⟩
  · simp at hcs
    have hzl : len ≤ zs.length := by rw [hz]; split <;> omega
    have hlen : (zs.take len).length = len := by simp; omega
    refine ⟨some ad, cap, zs.take len, by rw [hlen]; exact hcs, by rw [hlen]; exact hl, by simpa [maxLen] using hm, ⟨by simp, Nat.le_refl _, fun hn => ?_⟩, fun z hz => bounds_i64 (hwf z (List.mem_of_mem_take hz))⟩
    rw [hlen] at hn
    have h0 := hcell 0 (by omega)
    refine ⟨ad, rfl, Nat.zero_le _, by have := block_lt_of_cell h0; rwa [block_of_add] at this, fun j u hu => ?_⟩
    have hj : j < len := by
      have := (List.getElem?_eq_some_iff.1 hu).1
      rw [List.length_map, hlen] at this; exact this
    have hjz : j < zs.length := by omega
    rw [hcell j hjz, ← hu]
    simp [List.getElem?_take, hj, List.getElem?_eq_getElem hjz, List.getD_eq_getElem?_getD]
theorem S_of (s : ByteArray) : ∃ l : List UInt8, Value.string s = S l ∧ l.length = s.size := ⟨s.data.toList, by cases s; rfl, rfl⟩

theorem cell_int {cs : List Value} (ht : P.underlying t = some (.int .i64)) (h : DataW.trod enc P w base spare held fuel t cs = some x) : ∃ a, cs = [I a] ∧ -9223372036854775808 ≤ a ∧ a ≤ 9223372036854775807 := by
  obtain ⟨n, h1, _, h2⟩ := DataW.trod_int ht h
  exact ⟨n, h1, bounds_i64 h2⟩
theorem cell_str {cs : List Value} (ht : P.underlying t = some .string) (h : DataW.trod enc P w base spare held fuel t cs = some x) : ∃ s, cs = [S s] ∧ s.length ≤ 9223372036854775807 := by
  obtain ⟨b, h1, _, h2⟩ := DataW.trod_string ht h
  obtain ⟨s, h3, h4⟩ := S_of b
  exact ⟨s, by rw [h1, h3], by rw [h4]; simpa [maxLen] using h2⟩
theorem fld {cs : List Value} {fs : Array Field} {j off k : Nat} {f : Field} (he : P.underlying e = some (.struct fs)) (h : DataW.trod enc P w base spare held fuel e cs = some x) (hf : fs[j]? = some f) (ho : f.offset = off) (hk : P.cellsOf f.type = k) :
    ∃ y n', DataW.trod enc P w base spare held n' f.type ((cs.drop off).take k) = some y := by
  obtain ⟨xs, n, _, _, _, hlen, hg⟩ := DataW.trod_struct he h
  have hj : j < xs.length := by have := (Array.getElem?_eq_some_iff.1 hf).1; omega
  have := hg j f hf
  rw [ho, hk, List.getElem?_eq_getElem hj] at this
  exact ⟨_, _, this⟩
theorem fld_len {cs : List Value} {fs : Array Field} (he : P.underlying e = some (.struct fs)) (h : DataW.trod enc P w base spare held fuel e cs = some x) : cs.length = P.cellsOf e := by
  obtain ⟨xs, n, _, _, h1, _⟩ := DataW.trod_struct he h
  exact h1
def entC (e : Int × List UInt8) : List Value := [I e.1, S e.2]
theorem cell_entry {cs : List Value} {f0 f1 : Field} (he : P.underlying e = some (.struct #[f0, f1])) (hc : P.cellsOf e = 2) (h0 : f0.offset = 0) (h1 : f1.offset = 1) (t0 : P.underlying f0.type = some (.int .i64)) (t1 : P.underlying f1.type = some .string) (c0 : P.cellsOf f0.type = 1) (c1 : P.cellsOf f1.type = 1)
    (h : DataW.trod enc P w base spare held fuel e cs = some x) : ∃ d : Int × List UInt8, cs = entC d ∧ (-9223372036854775808 ≤ d.1 ∧ d.1 ≤ 9223372036854775807) ∧ d.2.length ≤ 9223372036854775807 := by
  have hl := (fld_len he h).trans hc
  obtain ⟨y0, n0, g0⟩ := fld (j := 0) he h rfl h0 c0
  obtain ⟨y1, n1, g1⟩ := fld (j := 1) he h rfl h1 c1
  obtain ⟨a, e0, ba⟩ := cell_int t0 g0
  obtain ⟨s, e1, bs⟩ := cell_str t1 g1
  match cs, hl with
  | [u0, u1], _ =>
    simp at e0 e1
    exact ⟨(a, s), by rw [e0, e1]; rfl, ba, bs⟩
end
end Go.Proofs.YtggaghghclomkaaGreat
