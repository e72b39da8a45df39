/- What was written is read again: the plain law. No condition. -/
import Derived.Test.YtohbamaomaadiaaDoorNumL
import Derived.Test.YtohbamaomaadiaaDoorNumDL
namespace Go.Proofs.YtohbamaomaadiaaDoor

theorem hexOf_cons (x : UInt8) (r : List UInt8) : hexOf (x :: r) = hexc (x.toNat / 16) :: hexc (x.toNat % 16) :: hexOf r := by simp [hexOf]
theorem hexOf_at : ∀ (b : List UInt8) (j : Nat), j < b.length → (hexOf b).getD (2 * j) 0 = hexc ((b.getD j 0).toNat / 16) ∧ (hexOf b).getD (2 * j + 1) 0 = hexc ((b.getD j 0).toNat % 16)
  | [], j, h => by simp at h
  | x :: r, 0, _ => by rw [hexOf_cons]; simp
  | x :: r, j + 1, h => by
    have ih := hexOf_at r j (by simpa using h)
    rw [hexOf_cons, show 2 * (j + 1) = (2 * j + 1) + 1 by omega]
    simp only [List.getD_cons_succ]
    exact ih
theorem hexd_hexOf (b : List UInt8) (j : Nat) (h : j < (hexOf b).length) : hexd ((hexOf b).getD j 0) < 16 := by
  rw [hexOf_length] at h
  have h2 := hexOf_at b (j / 2) (by omega)
  have hx := (b.getD (j / 2) 0).toNat_lt
  rcases Nat.mod_two_eq_zero_or_one j with e | e
  · rw [show j = 2 * (j / 2) by omega, h2.1, hexd_hexc (by omega)]; omega
  · rw [show j = 2 * (j / 2) + 1 by omega, h2.2, hexd_hexc (by omega)]; omega
theorem pairs_hexOf (b : List UInt8) : pairs (hexOf b) b.length = b := by
  apply List.ext_getElem
  · simp
  · intro j h1 h2
    have h3 := hexOf_at b j h2
    have hx := (b.getD j 0).toNat_lt
    simp only [pairs, List.getElem_map, List.getElem_range]
    rw [h3.1, h3.2, hexd_hexc (by omega), hexd_hexc (by omega), show 16 * ((b.getD j 0).toNat / 16) + (b.getD j 0).toNat % 16 = (b.getD j 0).toNat by omega, UInt8.ofNat_toNat]
    simp [List.getD_eq_getElem?_getD, List.getElem?_eq_getElem h2]
theorem unhex_hex (b : List UInt8) (h : b.length ≤ 65536) : pUnhex (hexOf b) = (b, true) := by
  unfold pUnhex
  have hl := hexOf_length b
  rw [if_pos ⟨by omega, by omega, hexd_hexOf b⟩, hl, show 2 * b.length / 2 = b.length by omega, pairs_hexOf]
theorem put_crc (b : List UInt8) (h : b.length ≤ 40) : pPut b (crc b) 4 = (b ++ putR (crc b) 4, true) := by
  have := crc_lt b
  unfold pPut
  have h4 : (256 : Int) ^ (4 : Int).toNat = 4294967296 := by decide
  rw [if_pos ⟨by omega, by omega, by omega, by rw [h4]; omega, by omega⟩]
  rfl
theorem get_crc (b : List UInt8) : pGet (b ++ putR (crc b) 4) b.length 4 = ((crc b : Int), true) := by
  have := crc_lt b
  have h4 : (256 : Int) ^ 4 = 4294967296 := by decide
  have hl : (b ++ putR (crc b) 4).length = b.length + 4 := by simp
  unfold pGet
  rw [if_pos ⟨by omega, by omega, by omega, by rw [hl]; omega⟩]
  show (getF _ b.length 4, true) = _
  have : getF (b ++ putR (crc b) 4) b.length 4 = (crc b : Int) := by
    rw [getF_val _ _ _ (by rw [hl]; omega), show (b ++ putR (crc b) 4).drop b.length = putR (crc b) 4 by simp, List.take_of_length_le (by simp)]
    exact val_putR 4 (by omega) (by rw [h4]; omega)
  rw [this]
theorem text_num (b : List UInt8) : pText (numT (crc b)) = ((crc b : Int), true) := by
  have := crc_lt b
  refine (pText_num ?_ rfl).1
  rw [numT_in (by omega)]
  exact decDigits_ne _
end Go.Proofs.YtohbamaomaadiaaDoor
