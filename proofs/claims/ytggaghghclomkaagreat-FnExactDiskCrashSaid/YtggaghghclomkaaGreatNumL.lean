/- Numbers in bytes, checksums, digits: the plain law. No condition. -/
import Derived.Test.YtggaghghclomkaaGreatKind
namespace Go.Proofs.YtggaghghclomkaaGreat
open Go.RowKit

theorem bit_xor64 (a b : Nat) (ha : a < 9223372036854775808) (hb : b < 9223372036854775808) : bitv .xor .i64 (a : Int) (b : Int) = ((a ^^^ b : Nat) : Int) := by
  have h : a ^^^ b < 2 ^ 63 := Nat.xor_lt_two_pow (by omega) (by omega)
  have e : (BitVec.ofInt 64 (a : Int) ^^^ BitVec.ofInt 64 (b : Int)).toNat = a ^^^ b := by
    rw [BitVec.ofInt_natCast, BitVec.ofInt_natCast, BitVec.toNat_xor, BitVec.toNat_ofNat, BitVec.toNat_ofNat, Nat.mod_eq_of_lt (by omega), Nat.mod_eq_of_lt (by omega)]
  show IntKind.i64.wrap (((BitVec.ofInt 64 (a : Int) ^^^ BitVec.ofInt 64 (b : Int)).toNat : Nat) : Int) = _
  rw [e, IntWalk.i64_in _ (by omega)]
theorem bit_xor32 (a b : Nat) (ha : a < 4294967296) (hb : b < 4294967296) : bitv .xor .u32 (a : Int) (b : Int) = ((a ^^^ b : Nat) : Int) := by
  have h : a ^^^ b < 2 ^ 32 := Nat.xor_lt_two_pow (by omega) (by omega)
  have e : (BitVec.ofInt 32 (a : Int) ^^^ BitVec.ofInt 32 (b : Int)).toNat = a ^^^ b := by
    rw [BitVec.ofInt_natCast, BitVec.ofInt_natCast, BitVec.toNat_xor, BitVec.toNat_ofNat, BitVec.toNat_ofNat, Nat.mod_eq_of_lt (by omega), Nat.mod_eq_of_lt (by omega)]
  show IntKind.u32.wrap (((BitVec.ofInt 32 (a : Int) ^^^ BitVec.ofInt 32 (b : Int)).toNat : Nat) : Int) = _
  rw [e, IntKind.wrap_u32]; omega
theorem bit_and32 (a b : Nat) (ha : a < 4294967296) (hb : b < 4294967296) : bitv .and .u32 (a : Int) (b : Int) = ((a &&& b : Nat) : Int) := by
  have h : a &&& b < 2 ^ 32 := Nat.and_lt_two_pow _ (by omega)
  have e : (BitVec.ofInt 32 (a : Int) &&& BitVec.ofInt 32 (b : Int)).toNat = a &&& b := by
    rw [BitVec.ofInt_natCast, BitVec.ofInt_natCast, BitVec.toNat_and, BitVec.toNat_ofNat, BitVec.toNat_ofNat, Nat.mod_eq_of_lt (by omega), Nat.mod_eq_of_lt (by omega)]
  show IntKind.u32.wrap (((BitVec.ofInt 32 (a : Int) &&& BitVec.ofInt 32 (b : Int)).toNat : Nat) : Int) = _
  rw [e, IntKind.wrap_u32]; omega
theorem bit_and8 (a b : Nat) (ha : a < 256) (hb : b < 256) : bitv .and .u8 (a : Int) (b : Int) = ((a &&& b : Nat) : Int) := by
  have h : a &&& b < 2 ^ 8 := Nat.and_lt_two_pow _ (by omega)
  have e : (BitVec.ofInt 8 (a : Int) &&& BitVec.ofInt 8 (b : Int)).toNat = a &&& b := by
    rw [BitVec.ofInt_natCast, BitVec.ofInt_natCast, BitVec.toNat_and, BitVec.toNat_ofNat, BitVec.toNat_ofNat, Nat.mod_eq_of_lt (by omega), Nat.mod_eq_of_lt (by omega)]
  show IntKind.u8.wrap (((BitVec.ofInt 8 (a : Int) &&& BitVec.ofInt 8 (b : Int)).toNat : Nat) : Int) = _
  rw [e, IntKind.wrap_u8]; omega
theorem bit_and64 (a b : Nat) (ha : a < 9223372036854775808) (hb : b < 9223372036854775808) : bitv .and .i64 (a : Int) (b : Int) = ((a &&& b : Nat) : Int) := by
  have h : a &&& b < 2 ^ 63 := Nat.and_lt_two_pow _ (by omega)
  have e : (BitVec.ofInt 64 (a : Int) &&& BitVec.ofInt 64 (b : Int)).toNat = a &&& b := by
    rw [BitVec.ofInt_natCast, BitVec.ofInt_natCast, BitVec.toNat_and, BitVec.toNat_ofNat, BitVec.toNat_ofNat, Nat.mod_eq_of_lt (by omega), Nat.mod_eq_of_lt (by omega)]
  show IntKind.i64.wrap (((BitVec.ofInt 64 (a : Int) &&& BitVec.ofInt 64 (b : Int)).toNat : Nat) : Int) = _
  rw [e, IntWalk.i64_in _ (by omega)]
theorem and_one32 (a : Nat) (ha : a < 4294967296) : bitv .and .u32 (a : Int) 1 = ((a % 2 : Nat) : Int) := by
  have := bit_and32 a 1 ha (by omega)
  rw [Nat.and_one_is_mod] at this
  exact this
theorem and_15 (a : Nat) (ha : a < 256) : bitv .and .u8 (a : Int) 15 = ((a % 16 : Nat) : Int) := by
  have := bit_and8 a 15 ha (by omega)
  rw [show 15 = 2 ^ 4 - 1 from rfl, Nat.and_two_pow_sub_one_eq_mod] at this
  exact this

/-! numbers in bytes -/
theorem pow4 : ∀ k : Nat, k ≤ 4 → 0 < (256 : Int) ^ k ∧ (256 : Int) ^ k ≤ 4294967296
  | 0, _ => ⟨by decide, by decide⟩
  | 1, _ => ⟨by decide, by decide⟩
  | 2, _ => ⟨by decide, by decide⟩
  | 3, _ => ⟨by decide, by decide⟩
  | 4, _ => ⟨by decide, by decide⟩
  | k + 5, h => by omega
def putR (n : Int) : Nat → List UInt8
  | 0 => []
  | k + 1 => pb (n / 256 ^ k) :: putR n k
@[simp] theorem putR_length (n : Int) : ∀ k, (putR n k).length = k
  | 0 => rfl
  | k + 1 => by simp [putR, putR_length n k]
def pPut (b : List UInt8) (n size : Int) : List UInt8 × Bool :=
  if 1 ≤ size ∧ size ≤ 4 ∧ 0 ≤ n ∧ n < 256 ^ size.toNat ∧ (b.length : Int) + size ≤ 65536 then (b ++ putR n size.toNat, true) else ([], false)
theorem pPut_len (b : List UInt8) (n size : Int) : (pPut b n size).1.length ≤ 65536 := by
  unfold pPut
  split
  · rename_i h; simp only [List.length_append, putR_length]; omega
  · simp
def getF (b : List UInt8) (a : Nat) : Nat → Int
  | 0 => 0
  | k + 1 => getF b a k * 256 + ((b.getD (a + k) 0).toNat : Int)
theorem getF_nn (b : List UInt8) (a : Nat) : ∀ k, 0 ≤ getF b a k
  | 0 => by simp [getF]
  | k + 1 => by have := getF_nn b a k; simp only [getF]; omega
theorem getF_lt (b : List UInt8) (a : Nat) : ∀ k, getF b a k < 256 ^ k
  | 0 => by simp [getF]
  | k + 1 => by
    have := getF_lt b a k
    have h := (b.getD (a + k) 0).toNat_lt
    simp only [getF, Int.pow_succ]
    omega
theorem getF_le (b : List UInt8) (a k : Nat) (hk : k ≤ 4) : getF b a k < 4294967296 := by
  have h := getF_lt b a k
  have := (pow4 k hk).2
  omega
theorem putR_back (n : Int) : ∀ k, putR n (k + 1) = putR (n / 256) k ++ [pb n]
  | 0 => by simp [putR]
  | k + 1 => by
    have h : n / 256 / 256 ^ k = n / 256 ^ (k + 1) := by rw [Int.pow_succ, Int.mul_comm, ← Int.ediv_ediv_of_nonneg (by omega)]
    rw [putR, putR_back n k, putR, h]; rfl
/-- Bytes as a number. -/
def val (s : List UInt8) : Int := s.foldl (fun n x => n * 256 + (x.toNat : Int)) 0
theorem val_snoc (s : List UInt8) (x : UInt8) : val (s ++ [x]) = val s * 256 + x.toNat := by simp [val, List.foldl_append]
theorem pb_toNat (x : Int) : ((pb x).toNat : Int) = x % 256 := by
  unfold pb
  rw [UInt8.toNat_ofNat']
  omega
theorem pb_of {x : Int} {c : UInt8} (h : x % 256 = c.toNat) : pb x = c := by
  apply UInt8.toNat_inj.1
  have := pb_toNat x
  omega
theorem val_putR : ∀ (k : Nat) {n : Int}, 0 ≤ n → n < 256 ^ k → val (putR n k) = n
  | 0, n, h0, h1 => by simp at h1; simp [putR, val]; omega
  | k + 1, n, h0, h1 => by
    rw [putR_back, val_snoc, val_putR k (by omega) (by rw [Int.pow_succ] at h1; omega), pb_toNat]
    omega
theorem val_nn (s : List UInt8) : 0 ≤ val s := by
  have : ∀ (s : List UInt8) (n : Int), 0 ≤ n → 0 ≤ s.foldl (fun n x => n * 256 + (x.toNat : Int)) n := by
    intro s
    induction s with
    | nil => intro n h; exact h
    | cons x s ih => intro n h; exact ih _ (by show 0 ≤ n * 256 + (x.toNat : Int); omega)
  exact this s 0 (by omega)
theorem putR_val : ∀ s : List UInt8, putR (val s) s.length = s := by
  have : ∀ (n : Nat) (s : List UInt8), s.length = n → putR (val s) n = s := by
    intro n
    induction n with
    | zero => intro s h; rw [List.eq_nil_of_length_eq_zero h]; rfl
    | succ n ih =>
      intro s h
      have hne : s ≠ [] := by intro e; subst e; simp at h
      obtain ⟨s', x, rfl⟩ : ∃ s' x, s = s' ++ [x] := ⟨_, _, (List.dropLast_concat_getLast hne).symm⟩
      have hl : s'.length = n := by simpa using h
      have hx := x.toNat_lt
      rw [val_snoc, putR_back, show (val s' * 256 + (x.toNat : Int)) / 256 = val s' by omega, ih s' hl]
      rw [pb_of (c := x) (by omega)]
  exact fun s => this _ s rfl
theorem getF_val (b : List UInt8) (a : Nat) : ∀ k, a + k ≤ b.length → getF b a k = val ((b.drop a).take k)
  | 0, _ => by simp [getF, val]
  | k + 1, h => by
    have hk : k < (b.drop a).length := by rw [List.length_drop]; omega
    rw [List.take_succ_eq_append_getElem hk, val_snoc, ← getF_val b a k (by omega), getF]
    congr 2
    rw [List.getElem_drop, List.getD_eq_getElem?_getD, List.getElem?_eq_getElem (by omega)]; rfl
theorem getF_putR {b : List UInt8} {a k : Nat} (h : a + k ≤ b.length) : putR (getF b a k) k = (b.drop a).take k := by
  have hl : ((b.drop a).take k).length = k := by rw [List.length_take, List.length_drop]; omega
  have := putR_val ((b.drop a).take k)
  rw [hl] at this
  rw [getF_val b a k h, this]
def pGet (b : List UInt8) (a size : Int) : Int × Bool :=
  if 1 ≤ size ∧ size ≤ 4 ∧ 0 ≤ a ∧ a ≤ b.length - size then (getF b a.toNat size.toNat, true) else (0, false)

/-! checksums -/
def crcBit (r : Nat) : Nat := if r % 2 = 1 then (r / 2) ^^^ 3988292384 else r / 2
theorem crcBit_lt {r : Nat} (h : r < 4294967296) : crcBit r < 4294967296 := by
  unfold crcBit
  split
  · exact Nat.xor_lt_two_pow (n := 32) (by omega) (by omega)
  · omega
def crcBits (r : Nat) : Nat → Nat
  | 0 => r
  | k + 1 => crcBit (crcBits r k)
theorem crcBits_lt {r : Nat} (h : r < 4294967296) : ∀ k, crcBits r k < 4294967296
  | 0 => h
  | k + 1 => crcBit_lt (crcBits_lt h k)
def crcStep (r : Nat) (x : UInt8) : Nat := crcBits (r ^^^ x.toNat) 8
theorem xor8_lt {r : Nat} (h : r < 4294967296) (x : UInt8) : r ^^^ x.toNat < 4294967296 := by
  have := x.toNat_lt
  exact Nat.xor_lt_two_pow (n := 32) (by omega) (by omega)
theorem crcStep_lt {r : Nat} (h : r < 4294967296) (x : UInt8) : crcStep r x < 4294967296 := crcBits_lt (xor8_lt h x) 8
def crcR (r : Nat) (s : List UInt8) : Nat := s.foldl crcStep r
theorem crcR_lt : ∀ (s : List UInt8) {r : Nat}, r < 4294967296 → crcR r s < 4294967296
  | [], _, h => h
  | x :: s, _, h => crcR_lt s (crcStep_lt h x)
theorem crcR_take {r : Nat} {s : List UInt8} {k : Nat} (h : k < s.length) : crcR r (s.take (k + 1)) = crcStep (crcR r (s.take k)) (s.getD k 0) := by
  unfold crcR
  rw [List.take_succ_eq_append_getElem h, List.foldl_append]
  simp [List.getD_eq_getElem?_getD, List.getElem?_eq_getElem h]
def crc (s : List UInt8) : Nat := crcR 4294967295 s ^^^ 4294967295
theorem crc_lt (s : List UInt8) : crc s < 4294967296 := Nat.xor_lt_two_pow (n := 32) (crcR_lt s (by omega)) (by omega)

/-! digits -/
def hexc (d : Nat) : UInt8 := if d < 10 then UInt8.ofNat (48 + d) else UInt8.ofNat (87 + d)
def hexOf (s : List UInt8) : List UInt8 := s.flatMap fun x => [hexc (x.toNat / 16), hexc (x.toNat % 16)]
theorem hexOf_length (s : List UInt8) : (hexOf s).length = 2 * s.length := by
  unfold hexOf
  induction s with
  | nil => rfl
  | cons a s ih => rw [List.flatMap_cons, List.length_append, ih]; simp; omega
theorem hexOf_take {s : List UInt8} {k : Nat} (h : k < s.length) : hexOf (s.take (k + 1)) = hexOf (s.take k) ++ [hexc ((s.getD k 0).toNat / 16), hexc ((s.getD k 0).toNat % 16)] := by
  unfold hexOf
  rw [List.take_succ_eq_append_getElem h, List.flatMap_append]
  congr 1
  simp [List.getD_eq_getElem?_getD, List.getElem?_eq_getElem h]
def hexd (c : UInt8) : Nat := if 48 ≤ c.toNat ∧ c.toNat ≤ 57 then c.toNat - 48 else if 97 ≤ c.toNat ∧ c.toNat ≤ 102 then c.toNat - 87 else 16
theorem hexd_le (c : UInt8) : hexd c ≤ 16 := by unfold hexd; split; omega; split <;> omega
theorem hexc_toNat {d : Nat} (h : d < 16) : (hexc d).toNat = if d < 10 then 48 + d else 87 + d := by
  unfold hexc
  split
  · rw [UInt8.toNat_ofNat', Nat.mod_eq_of_lt (by omega)]
  · rw [UInt8.toNat_ofNat', Nat.mod_eq_of_lt (by omega)]
theorem hexd_hexc {d : Nat} (h : d < 16) : hexd (hexc d) = d := by
  have e := hexc_toNat h
  unfold hexd
  by_cases hd : d < 10
  · rw [if_pos hd] at e; rw [if_pos (by omega)]; omega
  · rw [if_neg hd] at e; rw [if_neg (by omega), if_pos (by omega)]; omega
theorem hexc_hexd {c : UInt8} (h : hexd c < 16) : hexc (hexd c) = c := by
  have e := hexc_toNat h
  apply UInt8.toNat_inj.1
  rw [e]
  unfold hexd at h ⊢
  by_cases h1 : 48 ≤ c.toNat ∧ c.toNat ≤ 57
  · rw [if_pos h1]; rw [if_pos (by omega)]; omega
  · rw [if_neg h1] at h ⊢
    by_cases h2 : 97 ≤ c.toNat ∧ c.toNat ≤ 102
    · rw [if_pos h2]; rw [if_neg (by omega)]; omega
    · rw [if_neg h2] at h; omega
theorem hexc_ne {d : Nat} (c : UInt8) (hd : d < 16) (h : d ≠ hexd c) : hexc d ≠ c := fun e => h (by rw [← e, hexd_hexc hd])
def pairs (s : List UInt8) (m : Nat) : List UInt8 := (List.range m).map fun j => UInt8.ofNat (16 * hexd (s.getD (2 * j) 0) + hexd (s.getD (2 * j + 1) 0))
@[simp] theorem pairs_length (s : List UInt8) (m : Nat) : (pairs s m).length = m := by simp [pairs]
theorem pairs_succ (s : List UInt8) (m : Nat) : pairs s (m + 1) = pairs s m ++ [UInt8.ofNat (16 * hexd (s.getD (2 * m) 0) + hexd (s.getD (2 * m + 1) 0))] := by simp [pairs, List.range_succ]
def pUnhex (s : List UInt8) : List UInt8 × Bool :=
  if s.length % 2 = 0 ∧ s.length ≤ 131072 ∧ ∀ j, j < s.length → hexd (s.getD j 0) < 16 then (pairs s (s.length / 2), true) else ([], false)
theorem pUnhex_len (s : List UInt8) : (pUnhex s).1.length ≤ 65536 := by
  unfold pUnhex
  split
  · rename_i h; simp only [pairs_length]; omega
  · simp
theorem RB.to {w : World} {lo hi c : Nat} {A : Option Addr} {s : List UInt8} {k : Int} (h : Rd w lo hi 1 A s.length (u8s s)) (hk : 0 ≤ k ∧ k ≤ s.length) (hc : s.length ≤ c) : RB w lo hi (.slice (cutA A c 0 1) k.toNat c) (s.take k.toNat) := by
  have hl : (s.take k.toNat).length = k.toNat := by rw [List.length_take]; omega
  exact ⟨_, _, by rw [hl], by rw [hl]; omega, by rw [hl]; exact h.to8 hk hc⟩
theorem RB.from {w : World} {lo hi c : Nat} {A : Option Addr} {s : List UInt8} {k : Int} (h : Rd w lo hi 1 A s.length (u8s s)) (hk : 0 ≤ k ∧ k ≤ s.length) (hc : s.length ≤ c) : RB w lo hi (.slice (cutA A c k.toNat 1) (s.length - k.toNat) (c - k.toNat)) (s.drop k.toNat) := by
  have hl : (s.drop k.toNat).length = s.length - k.toNat := by rw [List.length_drop]
  exact ⟨_, _, by rw [hl], by rw [hl]; omega, by rw [hl]; exact h.from8 hk hc⟩
end Go.Proofs.YtggaghghclomkaaGreat
