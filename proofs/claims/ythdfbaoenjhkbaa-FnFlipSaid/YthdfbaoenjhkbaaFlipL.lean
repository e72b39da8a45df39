/- A byte that is turned is told by the checksum: the plain law. No condition. -/
import Derived.Test.YthdfbaoenjhkbaaLogLaw
namespace Go.Proofs.Ythdfbaoenjhkbaa
open Go.RowKit

theorem xor_back {a b c : Nat} (h : a ^^^ c = b ^^^ c) : a = b := by
  have h2 : (a ^^^ c) ^^^ c = (b ^^^ c) ^^^ c := by rw [h]
  rwa [Nat.xor_assoc, Nat.xor_self, Nat.xor_zero, Nat.xor_assoc, Nat.xor_self, Nat.xor_zero] at h2
theorem crcBit_inj {r r' : Nat} (h : r < 4294967296) (h' : r' < 4294967296) (e : crcBit r = crcBit r') : r = r' := by
  have t1 : (r / 2).testBit 31 = false := Nat.testBit_lt_two_pow (by omega)
  have t2 : (r' / 2).testBit 31 = false := Nat.testBit_lt_two_pow (by omega)
  have t3 : Nat.testBit 3988292384 31 = true := by decide
  by_cases h1 : r % 2 = 1
  · by_cases h2 : r' % 2 = 1
    · rw [crcBit_odd h1, crcBit_odd h2] at e
      have := xor_back e
      omega
    · rw [crcBit_odd h1, crcBit_even h2] at e
      have := congrArg (fun x => Nat.testBit x 31) e
      simp only [Nat.testBit_xor, t1, t2, t3] at this
      cases this
  · by_cases h2 : r' % 2 = 1
    · rw [crcBit_even h1, crcBit_odd h2] at e
      have := congrArg (fun x => Nat.testBit x 31) e
      simp only [Nat.testBit_xor, t1, t2, t3] at this
      cases this
    · rw [crcBit_even h1, crcBit_even h2] at e
      omega
theorem crcBits_inj {r r' : Nat} (h : r < 4294967296) (h' : r' < 4294967296) : ∀ k, crcBits r k = crcBits r' k → r = r'
  | 0, e => e
  | k + 1, e => crcBits_inj h h' k (crcBit_inj (crcBits_lt h k) (crcBits_lt h' k) e)
theorem crcStep_inj {r r' : Nat} (h : r < 4294967296) (h' : r' < 4294967296) {x : UInt8} (e : crcStep r x = crcStep r' x) : r = r' :=
  xor_back (crcBits_inj (xor8_lt h x) (xor8_lt h' x) 8 e)
theorem crcStep_byte {r : Nat} (h : r < 4294967296) {x x' : UInt8} (e : crcStep r x = crcStep r x') : x = x' := by
  have := crcBits_inj (xor8_lt h x) (xor8_lt h x') 8 e
  rw [Nat.xor_comm r, Nat.xor_comm r] at this
  exact UInt8.toNat_inj.1 (xor_back this)
theorem crcR_inj : ∀ (s : List UInt8) {r r' : Nat}, r < 4294967296 → r' < 4294967296 → crcR r s = crcR r' s → r = r'
  | [], _, _, _, _, e => e
  | x :: s, _, _, h, h', e => crcStep_inj h h' (crcR_inj s (crcStep_lt h x) (crcStep_lt h' x) e)
theorem crcR_diff : ∀ (s s' : List UInt8) (r j : Nat), r < 4294967296 → (∀ i, i ≠ j → s[i]? = s'[i]?) → j < s.length → j < s'.length → s[j]? ≠ s'[j]? → crcR r s ≠ crcR r s'
  | [], _, _, j, _, _, h, _, _ => by simp at h
  | _ :: _, [], _, j, _, _, _, h, _ => by simp at h
  | x :: s, x' :: s', r, 0, hr, ha, _, _, hd => fun e => by
    have ht : s = s' := List.ext_getElem? (fun i => by simpa using ha (i + 1) (by omega))
    subst ht
    have := crcR_inj s (crcStep_lt hr x) (crcStep_lt hr x') e
    exact hd (by simpa using crcStep_byte hr this)
  | x :: s, x' :: s', r, j + 1, hr, ha, h1, h2, hd => fun e => by
    have hx : x = x' := by simpa using ha 0 (by omega)
    subst hx
    exact crcR_diff s s' (crcStep r x) j (crcStep_lt hr x) (fun i hi => by simpa using ha (i + 1) (by omega)) (by simpa using h1) (by simpa using h2) (by simpa using hd) e
theorem crc_diff {s s' : List UInt8} {j : Nat} (ha : ∀ i, i ≠ j → s[i]? = s'[i]?) (h1 : j < s.length) (h2 : j < s'.length) (hd : s[j]? ≠ s'[j]?) : crc s ≠ crc s' := fun e =>
  crcR_diff s s' 4294967295 j (by omega) ha h1 h2 hd (xor_back e)
theorem readF_sum {b : List UInt8} (h : (pReadF b 0).2.2 = 0) : getF b 6 4 = crc (b.take 6 ++ textAt b 0 (getF b 0 2).toNat) := by
  have h0 := readF_nat (b := b) (a := 0) (Nat.zero_le _)
  rw [show pReadF b 0 = pReadF b ((0 : Nat) : Int) from rfl, h0] at h
  by_cases c1 : b.length < 0 + 10
  · rw [if_pos c1] at h; simp at h
  rw [if_neg c1] at h
  by_cases c2 : getF b 0 2 < 1 ∨ 1000 < getF b 0 2
  · rw [if_pos c2] at h; simp at h
  rw [if_neg c2] at h
  split at h
  · simp at h
  split at h
  · simp at h
  split at h
  · simp at h
  · rename_i c5
    rw [List.drop_zero] at c5
    exact Decidable.of_not_not c5
theorem getF_congr {b b' : List UInt8} {a : Nat} : ∀ {k : Nat}, (∀ i, a ≤ i → i < a + k → b'.getD i 0 = b.getD i 0) → getF b' a k = getF b a k
  | 0, _ => rfl
  | k + 1, h => by
    simp only [getF]
    rw [getF_congr (k := k) (fun i h1 h2 => h i h1 (by omega)), h (a + k) (by omega) (by omega)]
theorem flip_code {e : Ent} (hp : pEntry e.1 e.2 = true) {p : Nat} (h2 : 2 ≤ p) (hlt : p < (frame e).length) {y : UInt8} (hy : y ≠ (frame e).getD p 0) (post : List UInt8) : (pReadF ((frame e).set p y ++ post) 0).2.2 ≠ 0 := by
  intro h0
  have hl := frame_length e
  obtain ⟨g1, _, g3, g4, g5⟩ := frame_get hp post
  have hsum := readF_sum h0
  obtain ⟨f, hf⟩ : ∃ f, f = frame e ++ post := ⟨_, rfl⟩
  have hf' : (frame e).set p y ++ post = f.set p y := by rw [hf, List.set_append_left _ _ hlt]
  rw [hf'] at hsum
  rw [← hf] at g1 g3 g4 g5
  have hfl : 10 + e.2.length ≤ f.length := by rw [hf, List.length_append]; omega
  have hpf : p < f.length := by omega
  have hyf : f[p]? ≠ some y := fun h => hy (by
    rw [hf, List.getElem?_append_left hlt] at h
    rw [List.getD_eq_getElem?_getD, h]; rfl)
  have hset : ∀ i, i ≠ p → (f.set p y)[i]? = f[i]? := fun i hi => List.getElem?_set_ne (fun h => hi h.symm)
  have hself : (f.set p y)[p]? = some y := by rw [List.getElem?_set_self hpf]
  have hget : ∀ i, i ≠ p → (f.set p y).getD i 0 = f.getD i 0 := fun i hi => by simp only [List.getD_eq_getElem?_getD, hset i hi]
  have hn : getF (f.set p y) 0 2 = e.2.length := by rw [getF_congr (fun i _ hi => hget i (by omega)), g1]
  rw [hn, Int.toNat_natCast] at hsum
  have hD : ∀ (b : List UInt8) (i : Nat), b.length = f.length → (b.take 6 ++ textAt b 0 e.2.length)[i]? = if i < 6 then b[i]? else if i < 6 + e.2.length then b[i + 4]? else none := fun b i hb => by
    unfold textAt
    have h6 : (b.take 6).length = 6 := by rw [List.length_take]; omega
    by_cases c : i < 6
    · rw [if_pos c, List.getElem?_append_left (by omega), List.getElem?_take_of_lt c]
    · rw [if_neg c, List.getElem?_append_right (by omega), h6]
      by_cases c2 : i < 6 + e.2.length
      · rw [if_pos c2, List.getElem?_take_of_lt (by omega), List.getElem?_drop]
        congr 1; omega
      · rw [if_neg c2, List.getElem?_eq_none (by rw [List.length_take]; omega)]
  have hDl : ∀ (b : List UInt8), b.length = f.length → (b.take 6 ++ textAt b 0 e.2.length).length = 6 + e.2.length := fun b hb => by
    unfold textAt; rw [List.length_append, List.length_take, List.length_take, List.length_drop]; omega
  have hsl : (f.set p y).length = f.length := List.length_set
  have hcf : getF f 6 4 = crc (f.take 6 ++ textAt f 0 e.2.length) := by rw [g3, g4, g5]
  by_cases c : 6 ≤ p ∧ p < 10
  · -- the sum itself is turned
    have hDD : (f.set p y).take 6 ++ textAt (f.set p y) 0 e.2.length = f.take 6 ++ textAt f 0 e.2.length := List.ext_getElem? (fun i => by
      rw [hD _ i hsl, hD _ i rfl]
      split
      · exact hset i (by omega)
      · split
        · exact hset _ (by omega)
        · rfl)
    rw [hDD, ← hcf, getF_val _ 6 4 (by omega), getF_val _ 6 4 (by omega)] at hsum
    have l1 : (((f.set p y).drop 6).take 4).length = 4 := by rw [List.length_take, List.length_drop]; omega
    have l2 : ((f.drop 6).take 4).length = 4 := by rw [List.length_take, List.length_drop]; omega
    have e1 := putR_val (((f.set p y).drop 6).take 4)
    have e2 := putR_val ((f.drop 6).take 4)
    rw [l1, hsum] at e1
    rw [l2] at e2
    have e3 : ((f.set p y).drop 6).take 4 = (f.drop 6).take 4 := e1.symm.trans e2
    have e4 : (((f.set p y).drop 6).take 4)[p - 6]? = ((f.drop 6).take 4)[p - 6]? := by rw [e3]
    rw [List.getElem?_take_of_lt (by omega), List.getElem?_take_of_lt (by omega), List.getElem?_drop, List.getElem?_drop, show 6 + (p - 6) = p by omega, hself] at e4
    exact hyf e4.symm
  · have hSS : getF (f.set p y) 6 4 = getF f 6 4 := getF_congr (fun i h1 h2 => hget i (by omega))
    rw [hSS, hcf] at hsum
    have hsum2 : crc (f.take 6 ++ textAt f 0 e.2.length) = crc ((f.set p y).take 6 ++ textAt (f.set p y) 0 e.2.length) := by omega
    refine crc_diff (j := if p < 6 then p else p - 4) (fun i hi => ?_) (by rw [hDl _ rfl]; split <;> omega) (by rw [hDl _ hsl]; split <;> omega) ?_ hsum2
    · rw [hD _ i rfl, hD _ i hsl]
      split
      · exact (hset i (fun e => by subst e; rw [if_pos (by assumption)] at hi; exact hi rfl)).symm
      · split
        · exact (hset (i + 4) (fun e => by
            rw [if_neg (by omega)] at hi; omega)).symm
        · rfl
    · rw [hD _ _ rfl, hD _ _ hsl]
      by_cases c6 : p < 6
      · rw [if_pos c6, if_pos c6, if_pos c6, hself]; exact hyf
      · rw [if_neg c6, if_neg (by omega), if_pos (by omega), if_neg (by omega), if_pos (by omega), show p - 4 + 4 = p by omega, hself]; exact hyf
theorem bit_xor8 (a c : UInt8) : bitv .xor .u8 (a.toNat : Int) (c.toNat : Int) = ((a ^^^ c).toNat : Int) := by
  have ha := a.toNat_lt
  have hc := c.toNat_lt
  have h : a.toNat ^^^ c.toNat < 2 ^ 8 := Nat.xor_lt_two_pow (by omega) (by omega)
  have e : (BitVec.ofInt 8 (a.toNat : Int) ^^^ BitVec.ofInt 8 (c.toNat : Int)).toNat = a.toNat ^^^ c.toNat := by
    rw [BitVec.ofInt_natCast, BitVec.ofInt_natCast, BitVec.toNat_xor, BitVec.toNat_ofNat, BitVec.toNat_ofNat, Nat.mod_eq_of_lt (by omega), Nat.mod_eq_of_lt (by omega)]
  show IntKind.u8.wrap (((BitVec.ofInt 8 (a.toNat : Int) ^^^ BitVec.ofInt 8 (c.toNat : Int)).toNat : Nat) : Int) = _
  rw [e, IntKind.wrap_u8, UInt8.toNat_xor]; omega
theorem xor_ne {a c : UInt8} (h : c.toNat ≠ 0) : a ^^^ c ≠ a := fun e => by
  have h1 : (a ^^^ c).toNat = a.toNat := by rw [e]
  rw [UInt8.toNat_xor] at h1
  have h2 : a.toNat ^^^ (a.toNat ^^^ c.toNat) = a.toNat ^^^ a.toNat := by rw [h1]
  rw [← Nat.xor_assoc, Nat.xor_self, Nat.zero_xor] at h2
  exact h h2
theorem u8s_set (s : List UInt8) (p : Nat) (y : UInt8) : (u8s s).set p (B8 y) = u8s (s.set p y) := by unfold u8s; rw [List.map_set]
/-- Records ahead, a record with a turned byte, anything behind it. -/
theorem pScan_flip {l : List Ent} {n : Int} (hrow : rowE n l) (h1 : 1 ≤ n) (h2 : n + l.length ≤ 1000000000) {k : Nat} (hk : k < l.length) {p : Nat} (hp2 : 2 ≤ p) (hlt : p < (frame l[k]).length) {y : UInt8} (hy : y ≠ (frame l[k]).getD p 0) (post : List UInt8) :
    pScan ((l.take k).flatMap frame ++ ((frame l[k]).set p y ++ post)) = (l.take k, ((l.take k).flatMap frame).length) := by
  have hc := flip_code (rowE_ok hrow h1 h2 _ (List.getElem_mem hk)) hp2 hlt hy post
  have := scan_then (l.take k) n none [] _ (rowE_take k hrow) h1 (by rw [List.length_take]; omega) (fun q h => by cases h) hc
  rw [List.nil_append, List.length_nil, Nat.zero_add] at this
  exact this
end Go.Proofs.Ythdfbaoenjhkbaa
