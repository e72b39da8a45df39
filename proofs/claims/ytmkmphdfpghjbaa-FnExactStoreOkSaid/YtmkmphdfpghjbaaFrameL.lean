/- Records: the plain law. No condition. -/
import Derived.Test.YtmkmphdfpghjbaaNumL
import Derived.Test.YtmkmphdfpghjbaaEntL
namespace Go.Proofs.Ytmkmphdfpghjbaa
open Go.RowKit

def headF (e : Int × List UInt8) : List UInt8 := putR e.2.length 2 ++ putR e.1 4
theorem headF_length (e : Int × List UInt8) : (headF e).length = 6 := by simp [headF]
def frame (e : Int × List UInt8) : List UInt8 := headF e ++ putR (crc (headF e ++ e.2)) 4 ++ e.2
theorem frame_length (e : Int × List UInt8) : (frame e).length = 10 + e.2.length := by simp [frame, headF_length]; omega
def pFrame (e : Int × List UInt8) : List UInt8 × Bool := if pEntry e.1 e.2 = true then (frame e, true) else ([], false)
theorem pFrame_len (e : Int × List UInt8) : (pFrame e).1.length ≤ 1010 := by
  unfold pFrame
  split
  · rename_i h; have := pEntry_iff.1 h; rw [frame_length]; omega
  · simp
def noE : Int × List UInt8 := (0, [])
/-- The text of the record at a. -/
def textAt (b : List UInt8) (a n : Nat) : List UInt8 := (b.drop (a + 10)).take n
def pReadF (b : List UInt8) (i : Int) : (Int × List UInt8) × Int × Int :=
  if i < 0 ∨ b.length < i then (noE, 0, 1) else
  let a := i.toNat
  if b.length < a + 10 then (noE, 0, 2) else
  let n := getF b a 2
  if n < 1 ∨ 1000 < n then (noE, 0, 3) else
  if (b.length : Int) < a + 10 + n then (noE, 0, 4) else
  let num := getF b (a + 2) 4
  if num < 1 ∨ 1000000000 < num then (noE, 0, 5) else
  if getF b (a + 6) 4 ≠ crc ((b.drop a).take 6 ++ textAt b a n.toNat) then (noE, 0, 6) else
  ((num, textAt b a n.toNat), i + 10 + n, 0)
theorem cut3 (b : List UInt8) (a p q : Nat) : (b.drop a).take (p + q) = (b.drop a).take p ++ (b.drop (a + p)).take q := by
  rw [List.take_add, List.drop_drop]
/-- The bytes of the record read at a are the record's just if the sum is right. -/
theorem frame_is {b : List UInt8} {a n : Nat} (h : a + 10 + n ≤ b.length) (hn : getF b a 2 = n) :
    (frame (getF b (a + 2) 4, textAt b a n) = (b.drop a).take (10 + n)) ↔ getF b (a + 6) 4 = crc ((b.drop a).take 6 ++ textAt b a n) := by
  have ht : (textAt b a n).length = n := by unfold textAt; rw [List.length_take, List.length_drop]; omega
  have e1 : (b.drop a).take (10 + n) = (b.drop a).take 2 ++ (b.drop (a + 2)).take 4 ++ (b.drop (a + 6)).take 4 ++ textAt b a n := by
    rw [cut3, show 10 = 6 + 4 from rfl, cut3, show (6 : Nat) = 2 + 4 from rfl, cut3]; rfl
  have e2 : (b.drop a).take 6 = (b.drop a).take 2 ++ (b.drop (a + 2)).take 4 := cut3 b a 2 4
  have hh : headF (getF b (a + 2) 4, textAt b a n) = (b.drop a).take 6 := by
    unfold headF
    simp only [ht]
    rw [e2, ← hn, getF_putR (by omega), getF_putR (by omega)]
  have hf : frame (getF b (a + 2) 4, textAt b a n) = (b.drop a).take 6 ++ putR (crc ((b.drop a).take 6 ++ textAt b a n)) 4 ++ textAt b a n := by unfold frame; rw [hh]
  rw [hf, e1, ← e2]
  have hc := crc_lt ((b.drop a).take 6 ++ textAt b a n)
  constructor
  · intro h2
    have h3 := List.append_cancel_right h2
    have h4 := List.append_cancel_left h3
    rw [getF_val b _ 4 (by omega), ← h4, val_putR 4 (by omega) (by omega)]
  · intro h2
    rw [← h2, getF_putR (by omega)]
end Go.Proofs.Ytmkmphdfpghjbaa
