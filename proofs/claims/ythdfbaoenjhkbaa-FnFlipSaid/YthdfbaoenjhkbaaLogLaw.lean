/- Lists of records: what the laws ask of them. No condition. -/
import Derived.Test.YthdfbaoenjhkbaaLog
import Derived.Test.YthdfbaoenjhkbaaSame
namespace Go.Proofs.Ythdfbaoenjhkbaa
open Go.RowKit

theorem textAt_drop (b : List UInt8) (a n : Nat) : textAt (b.drop a) 0 n = textAt b a n := by unfold textAt; rw [List.drop_drop]
/-- What is read at a place is what is read at the beginning of the bytes behind it. -/
theorem readF_shift {b : List UInt8} {a : Nat} (h : a ≤ b.length) : pReadF b a = ((pReadF (b.drop a) 0).1, (if (pReadF (b.drop a) 0).2.2 = 0 then a + (pReadF (b.drop a) 0).2.1 else 0), (pReadF (b.drop a) 0).2.2) := by
  have h0 := readF_nat (b := b.drop a) (a := 0) (Nat.zero_le _)
  simp only [Int.ofNat_zero, Nat.zero_add, List.drop_zero, textAt_drop] at h0
  have g2 : getF (b.drop a) 0 2 = getF b a 2 := getF_drop b a 0 2
  have g4 : getF (b.drop a) 2 4 = getF b (a + 2) 4 := getF_drop b a 2 4
  have g6 : getF (b.drop a) 6 4 = getF b (a + 6) 4 := getF_drop b a 6 4
  have hl : (b.drop a).length = b.length - a := List.length_drop
  have e1 : ((b.drop a).length < 10) = (b.length < a + 10) := propext ⟨fun _ => by omega, fun _ => by omega⟩
  have e2 : (((b.drop a).length : Int) < 0 + 10 + getF b a 2) = ((b.length : Int) < a + 10 + getF b a 2) := propext ⟨fun _ => by omega, fun _ => by omega⟩
  rw [g2, g4, g6] at h0
  simp only [e1, e2] at h0
  rw [readF_nat h, show pReadF (b.drop a) 0 = pReadF (b.drop a) ((0 : Nat) : Int) from rfl]
  simp only [Int.ofNat_zero]
  rw [h0]
  by_cases c1 : b.length < a + 10
  · simp only [if_pos c1]; simp
  simp only [if_neg c1]
  by_cases c2 : getF b a 2 < 1 ∨ 1000 < getF b a 2
  · simp only [if_pos c2]; simp
  simp only [if_neg c2]
  by_cases c3 : (b.length : Int) < a + 10 + getF b a 2
  · simp only [if_pos c3]; simp
  simp only [if_neg c3]
  by_cases c4 : getF b (a + 2) 4 < 1 ∨ 1000000000 < getF b (a + 2) 4
  · simp only [if_pos c4]; simp
  simp only [if_neg c4]
  by_cases c5 : getF b (a + 6) 4 ≠ crc ((b.drop a).take 6 ++ textAt b a (getF b a 2).toNat)
  · simp only [if_pos c5]; simp
  simp only [if_neg c5]
  simp; omega
theorem read_short {b : List UInt8} (h : b.length < 10) : (pReadF b 0).2.2 = 2 := by
  have h0 := readF_nat (b := b) (a := 0) (Nat.zero_le _)
  rw [show pReadF b 0 = pReadF b ((0 : Nat) : Int) from rfl, h0, if_pos (by omega)]
theorem frame_parts (e : Ent) (post : List UInt8) : frame e ++ post = putR e.2.length 2 ++ (putR e.1 4 ++ (putR (crc (headF e ++ e.2)) 4 ++ (e.2 ++ post))) := by
  unfold frame headF; simp only [List.append_assoc]
theorem take_len {x y : List UInt8} {n : Nat} (h : x.length = n) : (x ++ y).take n = x := by subst h; exact List.take_left
theorem drop_len {x y : List UInt8} {n : Nat} (h : x.length = n) : (x ++ y).drop n = y := by subst h; exact List.drop_left
/-- A right record's parts as they are read. -/
theorem frame_get {e : Ent} (hp : pEntry e.1 e.2 = true) (post : List UInt8) :
    getF (frame e ++ post) 0 2 = e.2.length ∧ getF (frame e ++ post) 2 4 = e.1 ∧ getF (frame e ++ post) 6 4 = crc (headF e ++ e.2) ∧ (frame e ++ post).take 6 = headF e ∧ textAt (frame e ++ post) 0 e.2.length = e.2 := by
  have hb := pEntry_iff.1 hp
  have hl := frame_length e
  have hc := crc_lt (headF e ++ e.2)
  have hp := frame_parts e post
  have d2 : (frame e ++ post).drop 2 = putR e.1 4 ++ (putR (crc (headF e ++ e.2)) 4 ++ (e.2 ++ post)) := by rw [hp, drop_len (putR_length _ 2)]
  have d6 : (frame e ++ post).drop 6 = putR (crc (headF e ++ e.2)) 4 ++ (e.2 ++ post) := by
    rw [show 6 = 2 + 4 from rfl, ← List.drop_drop, d2, drop_len (putR_length _ 4)]
  have d10 : (frame e ++ post).drop 10 = e.2 ++ post := by
    rw [show 10 = 6 + 4 from rfl, ← List.drop_drop, d6, drop_len (putR_length _ 4)]
  refine ⟨?_, ?_, ?_, ?_, ?_⟩
  · rw [getF_val _ 0 2 (by rw [List.length_append]; omega), List.drop_zero, hp, take_len (putR_length _ 2), val_putR 2 (by omega) (by omega)]
  · rw [getF_val _ 2 4 (by rw [List.length_append]; omega), d2, take_len (putR_length _ 4), val_putR 4 (by omega) (by omega)]
  · rw [getF_val _ 6 4 (by rw [List.length_append]; omega), d6, take_len (putR_length _ 4), val_putR 4 (by omega) (by omega)]
  · unfold frame
    rw [List.append_assoc, List.append_assoc, take_len (headF_length e)]
  · unfold textAt
    rw [Nat.zero_add, d10, take_len rfl]
theorem read_frame {e : Ent} (hp : pEntry e.1 e.2 = true) (post : List UInt8) : pReadF (frame e ++ post) 0 = (e, 10 + (e.2.length : Int), 0) := by
  obtain ⟨g1, g2, g3, g4, g5⟩ := frame_get hp post
  have hb := pEntry_iff.1 hp
  have hl := frame_length e
  have h0 := readF_nat (b := frame e ++ post) (a := 0) (Nat.zero_le _)
  rw [show pReadF (frame e ++ post) 0 = pReadF (frame e ++ post) ((0 : Nat) : Int) from rfl, h0]
  rw [g1]
  simp only [Nat.zero_add]
  rw [g2, g3, List.drop_zero, g4, Int.toNat_natCast, g5]
  rw [if_neg (by rw [List.length_append]; omega), if_neg (by omega), if_neg (by rw [List.length_append]; omega), if_neg (by omega), if_neg (by simp)]
  simp
theorem read_torn {e : Ent} (hp : pEntry e.1 e.2 = true) {m : Nat} (hm : m < (frame e).length) : (pReadF ((frame e).take m) 0).2.2 ≠ 0 := by
  have hl := frame_length e
  have hb := pEntry_iff.1 hp
  have hlt : ((frame e).take m).length = m := by rw [List.length_take]; omega
  by_cases h10 : m < 10
  · rw [read_short (by omega)]; decide
  · have h0 := readF_nat (b := (frame e).take m) (a := 0) (Nat.zero_le _)
    have g1 := (frame_get hp []).1
    rw [List.append_nil] at g1
    have g : getF ((frame e).take m) 0 2 = e.2.length := by
      rw [getF_val _ 0 2 (by omega), List.drop_zero, List.take_take, Nat.min_eq_left (by omega), ← g1, getF_val _ 0 2 (by omega), List.drop_zero]
    rw [show pReadF ((frame e).take m) 0 = pReadF ((frame e).take m) ((0 : Nat) : Int) from rfl, h0, if_neg (by omega), g, if_neg (by omega), if_pos (by omega)]
    simp
theorem rowE_ok : ∀ {l : List Ent} {n : Int}, rowE n l → 1 ≤ n → n + l.length ≤ 1000000000 → ∀ e ∈ l, pEntry e.1 e.2 = true
  | [], _, _, _, _ => by simp
  | x :: l, n, h, h1, h2 => by
    intro e he
    simp only [List.length_cons] at h2
    rcases List.mem_cons.1 he with rfl | he
    · obtain ⟨h3, h4, _⟩ := h
      exact pEntry_iff.2 (by omega)
    · exact rowE_ok h.2.2 (by omega) (by omega) e he
theorem rowE_get : ∀ {l : List Ent} {n : Int}, rowE n l → ∀ (i : Nat) (h : i < l.length), l[i].1 = n + i
  | [], _, _, i, h => by simp at h
  | x :: l, n, hr, 0, h => by simpa using hr.1
  | x :: l, n, hr, i + 1, h => by
    have := rowE_get hr.2.2 i (by simpa using h)
    simp only [List.getElem_cons_succ]
    omega
theorem rowE_entries {l : List Ent} {n : Int} (h : rowE n l) (h1 : 1 ≤ n) (h2 : n + l.length ≤ 1000000000) : pEntries l = true :=
  pEntries_iff.2 ⟨fun i hi _ => rowE_ok h h1 h2 _ (List.getElem_mem hi), fun i hi _ => by rw [rowE_get h i (by omega), rowE_get h (i + 1) hi]; omega⟩
theorem rowE_take : ∀ {l : List Ent} {n : Int} (k : Nat), rowE n l → rowE n (l.take k)
  | [], _, k, _ => by simp [rowE]
  | x :: l, n, 0, _ => trivial
  | x :: l, n, k + 1, h => ⟨h.1, h.2.1, rowE_take k h.2.2⟩
theorem rowE_drop : ∀ {l : List Ent} {n : Int} (k : Nat), rowE n l → rowE (n + k) (l.drop k)
  | [], _, k, _ => by simp [rowE]
  | x :: l, n, 0, h => by simpa using h
  | x :: l, n, k + 1, h => by
    have := rowE_drop k h.2.2
    simp only [List.drop_succ_cons]
    rw [show n + ((k + 1 : Nat) : Int) = n + 1 + k by omega]
    exact this
theorem rowE_bytes : ∀ {l : List Ent} {n : Int}, rowE n l → (l.flatMap frame).length ≤ 26 * l.length
  | [], _, _ => by simp
  | x :: l, n, h => by
    have ih := rowE_bytes h.2.2
    have := frame_length x
    have := h.2.1
    simp only [List.flatMap_cons, List.length_append, List.length_cons]
    omega
/-- Records, then what can't be read. -/
theorem scan_then : ∀ (l : List Ent) (n : Int) (p : Option Int) (pre rest : List UInt8), rowE n l → 1 ≤ n → n + l.length ≤ 1000000000 → (∀ q, p = some q → q + 1 = n) → (pReadF rest 0).2.2 ≠ 0 →
    scanFrom (pre ++ (l.flatMap frame ++ rest)) p pre.length = (l, pre.length + (l.flatMap frame).length)
  | [], n, p, pre, rest, _, _, _, _, hr => by
    rw [scanFrom_end (fun h => by
      have h1 := h.1
      rw [readF_shift (by simp)] at h1
      simp only [List.flatMap_nil, List.nil_append, drop_len rfl] at h1
      exact hr h1)]
    simp
  | e :: l, n, p, pre, rest, hrow, h1, h2, hq, hr => by
    simp only [List.length_cons] at h2
    have hp := rowE_ok hrow h1 (by simp only [List.length_cons]; omega) e (by simp)
    have hl := frame_length e
    have hsh := readF_shift (b := pre ++ ((e :: l).flatMap frame ++ rest)) (a := pre.length) (by simp)
    rw [drop_len rfl, List.flatMap_cons, List.append_assoc, read_frame hp] at hsh
    simp only at hsh
    have ih := scan_then l (n + 1) (some e.1) (pre ++ frame e) rest hrow.2.2 (by omega) (by omega) (fun q h => by injection h with h; rw [← h, hrow.1]) hr
    rw [List.flatMap_cons, List.append_assoc]
    rw [scanFrom_step (by rw [hsh]) (by
      rw [hsh]
      cases p with
      | none => rfl
      | some q => exact decide_eq_true ((hq q rfl).trans hrow.1.symm)), hsh]
    simp only [if_pos]
    rw [List.append_assoc] at ih
    rw [show ((pre.length : Int) + (10 + (e.2.length : Int))).toNat = (pre ++ frame e).length by rw [List.length_append, hl]; omega, ih]
    simp only [List.length_append, Prod.mk.injEq, true_and]
    omega
/-- How many records are all there within m bytes. -/
def cnt : List Ent → Nat → Nat
  | [], _ => 0
  | e :: l, m => if (frame e).length ≤ m then cnt l (m - (frame e).length) + 1 else 0
theorem cnt_le : ∀ (l : List Ent) (m : Nat), cnt l m ≤ l.length
  | [], _ => by simp [cnt]
  | e :: l, m => by
    have := cnt_le l (m - (frame e).length)
    simp only [cnt, List.length_cons]
    split <;> omega
theorem cnt_iff : ∀ (l : List Ent) (m i : Nat), i < l.length → (((l.take (i + 1)).flatMap frame).length ≤ m ↔ i < cnt l m)
  | [], m, i, h => by simp at h
  | e :: l, m, 0, h => by
    simp only [cnt, Nat.zero_add, List.take_succ_cons, List.take_zero, List.flatMap_cons, List.flatMap_nil, List.append_nil]
    split <;> omega
  | e :: l, m, i + 1, h => by
    have ih := cnt_iff l (m - (frame e).length) i (by simpa using h)
    simp only [cnt, List.take_succ_cons, List.flatMap_cons, List.length_append]
    split
    · omega
    · omega
theorem torn_split : ∀ (l : List Ent) (m : Nat), (∀ e ∈ l, pEntry e.1 e.2 = true) → ∃ rest, (l.flatMap frame).take m = (l.take (cnt l m)).flatMap frame ++ rest ∧ (pReadF rest 0).2.2 ≠ 0
  | [], m, _ => ⟨[], by simp, by rw [read_short (by simp)]; decide⟩
  | e :: l, m, h => by
    by_cases hm : (frame e).length ≤ m
    · obtain ⟨rest, h1, h2⟩ := torn_split l (m - (frame e).length) (fun x hx => h x (by simp [hx]))
      refine ⟨rest, ?_, h2⟩
      simp only [cnt, if_pos hm, List.take_succ_cons, List.flatMap_cons]
      rw [List.take_append, List.take_of_length_le hm, h1, List.append_assoc]
    · refine ⟨(frame e).take m, ?_, read_torn (h e (by simp)) (by omega)⟩
      simp only [cnt, if_neg hm, List.take_zero, List.flatMap_nil, List.nil_append, List.flatMap_cons]
      rw [List.take_append_of_le_length (by omega)]
theorem pScan_torn {l : List Ent} {n : Int} (hrow : rowE n l) (h1 : 1 ≤ n) (h2 : n + l.length ≤ 1000000000) (m : Nat) : pScan ((l.flatMap frame).take m) = (l.take (cnt l m), ((l.take (cnt l m)).flatMap frame).length) := by
  obtain ⟨rest, h3, h4⟩ := torn_split l m (rowE_ok hrow h1 h2)
  have hc := cnt_le l m
  have := scan_then (l.take (cnt l m)) n none [] rest (rowE_take _ hrow) h1 (by rw [List.length_take]; omega) (fun q h => by cases h) h4
  rw [List.nil_append, List.length_nil, Nat.zero_add] at this
  unfold pScan
  rw [h3]
  exact this
theorem cnt_all (l : List Ent) : cnt l (l.flatMap frame).length = l.length := by
  have h1 := cnt_le l (l.flatMap frame).length
  rcases Nat.lt_or_ge (cnt l (l.flatMap frame).length) l.length with h | h
  · have := (cnt_iff l (l.flatMap frame).length _ h).1 (frames_le l _)
    omega
  · omega
theorem pScan_log {l : List Ent} {n : Int} (hrow : rowE n l) (h1 : 1 ≤ n) (h2 : n + l.length ≤ 1000000000) : pScan (l.flatMap frame) = (l, (l.flatMap frame).length) := by
  have := pScan_torn hrow h1 h2 (l.flatMap frame).length
  rw [cnt_all, List.take_length, List.take_length] at this
  exact this
theorem ents_take (l : List Ent) (k : Nat) : (ents l).take (k * 2) = ents (l.take k) := cellsL_take entC_len l k
theorem RE.to {w : World} {lo hi c : Nat} {A : Option Addr} {l : List Ent} {b : Int} (h : Rd w lo hi 2 A l.length (ents l)) (hb : 0 ≤ b ∧ b ≤ l.length) (hc : l.length ≤ c) :
    RE w lo hi (.slice (cutA A c 0 2) b.toNat c) (l.take b.toNat) := by
  have hl : (l.take b.toNat).length = b.toNat := by rw [List.length_take]; omega
  have h2 := h.cut (a := 0) (b := b.toNat) (c := c) (Nat.zero_le _) (by omega) hc
  rw [Nat.zero_mul, List.drop_zero, Nat.sub_zero, ents_take] at h2
  exact ⟨_, _, by rw [hl], by rw [hl]; omega, by rw [hl]; exact h2⟩
theorem pLast_all (l : List Ent) : pLast l l.length = l := by unfold pLast; simp
theorem torn_le (l : List Ent) (m : Nat) : ((l.take (cnt l m)).flatMap frame).length ≤ m := by
  rcases Nat.eq_zero_or_pos (cnt l m) with h | h
  · rw [h]; simp
  · have hc := cnt_le l m
    have := (cnt_iff l m (cnt l m - 1) (by omega)).2 (by omega)
    rwa [show cnt l m - 1 + 1 = cnt l m by omega] at this
end Go.Proofs.Ythdfbaoenjhkbaa
