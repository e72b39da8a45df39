/- Texts cut at one byte: the plain law. No condition. -/
import Derived.Test.YtohbamaomaadiaaDoorStrK
import Derived.Lib.SplitLaws
namespace Go.Proofs.YtohbamaomaadiaaDoor

/-- The first piece gets bytes ahead of it. -/
def jh (p : List UInt8) : List (List UInt8) → List (List UInt8)
  | [] => [p]
  | h :: t => (p ++ h) :: t
/-- A text cut at the byte c. -/
def spl (c : UInt8) : List UInt8 → List (List UInt8)
  | [] => [[]]
  | x :: r => if x = c then [] :: spl c r else jh [x] (spl c r)
theorem spl_ne (c : UInt8) : ∀ s, spl c s ≠ []
  | [] => by simp [spl]
  | x :: r => by
    unfold spl
    split
    · simp
    · cases spl c r <;> simp [jh]
theorem jh_nil {l : List (List UInt8)} (h : l ≠ []) : jh [] l = l := by cases l <;> simp_all [jh]
theorem jh_jh (p q : List UInt8) {l : List (List UInt8)} (h : l ≠ []) : jh p (jh q l) = jh (p ++ q) l := by cases l <;> simp_all [jh]
theorem jh_eq (p : List UInt8) (t : List (List UInt8)) : jh p ([] :: t) = p :: t := by simp [jh]
theorem spl_length (c : UInt8) : ∀ s, (spl c s).length ≤ s.length + 1
  | [] => by simp [spl]
  | x :: r => by
    have ih := spl_length c r
    unfold spl
    split
    · simp; omega
    · cases h : spl c r with
      | nil => exact absurd h (spl_ne c r)
      | cons a t => rw [h] at ih; simp [jh] at *; omega
theorem spl_miss (c : UInt8) : ∀ s, c ∉ s → spl c s = [s]
  | [], _ => rfl
  | x :: r, h => by
    simp only [List.mem_cons, not_or] at h
    unfold spl
    rw [if_neg (Ne.symm h.1), spl_miss c r h.2]; rfl
/-- Go's Split gives these pieces. -/
theorem splitK_spl (c : UInt8) : ∀ s, Lib.splitK [c] 0 (Lib.count s [c]) s = spl c s
  | [] => by rw [Lib.count_miss (by simp [Lib.index])]; rfl
  | x :: r => by
    have ih := splitK_spl c r
    by_cases hx : x = c
    · subst hx
      have h0 : Lib.index (x :: r) [x] = ((0 : Nat) : Int) := by simp [Lib.index, List.isPrefixOf]
      rw [Lib.count_cons_eq, Nat.add_comm, Lib.splitK, h0]
      simp only [spl, if_true]
      simp [ih]
    · rw [Lib.count_cons_ne x c r hx]
      have hix : Lib.index (x :: r) [c] = if Lib.index r [c] == -1 then -1 else Lib.index r [c] + 1 := by
        have hp : ([c] : List UInt8).isPrefixOf (x :: r) = false := by simp [List.isPrefixOf, Ne.symm hx]
        rw [Lib.index, hp]; simp
      rw [spl, if_neg hx, ← ih]
      by_cases hm : Lib.index r [c] = -1
      · rw [Lib.count_miss hm]; rfl
      · have hge := Lib.index_ge r [c]
        obtain ⟨j, hj⟩ : ∃ j : Nat, Lib.index r [c] = j := ⟨(Lib.index r [c]).toNat, by omega⟩
        have hix' : Lib.index (x :: r) [c] = ((j + 1 : Nat) : Int) := by rw [hix, if_neg (fun e => hm (beq_iff_eq.1 e)), hj]; omega
        rw [Lib.count_hit (by simp) hj, Nat.add_comm, Lib.splitK, Lib.splitK, hix', hj]
        rw [if_neg (by simp <;> omega), if_neg (by simp <;> omega)]
        simp only [Int.toNat_natCast, List.length_cons, List.length_nil, Nat.add_zero, jh]
        rw [show j + 1 + (0 + 1) = (j + (0 + 1)) + 1 by omega, List.drop_succ_cons, List.take_succ_cons]
        rfl
/-- One step of the cutting from the left. -/
theorem spl_step {c : UInt8} {s : List UInt8} {k : Nat} (h : k < s.length) (p : List UInt8) :
    jh p (spl c (s.drop k)) = if s.getD k 0 = c then p :: spl c (s.drop (k + 1)) else jh (p ++ [s.getD k 0]) (spl c (s.drop (k + 1))) := by
  have hd : s.drop k = s.getD k 0 :: s.drop (k + 1) := by rw [List.drop_eq_getElem_cons h]; simp [List.getD_eq_getElem?_getD, List.getElem?_eq_getElem h]
  rw [hd]
  show jh p (if _ then _ else _) = _
  split
  · rw [jh_eq]
  · rw [jh_jh _ _ (spl_ne _ _)]
/-- The lines of a text. -/
def pLines (s : List UInt8) : List (List UInt8) := if (spl 10 s).getLast (spl_ne 10 s) = [] then (spl 10 s).dropLast else spl 10 s

theorem pLines_length (s : List UInt8) : (pLines s).length ≤ s.length + 1 := by
  have := spl_length 10 s
  unfold pLines
  split
  · rw [List.length_dropLast]; omega
  · exact this

/-! what was cut is put together again -/
def join (c : UInt8) : List (List UInt8) → List UInt8
  | [] => []
  | [h] => h
  | h :: t => h ++ c :: join c t
theorem join_cons (c : UInt8) (h : List UInt8) {t : List (List UInt8)} (ht : t ≠ []) : join c (h :: t) = h ++ c :: join c t := by cases t <;> simp_all [join]
theorem join_jh (c x : UInt8) {l : List (List UInt8)} (h : l ≠ []) : join c (jh [x] l) = x :: join c l := by
  match l, h with
  | [a], _ => simp [jh, join]
  | a :: b :: t, _ => simp [jh, join]
theorem join_spl (c : UInt8) : ∀ s, join c (spl c s) = s
  | [] => rfl
  | x :: r => by
    unfold spl
    split
    · rename_i h
      rw [join_cons c [] (spl_ne c r), join_spl c r, h]; rfl
    · rw [join_jh c x (spl_ne c r), join_spl c r]
theorem join_snoc (c : UInt8) (x : List UInt8) : ∀ (l : List (List UInt8)), l ≠ [] → join c (l ++ [x]) = join c l ++ c :: x
  | [a], _ => rfl
  | a :: b :: t, _ => by
    rw [List.cons_append, join_cons c a (by simp), join_cons c a (by simp), join_snoc c x (b :: t) (by simp)]; simp
def catL : List (List UInt8) → List UInt8
  | [] => []
  | h :: t => h ++ 10 :: catL t
theorem catL_append (a b : List (List UInt8)) : catL (a ++ b) = catL a ++ catL b := by
  induction a with
  | nil => rfl
  | cons h t ih => rw [List.cons_append, catL, catL, ih]; simp
theorem catL_jh (x : UInt8) {l : List (List UInt8)} (h : l ≠ []) : catL (jh [x] l) = x :: catL l := by
  match l, h with
  | a :: t, _ => simp [jh, catL]
theorem catL_spl : ∀ s, catL (spl 10 s) = s ++ [10]
  | [] => rfl
  | x :: r => by
    unfold spl
    split
    · rename_i h
      rw [catL, catL_spl r, h]; rfl
    · rw [catL_jh x (spl_ne 10 r), catL_spl r]; rfl
theorem catL_lines (s : List UInt8) : catL (pLines s) = s ∨ catL (pLines s) = s ++ [10] := by
  unfold pLines
  split
  · rename_i h
    left
    have h1 := List.dropLast_concat_getLast (spl_ne 10 s)
    rw [h] at h1
    have h2 := catL_spl s
    rw [← h1, catL_append] at h2
    simpa [catL] using h2
  · exact .inr (catL_spl s)
theorem join_length_le (c : UInt8) : ∀ l : List (List UInt8), ∀ k, (join c (l.take k)).length ≤ (join c l).length
  | [], k => by simp
  | [a], k => by cases k <;> simp [join]
  | a :: b :: t, 0 => by simp [join]
  | a :: b :: t, 1 => by simp [join]
  | a :: b :: t, k + 2 => by
    rw [List.take_succ_cons, join_cons c a (by simp), join_cons c a (by simp)]
    have := join_length_le c (b :: t) (k + 1)
    simp at *; omega
theorem catL_length_le (l : List (List UInt8)) (k : Nat) : (catL (l.take k)).length ≤ (catL l).length := by
  conv => rhs; rw [← List.take_append_drop k l]
  rw [catL_append, List.length_append]; omega
end Go.Proofs.YtohbamaomaadiaaDoor
