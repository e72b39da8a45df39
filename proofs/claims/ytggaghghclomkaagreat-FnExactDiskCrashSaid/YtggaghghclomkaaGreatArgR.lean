/- What a slice of structs that can be read looks like in memory. No condition. -/
import Derived.Test.YtggaghghclomkaaGreatArg
import Derived.Test.YtggaghghclomkaaGreatRowsL
namespace Go.Proofs.YtggaghghclomkaaGreat
open Go.RowKit Go.ChangeShapes Go.WideShapes Go.Deep
section
variable {H : Type} {enc : TypeId × Value → H} {P : Program} {w : World} {base : Nat} {spare : Nat → Bool} {held : Bool} {t e : TypeId} {fuel : Nat} {v : Value} {x : DataW H × List MemPlace}
theorem choose_below {α : Type} {p : Nat → α → Prop} : ∀ n : Nat, (∀ i, i < n → ∃ a, p i a) → ∃ l : List α, l.length = n ∧ ∀ i (h : i < l.length), p i l[i]
  | 0, _ => ⟨[], rfl, fun i h => by simp at h⟩
  | n + 1, h => by
    obtain ⟨l, hl, hp⟩ := choose_below n (fun i hi => h i (by omega))
    obtain ⟨a, ha⟩ := h n (by omega)
    refine ⟨l ++ [a], by simp [hl], fun i hi => ?_⟩
    by_cases hin : i < l.length
    · rw [List.getElem_append_left hin]; exact hp i hin
    · simp only [List.length_append, List.length_cons, List.length_nil] at hi
      obtain rfl : i = l.length := by omega
      rw [List.getElem_append_right (Nat.le_refl _)]
      simp only [Nat.sub_self, List.getElem_cons_zero]
      rw [hl]; exact ha
theorem arg_rows {α : Type} {f : α → List Value} {ok : α → Prop} {s : Nat} (hf : ∀ a, (f a).length = s) (hs : 0 < s) (ht : P.underlying t = some (.slice e)) (hc : P.cellsOf e = s)
    (hel : ∀ n cs x, DataW.trod enc P w base spare held n e cs = some x → ∃ d, cs = f d ∧ ok d) (h : DataW.trod enc P w base spare held fuel t [v] = some x) :
    ∃ A c, ∃ l : List α, v = .slice A l.length c ∧ l.length ≤ c ∧ c ≤ 9223372036854775807 ∧ Rd w 0 w.heap.size s A l.length (cellsL f l) ∧ ∀ d ∈ l, ok d := by
  rcases open_slice ht h with ⟨hcs, _⟩ | ⟨ad, len, cap, m, n, D, Pl, hcs, hb, hl, hm, hmm, _, hx⟩
  · simp at hcs
    exact ⟨none, 0, [], by simpa using hcs, Nat.le_refl _, by omega, ⟨by simp [cellsL], Nat.le_refl _, fun h => by simp at h⟩, by simp⟩
  · simp at hcs
    have hlm : len ≤ m := by rw [hmm]; split <;> omega
    rw [hc] at hx
    have each : ∀ i, i < len → ∃ d, ok d ∧ ∀ j u, (f d)[j]? = some u → w.cell? (ad.add (i * s + j)) = some u := fun i hi => by
      obtain ⟨cs', h1, h2⟩ := hx i (by omega)
      obtain ⟨d, rfl, hd⟩ := hel _ _ _ h2
      obtain ⟨_, hlen, hcell⟩ := World.cells?_some h1
      refine ⟨d, hd, fun j u hu => ?_⟩
      have hj : j < s := by have := (List.getElem?_eq_some_iff.1 hu).1; rwa [hf] at this
      have := hcell j hj
      rw [add_of_add] at this
      rw [this, hu]
    obtain ⟨l, hll, hp⟩ := choose_below len each
    refine ⟨some ad, cap, l, by rw [hll]; exact hcs, by omega, by simpa [maxLen] using hm, ⟨cellsL_length hf l, Nat.le_refl _, fun hn => ?_⟩, fun d hd => ?_⟩
    · have cellAt : ∀ j u, (cellsL f l)[j]? = some u → w.cell? (ad.add j) = some u := fun j u hu => by
        have hj := (List.getElem?_eq_some_iff.1 hu).1
        rw [cellsL_length hf] at hj
        have hk : j / s < l.length := Nat.div_lt_of_lt_mul (by rwa [Nat.mul_comm] at hj)
        have hr : j % s < s := Nat.mod_lt _ hs
        have hjj : j = j / s * s + j % s := by rw [Nat.mul_comm]; exact (Nat.div_add_mod j s).symm
        rw [hjj] at hu ⊢
        rw [cellsL_at hf l _ _ hk hr] at hu
        exact (hp _ hk).2 _ u hu
      have hpos : 0 < (cellsL f l).length := by rw [cellsL_length hf]; exact Nat.mul_pos hn hs
      have h0 := cellAt 0 _ (List.getElem?_eq_getElem hpos)
      exact ⟨ad, rfl, Nat.zero_le _, by have := block_lt_of_cell h0; rwa [block_of_add] at this, cellAt⟩
    · obtain ⟨i, hi, rfl⟩ := List.getElem_of_mem hd
      exact (hp i hi).1
end
end Go.Proofs.YtggaghghclomkaaGreat
