/- Rows whose elements are several cells. No condition. -/
import Derived.Test.YtggaghghclomkaaGreatAny
import Derived.Deep.MidRow
namespace Go.Proofs.YtggaghghclomkaaGreat
open Go.RowKit

def setL : List Value → Nat → List Value → List Value
  | xs, _, [] => xs
  | xs, o, v :: r => setL (xs.set o v) (o + 1) r
theorem setL_length : ∀ (us xs : List Value) (o : Nat), (setL xs o us).length = xs.length
  | [], _, _ => rfl
  | v :: r, xs, o => by rw [setL, setL_length r]; simp
theorem setL_over (ys xs : List Value) (hl : ys.length = xs.length) : ∀ (us : List Value) (k : Nat), (∀ j, j < us.length → us[j]? = ys[k + j]?) → k + us.length ≤ xs.length → setL (overTo ys xs k) k us = overTo ys xs (k + us.length)
  | [], k, _, _ => rfl
  | v :: r, k, h, hk => by
    simp only [List.length_cons] at hk h
    have h0 := h 0 (by omega)
    simp only [List.getElem?_cons_zero, Nat.add_zero] at h0
    rw [setL]
    have hv : v = ys.getD k undef := by rw [List.getD_eq_getElem?_getD, ← h0]; rfl
    rw [hv, overTo_set ys xs k (by omega) hl, setL_over ys xs hl r (k + 1) (fun j hj => by
      have := h (j + 1) (by omega)
      rw [List.getElem?_cons_succ] at this
      rw [this, show k + (j + 1) = k + 1 + j by omega]) (by omega)]
    rw [List.length_cons, show k + 1 + r.length = k + (r.length + 1) by omega]
section
variable {w w' : World} {lo hi size m c g : Nat} {e : TypeId} {xs : List Value}
theorem Own.storedL : ∀ (us : List Value) (off : Nat) (w : World) (xs : List Value), Own w lo hi e size (some ⟨g, 0, none⟩) m c xs → Own (w.setCells g off us) lo hi e size (some ⟨g, 0, none⟩) m c (setL xs off us) ∧ Ch (Iv g (g + 1)) w (w.setCells g off us) ∧ (w.setCells g off us).heap.size = w.heap.size
  | [], off, w, xs, h => ⟨h, Ch.refl _ _, rfl⟩
  | v :: r, off, w, xs, h => by
    have h1 : Own (w.setCell ⟨g, off, none⟩ v) lo hi e size (some ⟨g, 0, none⟩) m c (xs.set off v) := ⟨by simpa using h.hi_le, (h.row.stored off v).1, h.lt⟩
    have c1 : Ch (Iv g (g + 1)) w (w.setCell ⟨g, off, none⟩ v) := ⟨rfl, rfl, rfl, by simp, fun k _ hk => heap_setCell_other w ⟨g, off, none⟩ k v (fun e => hk (by simp [Iv, e]))⟩
    obtain ⟨h2, c2, z2⟩ := Own.storedL r (off + 1) _ _ h1
    exact ⟨h2, c1.then c2, by rw [show (w.setCells g off (v :: r)) = (w.setCell ⟨g, off, none⟩ v).setCells g (off + 1) r from rfl, z2]; simp⟩
end
section
variable {P : Program} {L : List Oper} {Q : Exit → Act → World → Prop} {n : Nat} {l : Env} {w : World} {rest : List Oper} {ty t e : TypeId} {pos : String} {af : Array Edge} {x y : Operand}
/-- A value of several cells goes into an own row. -/
theorem TL_storeOwnAgg {g lo hi m c size off : Nat} {xs us : List Value} {ad : Addr} (hx : ev l x = some (.pointer (some ad))) (had : ad = ⟨g, off, none⟩) (hy : ev l y = some (.agg us.toArray)) (hz : (P.info? t).map (·.size) = some us.length) (hv : us.all (·.oneCell') = true)
    (ho : Own w lo hi e size (some ⟨g, 0, none⟩) m c xs) (hoff : off + us.length ≤ m * size)
    (h : ∀ w', Ch (Iv g (g + 1)) w w' → w'.heap.size = w.heap.size → Own w' lo hi e size (some ⟨g, 0, none⟩) m c (setL xs off us) → TL P L Q rest n l w') :
    TL P L Q (⟨none, .store t x y, ty, pos, af, none⟩ :: rest) n l w := by
  subst had
  have hlen := ho.len
  obtain ⟨h1, h2, h3⟩ := Own.storedL us off w xs ho
  refine TL_skipped (w' := w.setCells g off us) rfl rfl (fun a ha => ?_) (h _ h2 h3 h1)
  have := run_storeAt_mid (P := P) w g off t us.toArray (fun j hj => ⟨by rw [ho.row.cellAt (off + j) (by simp at hj; omega), List.getElem?_eq_getElem (by simp at hj; omega)]; rfl, ho.row.frozenAt _⟩) (by simpa using hz) (by simpa using hv)
  simp [execOp, ha.eval hx, ha.eval hy, this]
end
/-- The cells of a list of elements, each of as many cells. -/
def cellsL {α : Type} (f : α → List Value) (l : List α) : List Value := l.flatMap f
theorem cellsL_length {α : Type} {f : α → List Value} {s : Nat} (hf : ∀ a, (f a).length = s) : ∀ l : List α, (cellsL f l).length = l.length * s
  | [] => by simp [cellsL]
  | a :: l => by
    have := cellsL_length hf l
    simp only [cellsL, List.flatMap_cons, List.length_append, List.length_cons, hf] at *
    rw [this, Nat.succ_mul]; omega
theorem cellsL_at {α : Type} {f : α → List Value} {s : Nat} (hf : ∀ a, (f a).length = s) : ∀ (l : List α) (k j : Nat) (h : k < l.length), j < s → (cellsL f l)[k * s + j]? = (f l[k])[j]?
  | [], k, j, h, _ => by simp at h
  | a :: l, 0, j, h, hj => by
    simp only [cellsL, List.flatMap_cons, Nat.zero_mul, Nat.zero_add]
    rw [List.getElem?_append_left (by rw [hf]; exact hj)]; rfl
  | a :: l, k + 1, j, h, hj => by
    have ih := cellsL_at hf l k j (by simpa using h) hj
    simp only [cellsL, List.flatMap_cons] at *
    rw [List.getElem?_append_right (by rw [hf, Nat.succ_mul]; omega), hf, show (k + 1) * s + j - s = k * s + j by rw [Nat.succ_mul]; omega, ih]
    rfl
theorem cellsL_take {α : Type} {f : α → List Value} {s : Nat} (hf : ∀ a, (f a).length = s) : ∀ (l : List α) (k : Nat), (cellsL f l).take (k * s) = cellsL f (l.take k)
  | [], k => by simp [cellsL]
  | a :: l, 0 => by simp [cellsL]
  | a :: l, k + 1 => by
    have ih := cellsL_take hf l k
    simp only [cellsL, List.flatMap_cons, List.take_succ_cons] at *
    rw [List.take_append, hf, List.take_of_length_le (by rw [hf, Nat.succ_mul]; omega), show (k + 1) * s - s = k * s by rw [Nat.succ_mul]; omega, ih]
theorem cellsL_drop {α : Type} {f : α → List Value} {s : Nat} (hf : ∀ a, (f a).length = s) : ∀ (l : List α) (k : Nat), (cellsL f l).drop (k * s) = cellsL f (l.drop k)
  | [], k => by simp [cellsL]
  | a :: l, 0 => by simp [cellsL]
  | a :: l, k + 1 => by
    have ih := cellsL_drop hf l k
    simp only [cellsL, List.flatMap_cons, List.drop_succ_cons] at *
    rw [List.drop_append, hf, List.drop_eq_nil_of_le (by rw [hf, Nat.succ_mul]; omega), show (k + 1) * s - s = k * s by rw [Nat.succ_mul]; omega, ih, List.nil_append]
theorem cellsL_append {α : Type} {f : α → List Value} (l m : List α) : cellsL f (l ++ m) = cellsL f l ++ cellsL f m := by simp [cellsL]
theorem cellsL_one {α : Type} {f : α → List Value} (hf : ∀ a, ∀ u ∈ f a, u.oneCell' = true) (l : List α) : ∀ u ∈ cellsL f l, u.oneCell' = true := by
  intro u hu
  simp only [cellsL, List.mem_flatMap] at hu
  obtain ⟨a, _, h⟩ := hu
  exact hf a u h
theorem Rd.elem {α : Type} {w : World} {lo hi s : Nat} {A : Option Addr} {f : α → List Value} {l : List α} (hf : ∀ a, (f a).length = s) (h : Rd w lo hi s A l.length (cellsL f l)) {k : Nat} (hk : k < l.length) :
    ∃ ad, A = some ad ∧ ∀ j u, (f l[k])[j]? = some u → w.cell? ((ad.add (k * s)).add j) = some u := by
  obtain ⟨ad, e, _, _, hc⟩ := h.at_ (by omega)
  refine ⟨ad, e, fun j u hu => ?_⟩
  have hj : j < s := by have := (List.getElem?_eq_some_iff.1 hu).1; rwa [hf] at this
  rw [add_of_add]
  exact hc _ u (by rw [cellsL_at hf l k j hk hj]; exact hu)
end Go.Proofs.YtggaghghclomkaaGreat
