/- Rows of flat records: what reads so, what a call owns; append. No condition. -/
import Derived.Test.YtggaghghclomkaaGreatDiskU
namespace Go.Proofs.YtggaghghclomkaaGreat
open Go.RowKit
section
variable {α : Type} {f : α → List Value} {e : TypeId} {s : Nat} {w w' : World} {lo hi : Nat} {v : Value} {l : List α} {T : Nat → Prop}
def RowR (f : α → List Value) (s : Nat) (w : World) (lo hi : Nat) (v : Value) (l : List α) : Prop := ∃ (A : Option Addr) (c : Nat), v = .slice A l.length c ∧ l.length ≤ c ∧ Rd w lo hi s A l.length (cellsL f l)
def RowO (f : α → List Value) (e : TypeId) (s : Nat) (w : World) (lo hi : Nat) (v : Value) (l : List α) : Prop := ∃ (A : Option Addr) (c : Nat), v = .slice A l.length c ∧ Own w lo hi e s A l.length c (cellsL f l)
theorem RowR.ch (h : RowR f s w lo hi v l) (c : Ch T w w') (hd : ∀ k, lo ≤ k → k < hi → ¬ T k) : RowR f s w' lo hi v l := by
  obtain ⟨A, cc, h1, h2, h3⟩ := h; exact ⟨A, cc, h1, h2, h3.ch c hd⟩
theorem RowR.ext (h : RowR f s w lo hi v l) (c : Ext w w') : RowR f s w' lo hi v l := h.ch c (fun _ _ _ t => t)
theorem RowR.wide {lo' hi' : Nat} (h : RowR f s w lo hi v l) (h1 : lo' ≤ lo) (h2 : hi ≤ hi') (h3 : hi' ≤ w.heap.size) : RowR f s w lo' hi' v l := by
  obtain ⟨A, cc, g1, g2, g3⟩ := h; exact ⟨A, cc, g1, g2, g3.wide h1 h2 h3⟩
theorem RowO.ch (h : RowO f e s w lo hi v l) (c : Ch T w w') (hd : ∀ k, lo ≤ k → k < hi → ¬ T k) : RowO f e s w' lo hi v l := by
  obtain ⟨A, cc, h1, h3⟩ := h; exact ⟨A, cc, h1, h3.ch c hd⟩
theorem RowO.ext (h : RowO f e s w lo hi v l) (c : Ext w w') : RowO f e s w' lo hi v l := h.ch c (fun _ _ _ t => t)
theorem RowO.rd (h : RowO f e s w lo hi v l) : RowR f s w lo hi v l := by obtain ⟨A, cc, h1, h3⟩ := h; exact ⟨A, cc, h1, h3.cap.1, h3.rd⟩
theorem RowO.hi_le (h : RowO f e s w lo hi v l) : hi ≤ w.heap.size := by obtain ⟨A, cc, h1, h3⟩ := h; exact h3.hi_le
theorem RowO.wide {lo' hi' : Nat} (h : RowO f e s w lo hi v l) (h1 : lo' ≤ lo) (h2 : hi ≤ hi') (h3 : hi' ≤ w.heap.size) : RowO f e s w lo' hi' v l := by
  obtain ⟨A, cc, g1, g3⟩ := h; exact ⟨A, cc, g1, g3.wide h1 h2 h3⟩
theorem RowR.one (h : RowR f s w lo hi v l) : v.oneCell' = true := by obtain ⟨_, _, rfl, _⟩ := h; rfl
theorem RowO.nil (w : World) (k : Nat) (h : k ≤ w.heap.size) : RowO f e s w k w.heap.size (.slice none 0 0) [] := ⟨none, 0, rfl, Own.nil _ _ _ _ _ (Nat.le_refl _)⟩
theorem RowO.new {w1 : World} {g n : Nat} (hs : l.length = n) (h : Own w1 g (g + 1) e s (some ⟨g, 0, none⟩) n n (cellsL f l)) (hg : g = w.heap.size) (hz : w1.heap.size = g + 1) : RowO f e s w1 w.heap.size w1.heap.size (.slice (some ⟨g, 0, none⟩) n n) l := by
  subst hs; exact ⟨_, _, rfl, h.wide (by omega) (by omega) (Nat.le_refl _)⟩
end
section
variable {α : Type} {f : α → List Value} {e : TypeId} {P : Program} {L : List Oper} {Q : Exit → Act → World → Prop} {n d : Nat} {l : Env} {w : World} {rest : List Oper} {ty : TypeId} {pos : String} {af : Array Edge} {v v2 : Value} {x y : Operand} {t : TypeId}
/-- Own records are appended to. -/
theorem TL_appendRow {lo hi lo2 hi2 size bytes : Nat} {z : Value} {s s2 : List α} (ht : P.underlying t = some (.slice e)) (hi0 : (P.info? e).map (fun i => (i.zero, i.size, i.bytes)) = some (some z, size, bytes)) (hzs : z.cells.size = size) (hpos : Nat.blt 0 size = true) (hby : Nat.ble bytes 1024 = true)
    (hone : ∀ a, ∀ u ∈ f a, u.oneCell' = true) (hx : ev l x = some v) (hy : ev l y = some v2) (ho : RowO f e size w lo hi v s) (hr : RowR f size w lo2 hi2 v2 s2)
    (hlo : lo ≤ w.heap.size) (hm : s.length + s2.length ≤ 1073741824) (hn : Nat.blt d n = true)
    (h : ∀ w' v', Ch (Iv lo hi) w w' → RowO f e size w' lo w'.heap.size v' (s ++ s2) → TL P L Q rest n ((d, v') :: l) w') :
    TL P L Q (⟨some d, .call { callee := .builtin .append, args := #[x, y], argTypes := #[t, t] }, ty, pos, af, none⟩ :: rest) n l w := by
  obtain ⟨A, c, rfl, ho⟩ := ho
  obtain ⟨A2, c2, rfl, _, hr⟩ := hr
  have hb : (s.length + s2.length) * bytes ≤ 140737488355328 := Nat.le_trans (Nat.mul_le_mul hm (Nat.le_of_ble_eq_true hby)) (by decide)
  refine TL_append ht hi0 hzs hpos hx hy ho hr (cellsL_one hone s2) hlo hb (by omega) hn ?_
  intro w1 hi1 A1 c1 hch h1 h2 h3 hown
  have hz := hch.size
  have hh := ho.hi_le
  exact h w1 _ hch ⟨A1, c1, by rw [List.length_append], (hown.wide (Nat.le_refl _) (by omega) (Nat.le_refl _)).cast (by rw [List.length_append]) (cellsL_append _ _).symm⟩
end
/-! links, turns, numbers -/
theorem LkC_one (d : LkD) : ∀ u ∈ LkC d, u.oneCell' = true := by intro u hu; simp [LkC] at hu; rcases hu with rfl | rfl <;> rfl
theorem TnC_one (d : TnD) : ∀ u ∈ TnC d, u.oneCell' = true := by intro u hu; simp [TnC] at hu; rcases hu with rfl | rfl | rfl | rfl <;> rfl
def InC (i : Int) : List Value := [I i]
theorem InC_len (i : Int) : (InC i).length = 1 := rfl
theorem InC_one (d : Int) : ∀ u ∈ InC d, u.oneCell' = true := by intro u hu; simp [InC] at hu; rcases hu with rfl; rfl
theorem RK.row {w : World} {lo hi : Nat} {v : Value} {l : List LinkP} (h : RK w lo hi v l) : RowR LkC 2 w lo hi v l := by
  obtain ⟨ds, A, c, h1, h2, h3, h4, _⟩ := h
  have : ds = l := by rw [← h1]; exact (List.map_id ds).symm
  subst this
  exact ⟨A, c, h2, h3, h4⟩
theorem RowR.rk {w : World} {lo hi : Nat} {v : Value} {l : List LkD} (h : RowR LkC 2 w lo hi v l) : RK w lo hi v l := by
  obtain ⟨A, c, h1, h2, h3⟩ := h
  exact ⟨l, A, c, List.map_id l, h1, h2, h3, fun _ _ => trivial⟩
theorem RT.row {w : World} {lo hi : Nat} {v : Value} {l : List TurnP} (h : RT w lo hi v l) : RowR TnC 4 w lo hi v l := by
  obtain ⟨ds, A, c, h1, h2, h3, h4, _⟩ := h
  have : ds = l := by rw [← h1]; exact (List.map_id ds).symm
  subst this
  exact ⟨A, c, h2, h3, h4⟩
theorem RowR.rt {w : World} {lo hi : Nat} {v : Value} {l : List TnD} (h : RowR TnC 4 w lo hi v l) : RT w lo hi v l := by
  obtain ⟨A, c, h1, h2, h3⟩ := h
  exact ⟨l, A, c, List.map_id l, h1, h2, h3, fun _ _ => trivial⟩
theorem fillK (d : LkD) : Instr.fill (fun i => some (i * 2, 2)) ((Array.range (1 * 2)).map ((Value.agg #[.string ByteArray.empty, .int .i64 0]).cells[· % (Value.agg #[.string ByteArray.empty, .int .i64 0]).cells.size]!)) [(0, .agg (LkC d).toArray)] = some (cellsL LkC [d]).toArray := by kernel_rfl
theorem fillT (d : TnD) : Instr.fill (fun i => some (i * 4, 4)) ((Array.range (1 * 4)).map ((Value.agg #[.int .i64 0, .string ByteArray.empty, .string ByteArray.empty, .int .i64 0]).cells[· % (Value.agg #[.int .i64 0, .string ByteArray.empty, .string ByteArray.empty, .int .i64 0]).cells.size]!)) [(0, .agg (TnC d).toArray)] = some (cellsL TnC [d]).toArray := by kernel_rfl
theorem fillI (i : Int) : Instr.fill (fun i => some (i * 1, 1)) ((Array.range (1 * 1)).map ((Value.int .i64 0).cells[· % (Value.int .i64 0).cells.size]!)) [(0, I i)] = some (cellsL InC [i]).toArray := by kernel_rfl
theorem lk_own {w1 : World} {g n : Nat} {d : LkD} {e : TypeId} {w : World} (h : Own w1 g (g + 1) e 2 (some ⟨g, 0, none⟩) n n (cellsL LkC [d])) (hn : n = 1) (hg : g = w.heap.size) (hz : w1.heap.size = g + 1) : RowO LkC e 2 w1 w.heap.size w1.heap.size (.slice (some ⟨g, 0, none⟩) n n) [d] := RowO.new (by rw [hn]; rfl) h hg hz
end Go.Proofs.YtggaghghclomkaaGreat
