/- Words for memory (what a slice reads as, what a call owns, what has changed) and one rule for each operation that reads or makes memory. No condition. -/
import Derived.Test.YtggaghghclomkaaGreatOps
namespace Go.Proofs.YtggaghghclomkaaGreat
open Go.RowKit

/-- Of the blocks that were there, only those of T may have changed. -/
structure Ch (T : Nat → Prop) (w w' : World) : Prop where
  os : w'.os = w.os
  tape : w'.tape = w.tape
  output : w'.output = w.output
  size : w.heap.size ≤ w'.heap.size
  block : ∀ k, k < w.heap.size → ¬ T k → w'.heap[k]? = w.heap[k]?
def Iv (lo hi : Nat) : Nat → Prop := fun k => lo ≤ k ∧ k < hi
def No : Nat → Prop := fun _ => False
/-- Nothing that was there has changed. -/
abbrev Ext (w w' : World) : Prop := Ch No w w'

theorem Ch.refl (T : Nat → Prop) (w : World) : Ch T w w := ⟨rfl, rfl, rfl, Nat.le_refl _, fun _ _ _ => rfl⟩
theorem Ch.mono {T T' : Nat → Prop} {w w' : World} (h : Ch T w w') (hT : ∀ k, T k → T' k) : Ch T' w w' := ⟨h.os, h.tape, h.output, h.size, fun k hk hn => h.block k hk fun t => hn (hT k t)⟩
theorem Ch.trans {T T1 T2 : Nat → Prop} {a b c : World} (h : Ch T1 a b) (k : Ch T2 b c) (h1 : ∀ k, k < a.heap.size → T1 k → T k) (h2 : ∀ k, k < a.heap.size → T2 k → T k) : Ch T a c :=
  ⟨k.os.trans h.os, k.tape.trans h.tape, k.output.trans h.output, Nat.le_trans h.size k.size, fun i hi hn =>
    (k.block i (Nat.lt_of_lt_of_le hi h.size) fun t => hn (h2 i hi t)).trans (h.block i hi fun t => hn (h1 i hi t))⟩
theorem Ch.then {T : Nat → Prop} {a b c : World} (h : Ch T a b) (k : Ch T b c) : Ch T a c := h.trans k (fun _ _ t => t) (fun _ _ t => t)
theorem Ch.ext {T : Nat → Prop} {a b c : World} (h : Ch T a b) (k : Ext b c) : Ch T a c := h.trans k (fun _ _ t => t) (fun _ _ t => t.elim)
theorem Ext.then_iv {a b c : World} {lo hi : Nat} (h : Ext a b) (k : Ch (Iv lo hi) b c) (hl : a.heap.size ≤ lo) : Ext a c :=
  h.trans k (fun _ _ t => t) (fun i hi t => absurd t.1 (by omega))
theorem Ch.below {w w' : World} (h : Ext w w') : Below w.heap.size w w' := ⟨h.os, h.tape, h.output, h.size, fun k hk => h.block k hk (fun t => t)⟩
theorem Ch.of_below {w w' : World} (h : Below w.heap.size w w') : Ext w w' := ⟨h.os, h.tape, h.output, h.size, fun k hk _ => h.block k hk⟩
theorem Ch.of_grown {w w' : World} {row : Option Nat} {T : Nat → Prop} (h : w.grownBy w' row) (hT : ∀ k, row = some k → T k) : Ch T w w' :=
  ⟨h.os, h.tape, h.output, h.size, fun k hk hn => h.block k hk (fun e => hn (hT k e.symm))⟩
theorem Ch.cell {T : Nat → Prop} {w w' : World} (h : Ch T w w') {p : Addr} {v : Value} (hc : w.cell? p = some v) (hn : ¬ T p.block) : w'.cell? p = some v :=
  (World.cell?_of_block (w := w) (h.block p.block (block_lt_of_cell hc) hn)).trans hc
theorem Ext.cell {w w' : World} (h : Ext w w') {p : Addr} {v : Value} (hc : w.cell? p = some v) : w'.cell? p = some v := Ch.cell h hc (fun t => t)
theorem Ch.drew {T : Nat → Prop} {a w : World} (h : Ch T a w) : Ch T a { w with drawn := w.drawn + 1 } := ⟨h.os, h.tape, h.output, h.size, h.block⟩
theorem Ch.alloc {T : Nat → Prop} {a w : World} (h : Ch T a w) (o : Obj) : Ch T a (w.alloc o) :=
  ⟨h.os, h.tape, h.output, by have := h.size; simp; omega, fun k hk hn => (Below.heap_alloc _ _ _ (Nat.lt_of_lt_of_le hk h.size)).trans (h.block k hk hn)⟩

theorem block_of_add (a : Addr) (n : Nat) : (a.add n).block = a.block := by unfold Addr.add; split <;> rfl
theorem add_of_add (a : Addr) (i j : Nat) : (a.add i).add j = a.add (i + j) := by
  unfold Addr.add
  by_cases hi : i = 0 <;> by_cases hj : j = 0 <;> simp [hi, hj, Nat.add_assoc]

/-- The slice of address A and n elements (size cells each) reads as the cells xs; it lies in a block from lo to below hi. -/
structure Rd (w : World) (lo hi size : Nat) (A : Option Addr) (n : Nat) (xs : List Value) : Prop where
  len : xs.length = n * size
  hi_le : hi ≤ w.heap.size
  at_ : 0 < n → ∃ ad, A = some ad ∧ lo ≤ ad.block ∧ ad.block < hi ∧ ∀ j u, xs[j]? = some u → w.cell? (ad.add j) = some u
section
variable {w w' : World} {lo hi size n : Nat} {A : Option Addr} {xs : List Value} {T : Nat → Prop}
theorem Rd.ch (h : Rd w lo hi size A n xs) (c : Ch T w w') (hd : ∀ k, lo ≤ k → k < hi → ¬ T k) : Rd w' lo hi size A n xs :=
  ⟨h.len, Nat.le_trans h.hi_le c.size, fun hn => by
    obtain ⟨ad, e, h1, h2, hc⟩ := h.at_ hn
    exact ⟨ad, e, h1, h2, fun j u hu => c.cell (hc j u hu) (by rw [block_of_add]; exact hd _ h1 h2)⟩⟩
theorem Rd.ext (h : Rd w lo hi size A n xs) (c : Ext w w') : Rd w' lo hi size A n xs := h.ch c (fun _ _ _ t => t)
theorem Rd.wide {lo' hi' : Nat} (h : Rd w lo hi size A n xs) (h1 : lo' ≤ lo) (h2 : hi ≤ hi') (h3 : hi' ≤ w.heap.size) : Rd w lo' hi' size A n xs :=
  ⟨h.len, h3, fun hn => by
    obtain ⟨ad, e, h4, h5, hc⟩ := h.at_ hn
    exact ⟨ad, e, by omega, by omega, hc⟩⟩
theorem Rd.none_ (w : World) (lo size : Nat) (A : Option Addr) : Rd w lo 0 size A 0 [] := ⟨by simp, Nat.zero_le _, fun h => absurd h (by omega)⟩
/-- Element k of a slice of one-cell elements. -/
theorem Rd.get {k : Nat} (h : Rd w lo hi 1 A n xs) (hk : k < n) : ∃ ad, A = some ad ∧ w.cell? (ad.add k) = some (xs.getD k undef) := by
  obtain ⟨ad, e, _, _, hc⟩ := h.at_ (by omega)
  have hl : k < xs.length := by have := h.len; omega
  exact ⟨ad, e, hc k _ (by rw [List.getD_eq_getElem?_getD, List.getElem?_eq_getElem hl]; rfl)⟩
/-- A row that is filled from its head. -/
def fillTo (xs : List Value) (k : Nat) (z : Value) : List Value := xs.take k ++ List.replicate (xs.length - k) z
theorem fillTo_zero (xs : List Value) (z : Value) : fillTo xs 0 z = List.replicate xs.length z := by simp [fillTo]
theorem fillTo_all (xs : List Value) (z : Value) : fillTo xs xs.length z = xs := by simp [fillTo]
theorem fillTo_set (xs : List Value) (k : Nat) (z : Value) (h : k < xs.length) : (fillTo xs k z).set k (xs.getD k undef) = fillTo xs (k + 1) z := by
  unfold fillTo
  rw [List.set_append_right _ _ (by simp; omega), List.length_take, Nat.min_eq_left (by omega), Nat.sub_self]
  rw [show xs.length - k = (xs.length - (k + 1)) + 1 by omega, List.replicate_succ, List.set_cons_zero]
  rw [List.take_succ_eq_append_getElem h, List.append_assoc]
  simp only [List.getD_eq_getElem?_getD, List.getElem?_eq_getElem h, Option.getD_some, List.singleton_append]
/-- The row xs with its first k cells taken from ys. -/
def overTo (ys xs : List Value) (k : Nat) : List Value := ys.take k ++ xs.drop k
theorem overTo_zero (ys xs : List Value) : overTo ys xs 0 = xs := by simp [overTo]
theorem overTo_all (ys xs : List Value) (h : ys.length = xs.length) : overTo ys xs xs.length = ys := by
  unfold overTo; rw [List.drop_length, ← h, List.take_length, List.append_nil]
theorem overTo_set (ys xs : List Value) (k : Nat) (h : k < xs.length) (hl : ys.length = xs.length) : (overTo ys xs k).set k (ys.getD k undef) = overTo ys xs (k + 1) := by
  unfold overTo
  rw [List.set_append_right _ _ (by simp; omega), List.length_take, Nat.min_eq_left (by omega), Nat.sub_self]
  rw [List.drop_eq_getElem_cons h, List.set_cons_zero, List.take_succ_eq_append_getElem (show k < ys.length by omega), List.append_assoc]
  simp only [List.getD_eq_getElem?_getD, List.getElem?_eq_getElem (show k < ys.length by omega), Option.getD_some, List.singleton_append]
def cutA (A : Option Addr) (c lo size : Nat) : Option Addr := if c = lo then A else A.map (·.add (lo * size))
theorem Rd.cut (h : Rd w lo hi size A n xs) {a b c : Nat} (hab : a ≤ b) (hb : b ≤ n) (hc : n ≤ c) : Rd w lo hi size (cutA A c a size) (b - a) ((xs.take (b * size)).drop (a * size)) := by
  have hl := h.len
  have h1 : b * size ≤ n * size := Nat.mul_le_mul_right _ hb
  refine ⟨by rw [List.length_drop, List.length_take, hl, Nat.min_eq_left h1, Nat.sub_mul], h.hi_le, fun hn => ?_⟩
  obtain ⟨ad, rfl, h2, h3, hcell⟩ := h.at_ (by omega)
  unfold cutA
  rw [if_neg (by omega)]
  refine ⟨ad.add (a * size), rfl, by rw [block_of_add]; exact h2, by rw [block_of_add]; exact h3, fun j u hu => ?_⟩
  rw [add_of_add]
  rw [List.getElem?_drop, List.getElem?_take] at hu
  split at hu
  · exact hcell _ u hu
  · cases hu
end

theorem cast_slice {A : Option Addr} {m n c : Nat} (h : m = n) : Value.slice A m c = Value.slice A n c := by rw [h]
/-- A block known whole, none of it frozen. -/
def Blk (w : World) (g : Nat) (t : TypeId) (cs : List Value) : Prop := w.heap[g]? = some (.cells cs.toArray t (0, 0))
section
variable {w w' : World} {g : Nat} {t : TypeId} {cs : List Value} {T : Nat → Prop}
theorem Blk.lt (h : Blk w g t cs) : g < w.heap.size := by
  rcases Nat.lt_or_ge g w.heap.size with hlt | hge
  · exact hlt
  · unfold Blk at h; rw [Array.getElem?_eq_none hge] at h; cases h
theorem Blk.cell (h : Blk w g t cs) (i : Nat) : w.cell? ⟨g, i, none⟩ = cs[i]? := by
  rw [cell_of_row w g i cs.toArray t (0, 0) h]; simp
theorem Blk.ld {off : Nat} {v : Value} (h : Blk w g t cs) (hv : nthV cs off = some v) : w.cell? ((⟨g, 0, none⟩ : Addr).add off) = some v := by
  have : (⟨g, 0, none⟩ : Addr).add off = ⟨g, off, none⟩ := by unfold Addr.add; split <;> simp_all
  rw [this, h.cell, ← nthV_eq, hv]
theorem Blk.frozen (h : Blk w g t cs) (i : Nat) : w.frozen? ⟨g, i, none⟩ = false := frozen_of_row w g i cs.toArray t h
theorem Blk.ch (h : Blk w g t cs) (c : Ch T w w') (hn : ¬ T g) : Blk w' g t cs := (c.block g h.lt hn).trans h
theorem Blk.ext (h : Blk w g t cs) (c : Ext w w') : Blk w' g t cs := h.ch c (fun t => t)
end

/-- The call's own row: nil, or at the head of a block g, lo ≤ g < hi. -/
structure Own (w : World) (lo hi : Nat) (e : TypeId) (size : Nat) (A : Option Addr) (n c : Nat) (xs : List Value) : Prop where
  hi_le : hi ≤ w.heap.size
  row : w.ownsRow lo e size (.slice A n c) n xs
  lt : ∀ ad, A = some ad → ad.block < hi
section
variable {w w' : World} {lo hi size n c : Nat} {e : TypeId} {A : Option Addr} {xs : List Value} {T : Nat → Prop}
theorem Own.nil (w : World) (lo hi : Nat) (e : TypeId) (size : Nat) (h : hi ≤ w.heap.size) : Own w lo hi e size none 0 0 [] := ⟨h, World.ownsRow_nil w lo e size, fun ad h => by cases h⟩
theorem Own.len (h : Own w lo hi e size A n c xs) : xs.length = n * size := h.row.1
theorem Own.cap (h : Own w lo hi e size A n c xs) : n ≤ c ∧ c ≤ maxLen := by
  rcases h.row.2 with ⟨h1, h2⟩ | ⟨g, cap, cur, h1, _, _, h2, h3, _⟩
  · injection h1 with _ _ h3; omega
  · injection h1 with _ _ h4; subst h4; exact ⟨h2, h3⟩
theorem Own.ge (h : Own w lo hi e size A n c xs) : ∀ ad, A = some ad → lo ≤ ad.block := by
  intro ad ha
  rcases h.row.2 with ⟨h1, h2⟩ | ⟨g, cap, cur, h1, h2, _⟩
  · injection h1 with h3; rw [ha] at h3; cases h3
  · injection h1 with h3; rw [ha] at h3; injection h3 with h3; rw [h3]; exact h2
theorem Own.head (h : Own w lo hi e size A n c xs) : A = none ∨ ∃ g, A = some ⟨g, 0, none⟩ ∧ lo ≤ g ∧ g < hi := by
  rcases h.row.2 with ⟨h1, _⟩ | ⟨g, cap, cur, h1, h2, _⟩
  · injection h1 with h3; exact .inl h3
  · injection h1 with h3; exact .inr ⟨g, h3, h2, h.lt ⟨g, 0, none⟩ h3⟩
theorem Own.ch (h : Own w lo hi e size A n c xs) (k : Ch T w w') (hd : ∀ k, lo ≤ k → k < hi → ¬ T k) : Own w' lo hi e size A n c xs := by
  refine ⟨Nat.le_trans h.hi_le k.size, ⟨h.row.1, ?_⟩, h.lt⟩
  rcases h.row.2 with hn | ⟨g, cap, cur, h1, h2, h3, rest⟩
  · exact .inl hn
  · have hg : g < hi := by injection h1 with h4; exact h.lt ⟨g, 0, none⟩ h4
    exact .inr ⟨g, cap, cur, h1, h2, (k.block g (Nat.lt_of_lt_of_le hg h.hi_le) (hd g h2 hg)).trans h3, rest⟩
theorem Own.ext (h : Own w lo hi e size A n c xs) (k : Ext w w') : Own w' lo hi e size A n c xs := h.ch k (fun _ _ _ t => t)
theorem Own.wide {lo' hi' : Nat} (h : Own w lo hi e size A n c xs) (h1 : lo' ≤ lo) (h2 : hi ≤ hi') (h3 : hi' ≤ w.heap.size) : Own w lo' hi' e size A n c xs := by
  refine ⟨h3, ⟨h.row.1, ?_⟩, fun ad ha => by have := h.lt ad ha; omega⟩
  rcases h.row.2 with hn | ⟨g, cap, cur, h4, h5, rest⟩
  · exact .inl hn
  · exact .inr ⟨g, cap, cur, h4, by omega, rest⟩
theorem Own.cast {n' : Nat} {xs' : List Value} (h : Own w lo hi e size A n c xs) (hn : n = n') (hx : xs = xs') : Own w lo hi e size A n' c xs' := by subst hn hx; exact h
theorem Own.rd (h : Own w lo hi e size A n c xs) : Rd w lo hi size A n xs := by
  refine ⟨h.row.1, h.hi_le, fun hn => ?_⟩
  rcases h.row.2 with ⟨_, h0⟩ | ⟨g, cap, cur, h1, h2, h3, rest⟩
  · omega
  · injection h1 with h4
    subst h4
    refine ⟨_, rfl, h2, h.lt _ rfl, ?_⟩
    exact h.row.cells (g := g) rfl
end

/-! ### Operations -/
section
variable {P : Program} {C : World → Prop} {L : List Oper} {Q : Exit → Act → World → Prop} {n d : Nat} {l : Env} {w : World} {rest : List Oper} {dd : Option Nat} {ty : TypeId} {pos : String} {af : Array Edge} {v : Value} {x y i : Operand} {t e : TypeId}

/-- The address of an element. -/
theorem Jar {ad : Addr} {m c : Nat} {k : IntKind} {a : Int} {size : Nat} (ht : P.underlying t = some (.slice e)) (hz : (P.info? e).map (·.size) = some size) (hx : ev l x = some (.slice (some ad) m c)) (hi : ev l i = some (.int k a)) (h : 0 ≤ a ∧ a < m) :
    Pu P C n l ⟨dd, .indexAddr t x i, ty, pos, af, none⟩ (.pointer (some (ad.add (a.toNat * size)))) := fun s hs w _ => by
  cases hq : P.info? e with
  | none => simp [hq] at hz
  | some inf =>
    have : inf.size = size := by simpa [hq] using hz
    simp [execOp, hs.eval hx, hs.eval hi, Instr.indexAt, asIntOf, run_underlying ht, h.1, h.2, sizeOf, typeInfo, hq, this]
theorem Jag {ad : Addr} {m c : Nat} {k : IntKind} {a : Int} (ht : P.underlying t = some (.slice e)) (hz : (P.info? e).map (·.size) = some 1) (hx : ev l x = some (.slice (some ad) m c)) (hi : ev l i = some (.int k a)) (h : 0 ≤ a ∧ a < m) :
    Pu P C n l ⟨dd, .indexAddr t x i, ty, pos, af, none⟩ (.pointer (some (ad.add a.toNat))) := by
  have := Jar (C := C) (n := n) (dd := dd) (ty := ty) (pos := pos) (af := af) ht hz hx hi h
  rwa [Nat.mul_one] at this
theorem Pu_indexArr {ad : Addr} {k : IntKind} {a : Int} {len : Nat} (ht : P.underlying t = some (.array len e)) (hz : (P.info? e).map (·.size) = some 1) (hx : ev l x = some (.pointer (some ad))) (hi : ev l i = some (.int k a)) (h : 0 ≤ a ∧ a < len) :
    Pu P C n l ⟨dd, .indexAddr t x i, ty, pos, af, none⟩ (.pointer (some (ad.add a.toNat))) := fun s hs w _ => by
  cases hq : P.info? e with
  | none => simp [hq] at hz
  | some inf =>
    have : inf.size = 1 := by simpa [hq] using hz
    simp [execOp, hs.eval hx, hs.eval hi, Instr.indexAt, Instr.sureAddr, asIntOf, run_underlying ht, h.1, h.2, sizeOf, typeInfo, hq, this]
theorem add0 (g k : Nat) : (⟨g, 0, none⟩ : Addr).add k = ⟨g, k, none⟩ := by unfold Addr.add; split <;> simp_all
theorem Pu_fieldAddr {ad : Addr} {fs : Array Field} {j : Nat} {fd : Field} {off size : Nat} (ht : P.underlying t = some (.struct fs)) (hf : fs[j]? = some fd) (ho : fd.offset = off) (hz : (P.info? fd.type).map (·.size) = some (size + 1)) (hx : ev l x = some (.pointer (some ad))) :
    Pu P C n l ⟨dd, .fieldAddr t x j, ty, pos, af, none⟩ (.pointer (some (ad.add off))) := fun s hs w _ => by
  subst ho
  cases hq : P.info? fd.type with
  | none => simp [hq] at hz
  | some inf =>
    have : inf.size = size + 1 := by simpa [hq] using hz
    simp [execOp, hs.eval hx, Instr.fieldAt, Instr.sureAddr, run_underlying ht, hf, fieldPlace, sizeOf, typeInfo, hq, this]
/-- Place and type of a field. -/
def fldOT : List Field → Nat → Option (Nat × TypeId)
  | [], _ => none
  | ⟨_, ty, off, _, _, _, _⟩ :: _, 0 => some (off, ty)
  | _ :: r, j + 1 => fldOT r j
theorem fldOT_eq : ∀ (l : List Field) (j off : Nat) (tf : TypeId), fldOT l j = some (off, tf) → ∃ fd, l[j]? = some fd ∧ fd.offset = off ∧ fd.type = tf
  | [], _, _, _, h => by simp [fldOT] at h
  | ⟨a, ty, o, b, c, d, e⟩ :: r, 0, off, tf, h => by
    simp [fldOT] at h
    exact ⟨_, rfl, h.1, h.2⟩
  | f :: r, j + 1, off, tf, h => by
    obtain ⟨fd, h1, h2⟩ := fldOT_eq r j off tf (by simpa [fldOT] using h)
    exact ⟨fd, by simpa using h1, h2⟩
theorem Jbl {ad : Addr} {fs : Array Field} {j : Nat} {off size : Nat} {tf : TypeId} (ht : P.underlying t = some (.struct fs)) (hf : fldOT fs.toList j = some (off, tf)) (hz : (P.info? tf).map (·.size) = some (size + 1)) (hx : ev l x = some (.pointer (some ad))) :
    Pu P C n l ⟨dd, .fieldAddr t x j, ty, pos, af, none⟩ (.pointer (some (ad.add off))) := by
  obtain ⟨fd, h1, h2, h3⟩ := fldOT_eq _ _ _ _ hf
  subst h3
  exact Pu_fieldAddr ht (by simpa using h1) h2 hz hx
/-- What is no aggregate is loaded as one cell. -/
def flat (P : Program) (t : TypeId) : Bool := match P.underlying t with | some (.struct _) | some (.array _ _) => false | some _ => true | none => false
theorem run_isAgg_flat (h : flat P t = true) (w : World) : (isAgg t).run P w = .ok false w := by
  unfold flat at h
  cases hq : P.underlying t with
  | none => simp [hq] at h
  | some d => cases d <;> simp_all [isAgg, run_underlying hq]
theorem Pu_load {ad : Addr} (ht : flat P t = true) (hx : ev l x = some (.pointer (some ad))) (hc : ∀ w, C w → w.cell? ad = some v) :
    Pu P C n l ⟨dd, .load t x, ty, pos, af, none⟩ v := fun s hs w hw => by
  simp [execOp, hs.eval hx, Instr.loadAt, Instr.sureAddr, loadVar, run_isAgg_flat ht, hc w hw]
theorem Pu_loadAgg {ad : Addr} {cs : List Value} {ds : TypeDesc} (hu : P.underlying t = some ds) (hd : (match ds with | .struct _ | .array _ _ => true | _ => false) = true) (hz : (P.info? t).map (·.size) = some cs.length)
    (hx : ev l x = some (.pointer (some ad))) (hc : ∀ w, C w → ∀ j u, cs[j]? = some u → w.cell? (ad.add j) = some u) :
    Pu P C n l ⟨dd, .load t x, ty, pos, af, none⟩ (.agg cs.toArray) := fun s hs w hw => by
  have hl : (loadCells ad cs.length).run P w = .ok cs.toArray w := run_loadCells_list (P := P) w ad cs (hc w hw)
  cases hq : P.info? t with
  | none => simp [hq] at hz
  | some inf =>
    have h1 : inf.size = cs.length := by simpa [hq] using hz
    have hagg : (isAgg t).run P w = .ok true w := by
      unfold isAgg
      rw [Sem.run_bind, run_underlying hu w]
      cases ds <;> simp_all
    simp [execOp, hs.eval hx, Instr.loadAt, Instr.sureAddr, loadVar, hagg, sizeOf, typeInfo, hq, h1, hl]
theorem Pu_field {cs : List Value} {fs : Array Field} {j : Nat} {fd : Field} (ht : P.underlying t = some (.struct fs)) (hf : fs[j]? = some fd) (hfl : flat P fd.type = true) (hx : ev l x = some (.agg cs.toArray)) (hv : nthV cs fd.offset = some v) :
    Pu P C n l ⟨dd, .field t x j, ty, pos, af, none⟩ v := fun s hs w _ => by
  rw [nthV_eq] at hv
  simp [execOp, hs.eval hx, Instr.field, run_underlying ht, hf, part, run_isAgg_flat hfl, asAgg, hv]
def evP (l : Env) : List (Nat × Operand) → Option (List (Nat × Value))
  | [] => some []
  | (j, x) :: r => match ev l x with
    | some v => match evP l r with
      | some vs => some ((j, v) :: vs)
      | none => none
    | none => none
theorem evP_eq {a : Act} (ha : Holds n l a) : ∀ {ps : List (Nat × Operand)} {vs : List (Nat × Value)}, evP l ps = some vs → ps.map (fun p => (p.1, a.eval p.2)) = vs
  | [], vs, hx => by simpa [evP] using hx
  | (j, x) :: r, vs, hx => by
    simp only [evP] at hx
    cases h1 : ev l x with
    | none => simp [h1] at hx
    | some v =>
      cases h2 : evP l r with
      | none => simp [h1, h2] at hx
      | some us =>
        simp [h1, h2] at hx
        subst hx
        simp [ha.eval h1]
        simpa using evP_eq ha h2
theorem Pu_build {ps : List (Nat × Operand)} {vs : List (Nat × Value)} {cs : List Value} (hx : evP l ps = some vs) (hb : P.built t vs = some cs.toArray) :
    Pu P C n l ⟨dd, .build t ps.toArray, ty, pos, af, none⟩ (.agg cs.toArray) := fun s hs w _ => by
  have h1 : (ps.toArray.map fun p => (p.1, s.eval p.2)).toList = vs := by rw [← evP_eq hs hx]; simp
  have h2 := run_build (P := P) w t (ps.toArray.map fun p => (p.1, s.eval p.2)) cs.toArray (by rw [h1]; exact hb)
  simp only [execOp, Sem.run_bind]
  rw [show (Array.map (fun x => match x with | (i, x) => (i, s.eval x)) ps.toArray) = ps.toArray.map fun p => (p.1, s.eval p.2) from rfl, h2]
  rfl
theorem Jba {ad : Addr} (hx : ev l x = some (.pointer (some ad))) : Pu P C n l ⟨dd, .nilCheck x, ty, pos, af, none⟩ (.pointer (some ad)) := fun s hs w _ => by
  simp [execOp, hs.eval hx]

/-! slices of slices -/
theorem Jbc {A : Option Addr} {m c size : Nat} {a b : Int} {hi0 : Operand} (ht : P.underlying t = some (.slice e)) (hz : (P.info? e).map (·.size) = some size) (hx : ev l x = some (.slice A m c)) (hl : ev l i = some (I a)) (hh : ev l hi0 = some (I b))
    (h : 0 ≤ a ∧ a ≤ b ∧ b ≤ c) : Pu P C n l ⟨dd, .slice t x (some i) (some hi0) none, ty, pos, af, none⟩ (.slice (cutA A c a.toNat size) (b.toNat - a.toNat) (c - a.toNat)) := fun s hs w _ => by
  cases hq : P.info? e with
  | none => simp [hq] at hz
  | some inf =>
    have h1 : inf.size = size := by simpa [hq] using hz
    have h2 : a ≤ max b 0 := by omega
    simp only [I] at *
    simp [execOp, hs.eval hx, hs.eval hl, hs.eval hh, Instr.sliceAt, Instr.slice, Instr.sliceBounds, Instr.sliceBound, asIntOf, run_underlying ht, show 0 ≤ b by omega, h.1, h.2.2, h2, sizeOf, typeInfo, hq, h1, cutA]
theorem Jbd {A : Option Addr} {m c size : Nat} {a : Int} (ht : P.underlying t = some (.slice e)) (hz : (P.info? e).map (·.size) = some size) (hx : ev l x = some (.slice A m c)) (hl : ev l i = some (I a))
    (h : 0 ≤ a ∧ a ≤ m) : Pu P C n l ⟨dd, .slice t x (some i) none none, ty, pos, af, none⟩ (.slice (cutA A c a.toNat size) (m - a.toNat) (c - a.toNat)) := fun s hs w _ => by
  cases hq : P.info? e with
  | none => simp [hq] at hz
  | some inf =>
    have h1 : inf.size = size := by simpa [hq] using hz
    simp only [I] at *
    simp [execOp, hs.eval hx, hs.eval hl, Instr.sliceAt, Instr.slice, Instr.sliceBounds, Instr.sliceBound, asIntOf, run_underlying ht, h.1, h.2, sizeOf, typeInfo, hq, h1, cutA]
theorem Jbe {A : Option Addr} {m c size : Nat} {b : Int} {hi0 : Operand} (ht : P.underlying t = some (.slice e)) (hz : (P.info? e).map (·.size) = some size) (hx : ev l x = some (.slice A m c)) (hh : ev l hi0 = some (I b))
    (h : 0 ≤ b ∧ b ≤ c) : Pu P C n l ⟨dd, .slice t x none (some hi0) none, ty, pos, af, none⟩ (.slice (cutA A c 0 size) b.toNat c) := fun s hs w _ => by
  cases hq : P.info? e with
  | none => simp [hq] at hz
  | some inf =>
    have h1 : inf.size = size := by simpa [hq] using hz
    simp only [I] at *
    simp [execOp, hs.eval hx, hs.eval hh, Instr.sliceAt, Instr.slice, Instr.sliceBounds, Instr.sliceBound, asIntOf, run_underlying ht, h.1, h.2, sizeOf, typeInfo, hq, cutA]
end
end Go.Proofs.YtggaghghclomkaaGreat
