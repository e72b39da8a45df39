/- Texts of this proof laid together, in the order in which they build; what each proves stands ahead of it. No condition but those told there. -/
import Derived.Test.YtggaghghclomkaaGreatQFEOFT25c
import Derived.Shelf.GgSortFunc.RowK
import Derived.Sort.OwnSorted
import Derived.Sort.KeysCollected
import Derived.Shelf.GgSortFunc.SmallK
import Derived.Shelf.GgSortFunc.Tiny
import Derived.Test.YtggaghghclomkaaGreatProg
import Derived.Lib.Bytealg

/- Rows of flat records: what reads so, what a call owns; append. No condition. -/
namespace Go.Proofs.YtggaghghclomkaaGreat
open Go.RowKit
section
variable {α : Type} {f : α → List Value} {e : TypeId} {s : Nat} {w w' : World} {lo hi : Nat} {v : Value} {l : List α} {T : Nat → Prop}
def RowR (f : α → List Value) (s : Nat) (w : World) (lo hi : Nat) (v : Value) (l : List α) : Prop := ∃ (A : Option Addr) (c : Nat), v = .slice A l.length c ∧ l.length ≤ c ∧ Rd w lo hi s A l.length (cellsL f l)
def RowO (f : α → List Value) (e : TypeId) (s : Nat) (w : World) (lo hi : Nat) (v : Value) (l : List α) : Prop := ∃ (A : Option Addr) (c : Nat), v = .slice A l.length c ∧ Own w lo hi e s A l.length c (cellsL f l)
theorem RowR.ch (h : RowR f s w lo hi v l) (c : Ch T w w') (hd : ∀ k, lo ≤ k → k < hi → ¬ T k) : RowR f s w' lo hi v l := by
  obtain ⟨A, cc, h1, h2, h3⟩ := h; exact ⟨A, cc, h1, h2, h3.ch c hd⟩
theorem RowR.ext (h : RowR f s w lo hi v l) (c : Ext w w') : RowR f s w' lo hi v l := h.ch c (fun _ _ _ t => t)
theorem RowR.wide {lo' hi' : Nat} (h : RowR f s w lo hi v l) (h1 : lo' ≤ lo) (h2 : hi ≤ hi') (h3 : hi' ≤ w.heap.size) : RowR f s w lo' hi' v l := by
  obtain ⟨A, cc, g1, g2, g3⟩ := h; exact ⟨A, cc, g1, g2, g3.wide h1 h2 h3⟩
theorem RowO.ch (h : RowO f e s w lo hi v l) (c : Ch T w w') (hd : ∀ k, lo ≤ k → k < hi → ¬ T k) : RowO f e s w' lo hi v l := by
  obtain ⟨A, cc, h1, h3⟩ := h; exact ⟨A, cc, h1, h3.ch c hd⟩
theorem RowO.ext (h : RowO f e s w lo hi v l) (c : Ext w w') : RowO f e s w' lo hi v l := h.ch c (fun _ _ _ t => t)
theorem RowO.rd (h : RowO f e s w lo hi v l) : RowR f s w lo hi v l := by obtain ⟨A, cc, h1, h3⟩ := h; exact ⟨A, cc, h1, h3.cap.1, h3.rd⟩
theorem RowO.hi_le (h : RowO f e s w lo hi v l) : hi ≤ w.heap.size := by obtain ⟨A, cc, h1, h3⟩ := h; exact h3.hi_le
theorem RowO.wide {lo' hi' : Nat} (h : RowO f e s w lo hi v l) (h1 : lo' ≤ lo) (h2 : hi ≤ hi') (h3 : hi' ≤ w.heap.size) : RowO f e s w lo' hi' v l := by
  obtain ⟨A, cc, g1, g3⟩ := h; exact ⟨A, cc, g1, g3.wide h1 h2 h3⟩
theorem RowR.one (h : RowR f s w lo hi v l) : v.oneCell' = true := by obtain ⟨_, _, rfl, _⟩ := h; rfl
theorem RowO.nil (w : World) (k : Nat) (_h : k ≤ w.heap.size) : RowO f e s w k w.heap.size (.slice none 0 0) [] := ⟨none, 0, rfl, Own.nil _ _ _ _ _ (Nat.le_refl _)⟩
theorem RowO.new {w1 : World} {g n : Nat} (hs : l.length = n) (h : Own w1 g (g + 1) e s (some ⟨g, 0, none⟩) n n (cellsL f l)) (hg : g = w.heap.size) (hz : w1.heap.size = g + 1) : RowO f e s w1 w.heap.size w1.heap.size (.slice (some ⟨g, 0, none⟩) n n) l := by
  subst hs; exact ⟨_, _, rfl, h.wide (by omega) (by omega) (Nat.le_refl _)⟩
end
section
variable {α : Type} {f : α → List Value} {e : TypeId} {P : Program} {L : List Oper} {Q : Exit → Act → World → Prop} {n d : Nat} {l : Env} {w : World} {rest : List Oper} {ty : TypeId} {pos : String} {af : Array Edge} {v v2 : Value} {x y : Operand} {t : TypeId}
/-- Own records are appended to. -/
theorem TL_appendRow {lo hi lo2 hi2 size bytes : Nat} {z : Value} {s s2 : List α} (ht : P.underlying t = some (.slice e)) (hi0 : (P.info? e).map (fun i => (i.zero, i.size, i.bytes)) = some (some z, size, bytes)) (hzs : z.cells.size = size) (hpos : Nat.blt 0 size = true) (hby : Nat.ble bytes 1024 = true)
    (hone : ∀ a, ∀ u ∈ f a, u.oneCell' = true) (hx : ev l x = some v) (hy : ev l y = some v2) (ho : RowO f e size w lo hi v s) (hr : RowR f size w lo2 hi2 v2 s2)
    (hlo : lo ≤ w.heap.size) (hm : s.length + s2.length ≤ 1073741824) (hn : Nat.blt d n = true)
    (h : ∀ w' v', Ch (Iv lo hi) w w' → RowO f e size w' lo w'.heap.size v' (s ++ s2) → TL P L Q rest n ((d, v') :: l) w') :
    TL P L Q (⟨some d, .call { callee := .builtin .append, args := #[x, y], argTypes := #[t, t] }, ty, pos, af, none⟩ :: rest) n l w := by
  obtain ⟨A, c, rfl, ho⟩ := ho
  obtain ⟨A2, c2, rfl, _, hr⟩ := hr
  have hb : (s.length + s2.length) * bytes ≤ 140737488355328 := Nat.le_trans (Nat.mul_le_mul hm (Nat.le_of_ble_eq_true hby)) (by decide)
  refine TL_append ht hi0 hzs hpos hx hy ho hr (cellsL_one hone s2) hlo hb (by omega) hn ?_
  intro w1 hi1 A1 c1 hch h1 h2 h3 hown
  have hz := hch.size
  have hh := ho.hi_le
  exact h w1 _ hch ⟨A1, c1, by rw [List.length_append], (hown.wide (Nat.le_refl _) (by omega) (Nat.le_refl _)).cast (by rw [List.length_append]) (cellsL_append _ _).symm⟩
end
/-! links, turns, numbers -/
theorem LkC_one (d : LkD) : ∀ u ∈ LkC d, u.oneCell' = true := by intro u hu; simp [LkC] at hu; rcases hu with rfl | rfl <;> rfl
theorem TnC_one (d : TnD) : ∀ u ∈ TnC d, u.oneCell' = true := by intro u hu; simp [TnC] at hu; rcases hu with rfl | rfl | rfl | rfl <;> rfl
def InC (i : Int) : List Value := [I i]
theorem InC_len (i : Int) : (InC i).length = 1 := rfl
theorem InC_one (d : Int) : ∀ u ∈ InC d, u.oneCell' = true := by intro u hu; simp [InC] at hu; rcases hu with rfl; rfl
theorem RK.row {w : World} {lo hi : Nat} {v : Value} {l : List LinkP} (h : RK w lo hi v l) : RowR LkC 2 w lo hi v l := by
  obtain ⟨ds, A, c, h1, h2, h3, h4, _⟩ := h
  have : ds = l := by rw [← h1]; exact (List.map_id ds).symm
  subst this
  exact ⟨A, c, h2, h3, h4⟩
theorem RowR.rk {w : World} {lo hi : Nat} {v : Value} {l : List LkD} (h : RowR LkC 2 w lo hi v l) : RK w lo hi v l := by
  obtain ⟨A, c, h1, h2, h3⟩ := h
  exact ⟨l, A, c, List.map_id l, h1, h2, h3, fun _ _ => trivial⟩
theorem RT.row {w : World} {lo hi : Nat} {v : Value} {l : List TurnP} (h : RT w lo hi v l) : RowR TnC 4 w lo hi v l := by
  obtain ⟨ds, A, c, h1, h2, h3, h4, _⟩ := h
  have : ds = l := by rw [← h1]; exact (List.map_id ds).symm
  subst this
  exact ⟨A, c, h2, h3, h4⟩
theorem RowR.rt {w : World} {lo hi : Nat} {v : Value} {l : List TnD} (h : RowR TnC 4 w lo hi v l) : RT w lo hi v l := by
  obtain ⟨A, c, h1, h2, h3⟩ := h
  exact ⟨l, A, c, List.map_id l, h1, h2, h3, fun _ _ => trivial⟩
theorem fillK (d : LkD) : Instr.fill (fun i => some (i * 2, 2)) ((Array.range (1 * 2)).map ((Value.agg #[.string ByteArray.empty, .int .i64 0]).cells[· % (Value.agg #[.string ByteArray.empty, .int .i64 0]).cells.size]!)) [(0, .agg (LkC d).toArray)] = some (cellsL LkC [d]).toArray := by kernel_rfl
theorem fillT (d : TnD) : Instr.fill (fun i => some (i * 4, 4)) ((Array.range (1 * 4)).map ((Value.agg #[.int .i64 0, .string ByteArray.empty, .string ByteArray.empty, .int .i64 0]).cells[· % (Value.agg #[.int .i64 0, .string ByteArray.empty, .string ByteArray.empty, .int .i64 0]).cells.size]!)) [(0, .agg (TnC d).toArray)] = some (cellsL TnC [d]).toArray := by kernel_rfl
theorem fillI (i : Int) : Instr.fill (fun i => some (i * 1, 1)) ((Array.range (1 * 1)).map ((Value.int .i64 0).cells[· % (Value.int .i64 0).cells.size]!)) [(0, I i)] = some (cellsL InC [i]).toArray := by kernel_rfl
theorem lk_own {w1 : World} {g n : Nat} {d : LkD} {e : TypeId} {w : World} (h : Own w1 g (g + 1) e 2 (some ⟨g, 0, none⟩) n n (cellsL LkC [d])) (hn : n = 1) (hg : g = w.heap.size) (hz : w1.heap.size = g + 1) : RowO LkC e 2 w1 w.heap.size w1.heap.size (.slice (some ⟨g, 0, none⟩) n n) [d] := RowO.new (by rw [hn]; rfl) h hg hz
end Go.Proofs.YtggaghghclomkaaGreat

/- Links that a call owns, sorted by the library; ranges over maps that the program makes. No condition. -/
namespace Go.Proofs.YtggaghghclomkaaGreat
open Go.RowKit
attribute [local irreducible] TL TC TN TX TR TQ TA Ret
instance : Inhabited LkD := ⟨⟨[], 0⟩⟩
theorem flatK_list {α : Type} [Inhabited α] {f : α → List Value} {k : Nat} (hf : ∀ a, (f a).length = k) (l : List α) : (Sort.flatK f k l.toArray).toList = cellsL f l := by
  apply List.ext_getElem?
  intro t
  by_cases ht : t < l.length * k
  · have hk : 0 < k := by
      rcases Nat.eq_zero_or_pos k with h | h
      · subst h; simp at ht
      · exact h
    have e1 := Sort.get_flatK f k l.toArray t (by simpa using ht)
    have hq : t / k < l.length := by rw [Nat.div_lt_iff_lt_mul hk]; exact ht
    have hm := Nat.mod_lt t hk
    have h2 := cellsL_at hf l (t / k) (t % k) hq hm
    rw [Nat.div_add_mod'] at h2
    rw [h2]
    have hs : t < (Sort.flatK f k l.toArray).size := by simpa using ht
    rw [Array.getElem?_toList, Array.getElem?_eq_getElem hs, ← getElem!_pos _ t hs, e1]
    have h3 : l.toArray[t / k]! = l[t / k] := by simp [hq]
    rw [h3, getElem!_pos _ _ (by rw [hf]; exact hm), List.getElem?_eq_getElem (by rw [hf]; exact hm)]
  · rw [List.getElem?_eq_none (by simpa using ht), List.getElem?_eq_none (by rw [cellsL_length hf]; omega)]
section
variable {w : World} {lo hi n c g m : Nat} {e : TypeId} {l l' : List LkD}
theorem holdsK_own (h : Own w lo hi e 2 (some ⟨g, 0, none⟩) n c (cellsL LkC l)) : Sort.HoldsK LkC 2 w g 0 l.toArray := by
  intro j hj
  have hj' : j < l.length * 2 := by simpa using hj
  have hl := h.len
  rw [cellsL_length LkC_len] at hl
  have h1 := h.row.cellAt j (by omega)
  have h2 := h.row.frozenAt j
  rw [Nat.zero_add]
  refine ⟨?_, h2⟩
  rw [h1, ← flatK_list LkC_len l, Array.getElem?_toList, Array.getElem?_eq_getElem (by simpa using hj'), getElem!_pos _ j hj]
  rfl
theorem Own.sorted (h : Own w lo hi e 2 (some ⟨g, 0, none⟩) n c (cellsL LkC l)) (hl : l'.length = l.length) (os : Array Obj) :
    Ch (Iv g (g + 1)) w (Sort.grow (Sort.putRowK LkC 2 (Sort.ahead w m) g 0 l'.toArray) os) ∧ Own (Sort.grow (Sort.putRowK LkC 2 (Sort.ahead w m) g 0 l'.toArray) os) lo hi e 2 (some ⟨g, 0, none⟩) n c (cellsL LkC l') := by
  have hlen := h.len
  have hlt := h.lt
  have hhi := h.hi_le
  rw [cellsL_length LkC_len] at hlen
  rcases h.row.2 with ⟨hv, _⟩ | ⟨g', cap, cur, hv, hbase, hb, h1, h2, h3, h4⟩
  · cases hv
  injection hv with hA _ hc
  injection hA with hA
  injection hA with hA
  subst hA hc
  have hg : g < w.heap.size := (Array.getElem?_eq_some_iff.1 hb).1
  have hb' : (Sort.grow (Sort.putRowK LkC 2 (Sort.ahead w m) g 0 l'.toArray) os).heap[g]? = some (.cells (Sort.putCells id 0 (Sort.flatK LkC 2 l'.toArray) cur) e (0, 0)) := by
    rw [Sort.heap_grow_old _ _ (by simpa [Sort.putRowK] using hg)]
    simp [Sort.putRowK, Sort.putRow, Sort.mapBlock, Sort.ahead, Array.getElem?_modify, hb, Sort.onCells]
  have hsz : (Sort.flatK LkC 2 l'.toArray).size = n * 2 := by simp; omega
  refine ⟨⟨rfl, rfl, rfl, by simp [Sort.putRowK], fun k hk hn => ?_⟩, ⟨by simp [Sort.putRowK]; omega, ⟨by rw [cellsL_length LkC_len]; omega, .inr ⟨g, c, _, rfl, hbase, hb', h1, h2, by simp [Sort.putCells, h3], ?_⟩⟩, hlt⟩⟩
  · rw [Sort.heap_grow_old _ _ (by simpa [Sort.putRowK] using hk)]
    have : g ≠ k := fun e => hn (by subst e; exact ⟨Nat.le_refl _, Nat.lt_succ_self _⟩)
    simp [Sort.putRowK, Sort.putRow, Sort.mapBlock, Sort.ahead, Array.getElem?_modify, this]
  · rw [← flatK_list LkC_len l']
    apply List.ext_getElem?
    intro j
    by_cases hj : j < n * 2
    · have hjc : j < cur.size := by rw [h3]; omega
      have hjf : j < (Sort.flatK LkC 2 l'.toArray).size := by omega
      rw [List.getElem?_take_of_lt hj, Array.getElem?_toList, Array.getElem?_toList, Array.getElem?_eq_getElem hjf]
      simp only [Sort.putCells, Array.getElem?_mapIdx, Array.getElem?_eq_getElem hjc, Option.map_some]
      rw [if_pos ⟨Nat.zero_le _, by omega⟩, Nat.sub_zero, getElem!_pos _ j hjf]
      rfl
    · rw [List.getElem?_take_eq_none (by omega), List.getElem?_eq_none (by rw [Array.length_toList]; omega)]
theorem grow_ch (w : World) (os : Array Obj) : Ext w (Sort.grow w os) := ⟨rfl, rfl, rfl, by simp, fun k hk _ => Sort.heap_grow_old w os hk⟩
end
/-! ### the order of names -/
def ltK (a b : LkD) : Bool := bytesBefore a.name b.name
theorem swoK : Sort.SWO ltK where
  irrefl := fun x => bb_irrefl _
  trans := fun x y z h1 h2 => bb_trans h1 h2
  ntrans := fun x y z h1 h2 => by
    unfold ltK at *
    cases h : bytesBefore x.name z.name with
    | false => rfl
    | true =>
      by_cases e : y.name = z.name
      · rw [e, h] at h1; cases h1
      · rcases bb_total e with h3 | h3
        · rw [h3] at h2; cases h2
        · rw [bb_trans h h3] at h1; cases h1
theorem asc_nodup {L : List LkD} (h : Asc L) : (L.map (·.name)).Nodup := by
  unfold List.Nodup
  rw [List.pairwise_map]
  exact h.imp fun {a b} hab e => by rw [e, bb_irrefl] at hab; cases hab
theorem asc_find {L : List LkD} (h : Asc L) {x : LkD} (hx : x ∈ L) : dFind L x.name = x.id := by
  induction L with
  | nil => cases hx
  | cons y r ih =>
    unfold Asc at h
    rw [List.pairwise_cons] at h
    unfold dFind
    rw [List.find?_cons]
    by_cases e : y.name = x.name
    · rw [show (y.name == x.name) = true by simp [e]]
      rcases List.mem_cons.1 hx with rfl | hx
      · rfl
      · have := h.1 x hx
        rw [e, bb_irrefl] at this; cases this
    · rw [show (y.name == x.name) = false by simp [e]]
      rcases List.mem_cons.1 hx with rfl | hx
      · exact absurd rfl e
      · exact ih h.2 hx
theorem asc_gather {L : List LkD} (h : Asc L) : (L.map (·.name)).map (fun s => (⟨s, dFind L s⟩ : LkD)) = L := by
  rw [List.map_map]
  conv => rhs; rw [← List.map_id L]
  exact List.map_congr_left fun x hx => by simp only [Function.comp, id, asc_find h hx]
theorem asc_unique {A L : List LkD} (hp : A.Perm L) (hL : Asc L) (hA : ∀ i j, i < j → j < A.length → ltK A[j]! A[i]! = false) : A = L := by
  have hn : (A.map (·.name)).Nodup := ((hp.map (·.name)).nodup_iff).2 (asc_nodup hL)
  have hA' : Asc A := by
    unfold Asc
    rw [List.pairwise_iff_getElem]
    intro i j hi hj hij
    have h1 := hA i j hij hj
    rw [getElem!_pos A j hj, getElem!_pos A i hi] at h1
    have hne : A[i].name ≠ A[j].name := by
      unfold List.Nodup at hn
      rw [List.pairwise_map, List.pairwise_iff_getElem] at hn
      exact hn i j hi hj hij
    exact (bb_total hne).resolve_right (by unfold ltK at h1; rw [h1]; decide)
  exact List.Perm.eq_of_pairwise (le := fun x y : LkD => bytesBefore x.name y.name = true) (fun a b _ _ h1 h2 => by rw [bb_asymm h1] at h2; cases h2) hA' hL hp
theorem strKeys_toD (L : List LkD) : strKeys (toD L) = L.map (·.name) := by
  unfold strKeys toD
  simp only [List.map_map]
  rfl
theorem size_toD (L : List LkD) : Maps.size (toD L) = L.length := by simp [Maps.size, toD]
/-! ### ranges over a directory -/
section
variable {P : Program} {C : World → Prop} {n : Nat} {l : Env} {dd : Option Nat} {ty t : TypeId} {pos : String} {af : Array Edge} {x : Operand} {v u : Value} {f : FuncId} {ds : TypeDesc}
theorem Pu_iface {e : TypeId} (hu : P.underlying t = some (.slice e)) (hx : ev l x = some v) : Pu P C n l ⟨dd, .makeInterface t x, ty, pos, af, none⟩ (.iface t v) := fun a ha w _ => by
  simp [execOp, ha.eval hx, Instr.makeInterface, run_underlying hu, Result.andThen]
theorem Pu_func1 (hx : ev l x = some v) : Pu P C n l ⟨dd, .makeFunc (.func f) #[] #[x], ty, pos, af, none⟩ (.func (.func f) #[] #[v]) := fun a ha w _ => by
  simp [execOp, ha.eval hx, Instr.makeFunc]
theorem Pu_entryG (hx : ev l x = some u) (h : ∀ w, C w → (Instr.entry u).run P w = .ok v w) : Pu P C n l ⟨dd, .entry x, ty, pos, af, none⟩ v := fun a ha w hw => by
  simp [execOp, ha.eval hx, h w hw, Result.andThen]
theorem TL_rangeG {L : List Oper} {Q : Exit → Act → World → Prop} {d : Nat} {rest : List Oper} {w w' : World} (hx : ev l x = some u) (hr : (Instr.range t u).run P w = .ok v w') (hn : Nat.blt d n = true)
    (h : TL P L Q rest n ((d, v) :: l) w') : TL P L Q (⟨some d, .range t x, ty, pos, af, none⟩ :: rest) n l w :=
  TL_run (w' := w') rfl rfl hn (fun a ha => by simp [execOp, ha.eval hx, hr, Result.andThen]) h
theorem TL_nextG {L : List Oper} {Q : Exit → Act → World → Prop} {d : Nat} {rest : List Oper} {w w' : World} {b : Bool} (hx : ev l x = some u) (hr : (Instr.next u b ty).run P w = .ok v w') (hn : Nat.blt d n = true)
    (h : TL P L Q rest n ((d, v) :: l) w') : TL P L Q (⟨some d, .next x b, ty, pos, af, none⟩ :: rest) n l w :=
  TL_run (w' := w') rfl rfl hn (fun a ha => by simp [execOp, ha.eval hx, hr, Result.andThen]) h
end
def MR (w : World) (b r k : Nat) (D : List LkD) (left : Lit → Bool) (cnt : Nat) : Prop := w.ranges Tryz.prog 9 (plainElem Tryz.prog 3) b r k (toD D) left cnt
section
variable {L : List Oper} {Q : Exit → Act → World → Prop} {n d : Nat} {l : Env} {w w' : World} {rest : List Oper} {ty : TypeId} {pos : String} {af : Array Edge} {x : Operand} {b k r cnt : Nat} {D : List LkD} {left : Lit → Bool} {T : Nat → Prop}
theorem MR.ch (h : MR w b r k D left cnt) (c : Ch T w w') (hb : ¬ T b) (hr : ¬ T r) : MR w' b r k D left cnt := by
  have h1 := World.ownsMap.lt (World.ranges.owns h)
  have h2 := World.ranges.lt h
  obtain ⟨es, clock, since, seen, c0, hb', F, hs, hD, hr', rest⟩ := h
  exact ⟨es, clock, since, seen, c0, (c.block b h1 hb).trans hb', F, hs, hD, (c.block r h2 hr).trans hr', rest⟩
theorem TL_range (hx : ev l x = some (.map (some b))) (hM : MD w b k D) (hn : Nat.blt d n = true)
    (h : ∀ w' r, Ext w w' → r = w.heap.size → w'.heap.size = r + 1 → MR w' b r k D (Maps.has (toD D)) D.length → TL Tryz.prog L Q rest n ((d, .pointer (some ⟨r, 0, none⟩)) :: l) w') :
    TL Tryz.prog L Q (⟨some d, .range 104 x, ty, pos, af, none⟩ :: rest) n l w := by
  obtain ⟨w', hr, h1, h2, h3⟩ := World.ownsMap.range hM kStr mUnder
  rw [size_toD] at h1
  exact TL_rangeG hx hr hn (h w' _ (Ch.of_grown h2 (fun _ e => by cases e)) rfl h3 h1)
theorem TL_next (hx : ev l x = some (.pointer (some ⟨r, 0, none⟩))) (hR : MR w b r k D left cnt) (hn : Nat.blt d n = true)
    (h0 : (∀ kl, left kl = false) → TL Tryz.prog L Q rest n ((d, .tuple #[.bool false]) :: l) w)
    (h1 : ∀ s w' cnt', left (.string s) = true → s.length ≤ 9223372036854775807 → (∀ zd, (toD D).atKey (.string s) zd = .lit (.int .i64 (dFind D s))) → MR w' b r k D (fun z => left z && !z.sameKey (.string s)) cnt' → cnt' < cnt → Ch (Iv r (r + 1)) w w' → w'.heap.size = w.heap.size →
      (Instr.entry (.pointer (some ⟨r, 0, none⟩))).run Tryz.prog w' = .ok (.tuple #[S s, I (dFind D s)]) w' → TL Tryz.prog L Q rest n ((d, .tuple #[.bool true, S s, I (dFind D s)]) :: l) w') :
    TL Tryz.prog L Q (⟨some d, .next x false, ty, pos, af, none⟩ :: rest) n l w := by
  rcases World.ranges.next hR kStr ty with ⟨_, hl, hr⟩ | ⟨key, v, kl, y, w', cnt', hkey, hlk, hv, hat, hr, h2, h3, h4, h5, h6⟩
  · exact TL_nextG hx hr hn (h0 hl)
  · obtain ⟨s, rfl, rfl, hs⟩ := Maps.keyOf_str Tryz.underlying9 hkey
    obtain ⟨c, rfl, rfl, _⟩ := plainElem_int_inv Tryz.underlying3 hv
    have hc := hat (.lit (.int .i64 0))
    rw [toD_at] at hc
    simp only [DataW.lit.injEq, Lit.int.injEq, true_and] at hc
    subst hc
    refine TL_nextG hx hr hn (h1 s w' cnt' hlk (by simpa [maxLen] using hs) hat h2 h3 (Ch.of_grown h4 (fun k hk => by injection hk with hk; subst hk; exact ⟨Nat.le_refl _, Nat.lt_succ_self _⟩)) h5 h6)
end
end Go.Proofs.YtggaghghclomkaaGreat

/- The library contract for sort.Slice, laid at this program; written by the kit's tools. No condition. -/
namespace Go.Proofs
open Go.Shelf
def Tryz.laysGg6_ren : Go.Shelf.Ren := ⟨fun | 6 => 143 | 10 => 172 | 11 => 173 | 12 => 174 | 13 => 175 | 14 => 176 | 24 => 191 | 25 => 192 | 26 => 193 | 27 => 194 | 28 => 195 | 29 => 196 | 30 => 197 | 31 => 198 | 32 => 199 | 33 => 200 | 34 => 202 | 35 => 203 | 36 => 204 | 37 => 205 | 38 => 206 | 39 => 207 | n => n, fun | 20 => 20 | 26 => 137 | 35 => 196 | 0 => 0 | 37 => 198 | 3 => 3 | 41 => 202 | 44 => 205 | 49 => 210 | 51 => 216 | 4 => 4 | 54 => 219 | 53 => 218 | 58 => 141 | 5 => 5 | 9 => 9 | 60 => 225 | 64 => 229 | 66 => 231 | 67 => 232 | 17 => 17 | 32 => 193 | 33 => 194 | 82 => 247 | 12 => 12 | 75 => 240 | 76 => 241 | 77 => 242 | 78 => 243 | 79 => 244 | 80 => 245 | n => n, fun | n => n⟩
theorem Tryz.laysGg6 : Go.Proofs.LaysGg.n6 Tryz.prog Tryz.laysGg6_ren := {
  mixed := by kernel_rfl
  f6 := Tryz.func143.trans (congrArg some (by kernel_rfl))
  f10 := Tryz.func172.trans (congrArg some (by kernel_rfl))
  f11 := Tryz.func173.trans (congrArg some (by kernel_rfl))
  f12 := Tryz.func174.trans (congrArg some (by kernel_rfl))
  f13 := Tryz.func175.trans (congrArg some (by kernel_rfl))
  f14 := Tryz.func176.trans (congrArg some (by kernel_rfl))
  f24 := Tryz.func191.trans (congrArg some (by kernel_rfl))
  f25 := Tryz.func192.trans (congrArg some (by kernel_rfl))
  f26 := Tryz.func193.trans (congrArg some (by kernel_rfl))
  f27 := Tryz.func194.trans (congrArg some (by kernel_rfl))
  f28 := Tryz.func195.trans (congrArg some (by kernel_rfl))
  f29 := Tryz.func196.trans (congrArg some (by kernel_rfl))
  f30 := Tryz.func197.trans (congrArg some (by kernel_rfl))
  f31 := Tryz.func198.trans (congrArg some (by kernel_rfl))
  f32 := Tryz.func199.trans (congrArg some (by kernel_rfl))
  f33 := Tryz.func200.trans (congrArg some (by kernel_rfl))
  f34 := Tryz.func202.trans (congrArg some (by kernel_rfl))
  f35 := Tryz.func203.trans (congrArg some (by kernel_rfl))
  f36 := Tryz.func204.trans (congrArg some (by kernel_rfl))
  f37 := Tryz.func205.trans (congrArg some (by kernel_rfl))
  f38 := Tryz.func206.trans (congrArg some (by kernel_rfl))
  f39 := Tryz.func207.trans (congrArg some (by kernel_rfl))
  t0 := Tryz.underlying0
  a0 := Tryz.isAgg0
  z0 := Tryz.sizeOf0
  v0 := Tryz.zeroValue0
  i0 := by kernel_rfl
  t3 := Tryz.underlying3
  a3 := Tryz.isAgg3
  z3 := Tryz.sizeOf3
  v3 := Tryz.zeroValue3
  i3 := by kernel_rfl
  t4 := Tryz.underlying4
  a4 := Tryz.isAgg4
  z4 := Tryz.sizeOf4
  v4 := Tryz.zeroValue4
  i4 := by kernel_rfl
  t5 := Tryz.underlying5
  a5 := Tryz.isAgg5
  z5 := Tryz.sizeOf5
  v5 := Tryz.zeroValue5
  i5 := by kernel_rfl
  t9 := Tryz.underlying9
  a9 := Tryz.isAgg9
  z9 := Tryz.sizeOf9
  v9 := Tryz.zeroValue9
  i9 := by kernel_rfl
  t12 := Tryz.underlying12
  a12 := Tryz.isAgg12
  z12 := Tryz.sizeOf12
  v12 := Tryz.zeroValue12
  i12 := by kernel_rfl
  t17 := Tryz.underlying17
  a17 := Tryz.isAgg17
  z17 := Tryz.sizeOf17
  v17 := Tryz.zeroValue17
  i17 := by kernel_rfl
  t20 := Tryz.underlying20
  a20 := Tryz.isAgg20
  z20 := Tryz.sizeOf20
  v20 := Tryz.zeroValue20
  i20 := by kernel_rfl
  t26 := Tryz.underlying137
  a26 := Tryz.isAgg137
  z26 := Tryz.sizeOf137
  v26 := Tryz.zeroValue137
  i26 := by kernel_rfl
  t32 := Tryz.underlying193
  a32 := Tryz.isAgg193
  z32 := Tryz.sizeOf193
  v32 := Tryz.zeroValue193
  i32 := by kernel_rfl
  t33 := Tryz.underlying194
  a33 := Tryz.isAgg194
  z33 := Tryz.sizeOf194
  v33 := Tryz.zeroValue194
  i33 := by kernel_rfl
  t35 := Tryz.underlying196
  a35 := Tryz.isAgg196
  z35 := Tryz.sizeOf196
  v35 := Tryz.zeroValue196
  i35 := by kernel_rfl
  t37 := Tryz.underlying198
  a37 := Tryz.isAgg198
  z37 := Tryz.sizeOf198
  v37 := Tryz.zeroValue198
  i37 := by kernel_rfl
  t41 := Tryz.underlying202
  a41 := Tryz.isAgg202
  z41 := Tryz.sizeOf202
  v41 := Tryz.zeroValue202
  i41 := by kernel_rfl
  t44 := Tryz.underlying205
  a44 := Tryz.isAgg205
  z44 := Tryz.sizeOf205
  v44 := Tryz.zeroValue205
  i44 := by kernel_rfl
  t49 := Tryz.underlying210
  a49 := Tryz.isAgg210
  z49 := Tryz.sizeOf210
  v49 := Tryz.zeroValue210
  i49 := by kernel_rfl
  t51 := Tryz.underlying216
  a51 := Tryz.isAgg216
  z51 := Tryz.sizeOf216
  v51 := Tryz.zeroValue216
  i51 := by kernel_rfl
  t53 := Tryz.underlying218
  a53 := Tryz.isAgg218
  z53 := Tryz.sizeOf218
  v53 := Tryz.zeroValue218
  i53 := by kernel_rfl
  t54 := Tryz.underlying219
  a54 := Tryz.isAgg219
  z54 := Tryz.sizeOf219
  v54 := Tryz.zeroValue219
  i54 := by kernel_rfl
  t58 := Tryz.underlying141
  a58 := Tryz.isAgg141
  z58 := Tryz.sizeOf141
  v58 := Tryz.zeroValue141
  i58 := by kernel_rfl
  t60 := Tryz.underlying225
  a60 := Tryz.isAgg225
  z60 := Tryz.sizeOf225
  v60 := Tryz.zeroValue225
  i60 := by kernel_rfl
  t64 := Tryz.underlying229
  a64 := Tryz.isAgg229
  z64 := Tryz.sizeOf229
  v64 := Tryz.zeroValue229
  i64 := by kernel_rfl
  t66 := Tryz.underlying231
  a66 := Tryz.isAgg231
  z66 := Tryz.sizeOf231
  v66 := Tryz.zeroValue231
  i66 := by kernel_rfl
  t67 := Tryz.underlying232
  a67 := Tryz.isAgg232
  z67 := Tryz.sizeOf232
  v67 := Tryz.zeroValue232
  i67 := by kernel_rfl
  t75 := Tryz.underlying240
  a75 := Tryz.isAgg240
  z75 := Tryz.sizeOf240
  v75 := Tryz.zeroValue240
  i75 := by kernel_rfl
  t76 := Tryz.underlying241
  a76 := Tryz.isAgg241
  z76 := Tryz.sizeOf241
  v76 := Tryz.zeroValue241
  i76 := by kernel_rfl
  t77 := Tryz.underlying242
  a77 := Tryz.isAgg242
  z77 := Tryz.sizeOf242
  v77 := Tryz.zeroValue242
  i77 := by kernel_rfl
  t78 := Tryz.underlying243
  a78 := Tryz.isAgg243
  z78 := Tryz.sizeOf243
  v78 := Tryz.zeroValue243
  i78 := by kernel_rfl
  t79 := Tryz.underlying244
  a79 := Tryz.isAgg244
  z79 := Tryz.sizeOf244
  v79 := Tryz.zeroValue244
  i79 := by kernel_rfl
  t80 := Tryz.underlying245
  a80 := Tryz.isAgg245
  z80 := Tryz.sizeOf245
  v80 := Tryz.zeroValue245
  i80 := by kernel_rfl
  t82 := Tryz.underlying247
  a82 := Tryz.isAgg247
  z82 := Tryz.sizeOf247
  v82 := Tryz.zeroValue247
  i82 := by kernel_rfl }
end Go.Proofs

/- Contracts: the reference's directories. -/
namespace Go.Proofs.YtggaghghclomkaaGreat
open Go.RowKit
section
variable {P : Program} {C : World → Prop} {n : Nat} {l : Env} {dd : Option Nat} {x y : Operand} {t t' ty : TypeId} {pos : String} {af : Array Edge} {a b : List UInt8}
theorem bb_not (a b : List UInt8) : (!(bytesBefore a b || a == b)) = bytesBefore b a := by
  by_cases h : a = b
  · subst h; simp [bb_irrefl]
  · rcases bb_total h with h1 | h1
    · rw [h1, bb_asymm h1]; rfl
    · rw [h1, bb_asymm h1]; simp [h]
theorem Pu_gtrb (hx : ev l x = some (S a)) (hy : ev l y = some (S b)) : Pu P C n l ⟨dd, .binOp .gtr t x y t', ty, pos, af, none⟩ (.bool (bytesBefore b a)) := fun s hs w _ => by
  have h := bb_not a b
  simp only [execOp, hs.eval hx, hs.eval hy, eqGuard_at_string, binOp, Op.stringOp, less_before, S_toList]
  rw [h]
  simp
theorem Pu_geqb (hx : ev l x = some (S a)) (hy : ev l y = some (S b)) : Pu P C n l ⟨dd, .binOp .geq t x y t', ty, pos, af, none⟩ (.bool (!bytesBefore a b)) := fun s hs w _ => by
  simp only [execOp, hs.eval hx, hs.eval hy, eqGuard_at_string, binOp, Op.stringOp, less_before, S_toList]
  simp
end
theorem dHas_succ {L : List LkD} {s : List UInt8} {k : Nat} (h : k < L.length) : dHas (L.take (k + 1)) s = (dHas (L.take k) s || L[k].name == s) := by
  unfold dHas
  rw [List.take_succ_eq_append_getElem h, List.any_append]
  simp
theorem dFind_hit {L : List LkD} {s : List UInt8} {k : Nat} (h : k < L.length) (hn : dHas (L.take k) s = false) (he : L[k].name = s) : dFind L s = L[k].id := by
  unfold dFind
  have h1 : L.find? (fun x => x.name == s) = some L[k] := by
    have h0 : L.find? (fun x => x.name == s) = (L.take k ++ L[k] :: L.drop (k + 1)).find? (fun x => x.name == s) := by rw [List.getElem_cons_drop, List.take_append_drop]
    rw [h0, List.find?_append]
    have h2 : (L.take k).find? (fun x => x.name == s) = none := by
      rw [List.find?_eq_none]
      intro x hx
      have := dHas_none hn x hx
      simpa using this
    rw [h2, Option.none_or, List.find?_cons, he, beq_self_eq_true]
  rw [h1]
theorem dLess_hit {L : List LkD} {s : List UInt8} {k : Nat} (h : k < L.length) (he : L[k].name = s) : dLess (L.take (k + 1)) s = dLess (L.take k) s := by
  unfold dLess
  rw [List.take_succ_eq_append_getElem h, List.filter_append]
  simp [he]
theorem dLess_miss {L : List LkD} {s : List UInt8} {k : Nat} (h : k < L.length) (he : ¬ L[k].name = s) : dLess (L.take (k + 1)) s = dLess (L.take k) s ++ [L[k]] := by
  unfold dLess
  rw [List.take_succ_eq_append_getElem h, List.filter_append]
  simp [he]
attribute [local irreducible] TL TC TN TX TR TQ TA Pu Ret
set_option maxHeartbeats 1000000 in
theorem l03Find_c {w : World} {lo hi : Nat} {v : Value} {L : List LkD} {s : List UInt8} (h : RK w lo hi v L) (hl : L.length ≤ 1048576) :
    Ret Tryz.prog 85 #[v, S s] w fun v' w' => v' = I (dFind L s) ∧ Ext w w' := by
  obtain ⟨A, c, rfl, hc, hr⟩ := h.row
  refine Ret_enter Tryz.func85 rfl rfl rfl ?_
  repeat' (first | apply Jbq | apply Jbr | apply Jbs | apply Jbt | apply Jby | (apply Jcg; (first | exact Jaa rfl | exact Jab rfl | exact Jac Us.h rfl); exact rfl))
  refine TC_loop (ι := Nat) (fun k => [(1, S s), (7, .slice A L.length c), (8, I L.length), (9, I k)]) (fun k w' => k ≤ L.length ∧ dHas (L.take k) s = false ∧ Ext w w') (fun k => L.length - k) 0 (subEnv_cons rfl (subEnv_cons rfl (subEnv_cons rfl (subEnv_cons rfl (subEnv_nil _))))) ⟨Nat.zero_le _, rfl, Ch.refl _ _⟩ ?_
  intro k w2 ⟨hk, hn, e2⟩
  repeat' (first | apply Jbq | apply Jbr | apply Jbs | apply Jbt | (apply Jcg; exact Jad rfl rfl; exact rfl))
  refine Jcx rfl (fun hlt0 => ?_) (fun hge => ?_)
  · have hlt : k < L.length := by omega
    obtain ⟨ad, rfl, hcell⟩ := Rd.elem LkC_len (hr.ext e2) hlt
    repeat' (first | apply Jbq | apply Jbr | apply Jbs | apply Jbt | apply Jby | apply Jbz | (apply Jcg; (first | exact Jaa rfl | exact Jar Us.h Sz.h rfl rfl (by omega) | exact Jas rfl rfl | (apply Jbl; exact Us.h; exact rfl; exact Sz.h; exact rfl)); exact rfl) | refine Jcg (Pu_loadAgg (cs := LkC L[k]) Us.h rfl Sz.h rfl (fun _ e j u hu => by rw [e]; exact hcell j u hu)) rfl ?_ | (refine TL_alloc Zs.h rfl rfl ?_; intro w3 g3 e3 hg3 hz3 hb3) | (refine TL_storeAgg rfl rfl Sz.h rfl hb3 rfl ?_; intro w4 c4 hz4 hb4) | refine Jcg (Pu_load Fl.h rfl (fun _ e => by rw [e]; exact hb4.ld rfl)) rfl ?_)
    have E4 : Ext w w4 := Ext.then_iv (e2.ext e3) c4 (by have := e2.size; omega)
    refine Jcx rfl (fun he => ?_) (fun he => ?_)
    · repeat' (first | apply Jbq | apply Jbr | apply Jbs | apply Jbt | apply Jbu | apply Jbv | apply Jbw | (apply Jcg; (first | exact Jab rfl | (apply Jbl; exact Us.h; exact rfl; exact Sz.h; exact rfl)); exact rfl) | refine Jcg (Pu_load Fl.h rfl (fun _ e => by rw [e]; exact hb4.ld rfl)) rfl ?_)
      exact TR_of (res1 rfl rfl) ⟨by rw [dFind_hit hlt hn he], E4⟩
    · repeat' (first | apply Jbq | apply Jbr | apply Jbt | apply Jbx | apply Jbz | (apply Jcg; (first | exact Jaa rfl | exact Jaf rfl rfl (by omega)); exact rfl))
      exact TN_round (k + 1) (subEnv_cons rfl (subEnv_cons rfl (subEnv_cons rfl (subEnv_cons rfl (subEnv_nil _))))) ⟨hlt, by rw [dHas_succ hlt, hn]; simp [he], E4⟩ (by omega)
  · obtain rfl : k = L.length := by omega
    rw [List.take_length] at hn
    repeat' (first | apply Jbq | apply Jbr | apply Jbs | apply Jbt | apply Jbu | apply Jca | apply Jcb | apply Jcc | (apply Jcg; exact Jab rfl; exact rfl))
    exact TR_of (res1 rfl rfl) ⟨by rw [dFind_none hn], e2⟩
set_option maxHeartbeats 1000000 in
theorem l03Less_c {w : World} {lo hi : Nat} {v : Value} {L : List LkD} {s : List UInt8} (h : RK w lo hi v L) (hl : L.length ≤ 1048576) :
    Ret Tryz.prog 170 #[v, S s] w fun v' w' => Ext w w' ∧ RowO LkC 162 2 w' w.heap.size w'.heap.size v' (dLess L s) := by
  obtain ⟨A, c, rfl, hc, hr⟩ := h.row
  refine Ret_enter Tryz.func170 rfl rfl rfl ?_
  repeat' (first | apply Jbq | apply Jbr | apply Jbs | apply Jbt | apply Jby | (apply Jcg; (first | exact Jaa rfl | exact Jab rfl | exact Jac Us.h rfl); exact rfl) | (refine TL_buildSlice0 Us.h Sz.h rfl ?_; intro w1 g1 e1 hg1 hz1 hown1))
  refine TC_loop (ι := Nat × Value) (fun x => [(1, S s), (5, x.2), (9, .slice A L.length c), (10, I L.length), (11, I x.1)]) (fun x w' => x.1 ≤ L.length ∧ Ext w w' ∧ RowO LkC 162 2 w' w.heap.size w'.heap.size x.2 (dLess (L.take x.1) s)) (fun x => L.length - x.1) (0, _) (subEnv_cons rfl (subEnv_cons rfl (subEnv_cons rfl (subEnv_cons rfl (subEnv_cons rfl (subEnv_nil _)))))) ⟨Nat.zero_le _, e1, RowO.new (l := []) rfl hown1 hg1 hz1⟩ ?_
  rintro ⟨k, vo⟩ w2 ⟨hk, e2, ho2⟩
  simp only at hk ho2
  show TC _ _ _ _ [(1, S s), (5, vo), (9, .slice A L.length c), (10, I L.length), (11, I (k : Int))] w2
  repeat' (first | apply Jbq | apply Jbr | apply Jbs | apply Jbt | (apply Jcg; exact Jad rfl rfl; exact rfl))
  refine Jcx rfl (fun hlt0 => ?_) (fun hge => ?_)
  · have hlt : k < L.length := by omega
    obtain ⟨ad, rfl, hcell⟩ := Rd.elem LkC_len (hr.ext e2) hlt
    repeat' (first | apply Jbq | apply Jbr | apply Jbs | apply Jbt | apply Jby | apply Jbz | (apply Jcg; (first | exact Jaa rfl | exact Jar Us.h Sz.h rfl rfl (by omega) | exact Jat rfl rfl | (apply Jbl; exact Us.h; exact rfl; exact Sz.h; exact rfl)); exact rfl) | refine Jcg (Pu_loadAgg (cs := LkC L[k]) Us.h rfl Sz.h rfl (fun _ e j u hu => by rw [e]; exact hcell j u hu)) rfl ?_ | (refine TL_alloc Zs.h rfl rfl ?_; intro w3 g3 e3 hg3 hz3 hb3) | (refine TL_storeAgg rfl rfl Sz.h rfl hb3 rfl ?_; intro w4 c4 hz4 hb4) | refine Jcg (Pu_load Fl.h rfl (fun _ e => by rw [e]; exact hb4.ld rfl)) rfl ?_)
    have E4 : Ext w2 w4 := Ext.then_iv e3 c4 (by omega)
    refine Jcy rfl (fun he => ?_) (fun he => ?_)
    · repeat' (first | apply Jbt | (apply Jcg; exact Jaa rfl; exact rfl) | refine Jcg (Pu_loadAgg (cs := LkC L[k]) Us.h rfl Sz.h rfl (fun _ e j u hu => by rw [e, add0, hb4.cell]; exact hu)) rfl ?_)
      refine TL_buildSlice Us.h Zi.h rfl rfl rfl rfl (fillK _) rfl rfl ?_
      intro w5 g5 e5 hg5 hz5 hown5
      skip
      have hs := (e2.ext (E4.ext e5)).size
      have hdl := dLess_length (L.take k) s
      rw [List.length_take] at hdl
      refine TL_appendRow Us.h Inf.h rfl rfl rfl LkC_one rfl rfl (ho2.ext (E4.ext e5)) (lk_own hown5 rfl hg5 hz5).rd hs (by simp only [List.length_cons, List.length_nil]; omega) rfl ?_
      intro w6 v6 c6 ho6
      repeat' (first | apply Jbq | apply Jbr | apply Jbt | apply Jbx | (apply Jcg; (first | exact Jaa rfl | exact Jab rfl | exact Jaf rfl rfl (by omega)); exact rfl))
      refine TN_round (k + 1, v6) (subEnv_cons rfl (subEnv_cons rfl (subEnv_cons rfl (subEnv_cons rfl (subEnv_cons rfl (subEnv_nil _)))))) ⟨hlt, Ext.then_iv (e2.ext (E4.ext e5)) c6 (Nat.le_refl _), ?_⟩ (by simp only; omega)
      rw [dLess_miss hlt he]
      exact ho6
    · repeat' (first | apply Jbq | apply Jbr | apply Jbt | apply Jbx | apply Jbz | (apply Jcg; (first | exact Jaa rfl | exact Jaf rfl rfl (by omega)); exact rfl))
      refine TN_round (k + 1, vo) (subEnv_cons rfl (subEnv_cons rfl (subEnv_cons rfl (subEnv_cons rfl (subEnv_cons rfl (subEnv_nil _)))))) ⟨hlt, e2.ext E4, ?_⟩ (by simp only; omega)
      rw [dLess_hit hlt he]
      exact (ho2.ext E4).wide (Nat.le_refl _) E4.size (Nat.le_refl _)
  · obtain rfl : k = L.length := by omega
    rw [List.take_length] at ho2
    repeat' (first | apply Jbq | apply Jbr | apply Jbs | apply Jbt | apply Jbu | apply Jca | apply Jcb | apply Jcc | (apply Jcg; (first | exact Jaa rfl | exact Jab rfl); exact rfl))
    exact TR_of (res1 rfl rfl) ⟨e2, ho2⟩
set_option maxHeartbeats 2000000 in
theorem l03With_c {w : World} {lo hi : Nat} {v : Value} {L : List LkD} {s : List UInt8} {i : Int} (h : RK w lo hi v L) (hl : L.length ≤ 1048576) :
    Ret Tryz.prog 169 #[v, S s, I i] w fun v' w' => Ext w w' ∧ RowO LkC 162 2 w' w.heap.size w'.heap.size v' (dIns ⟨s, i⟩ L) := by
  obtain ⟨A, c, rfl, hc, hr⟩ := h.row
  refine Ret_enter Tryz.func169 rfl rfl rfl ?_
  repeat' (first | apply Jbq | apply Jbr | apply Jbs | apply Jbt | apply Jby | (apply Jcg; (first | exact Jaa rfl | exact Jab rfl | exact Jac Us.h rfl); exact rfl) | (refine TL_buildSlice0 Us.h Sz.h rfl ?_; intro w1 g1 e1 hg1 hz1 hown1))
  refine TC_loop (ι := Nat × Value × Bool × List LkD) (fun x => [(1, S s), (2, I i), (7, x.2.1), (8, .bool x.2.2.1), (12, .slice A L.length c), (13, I L.length), (14, I x.1)])
    (fun x w' => x.1 ≤ L.length ∧ x.2.2.2.length ≤ 2 * x.1 ∧ dIns ⟨s, i⟩ L = x.2.2.2 ++ (if x.2.2.1 then L.drop x.1 else dIns ⟨s, i⟩ (L.drop x.1)) ∧ Ext w w' ∧ RowO LkC 162 2 w' w.heap.size w'.heap.size x.2.1 x.2.2.2) (fun x => L.length - x.1) (0, _, false, []) (subEnv_cons rfl (subEnv_cons rfl (subEnv_cons rfl (subEnv_cons rfl (subEnv_cons rfl (subEnv_cons rfl (subEnv_cons rfl (subEnv_nil _)))))))) ⟨Nat.zero_le _, by simp, by simp, e1, RowO.new (l := []) rfl hown1 hg1 hz1⟩ ?_
  rintro ⟨k, vo, dn, out⟩ w2 ⟨hk, hol, heq, e2, ho2⟩
  simp only at hk hol heq ho2
  show TC _ _ _ _ [(1, S s), (2, I i), (7, vo), (8, .bool dn), (12, .slice A L.length c), (13, I L.length), (14, I (k : Int))] w2
  repeat' (first | apply Jbq | apply Jbr | apply Jbs | apply Jbt | (apply Jcg; exact Jad rfl rfl; exact rfl))
  refine Jcx rfl (fun hlt0 => ?_) (fun hge => ?_)
  · have hlt : k < L.length := by omega
    obtain ⟨ad, rfl, hcell⟩ := Rd.elem LkC_len (hr.ext e2) hlt
    have hdr : L.drop k = L[k] :: L.drop (k + 1) := List.drop_eq_getElem_cons hlt
    rw [hdr] at heq
    repeat' (first | apply Jbq | apply Jbr | apply Jbs | apply Jbt | apply Jby | apply Jbz | (apply Jcg; (first | exact Jaa rfl | exact Jaj rfl | exact Jar Us.h Sz.h rfl rfl (by omega)); exact rfl) | refine Jcg (Pu_loadAgg (cs := LkC L[k]) Us.h rfl Sz.h rfl (fun _ e j u hu => by rw [e]; exact hcell j u hu)) rfl ?_ | (refine TL_alloc Zs.h rfl rfl ?_; intro w3 g3 e3 hg3 hz3 hb3) | (refine TL_storeAgg rfl rfl Sz.h rfl hb3 rfl ?_; intro w4 c4 hz4 hb4))
    have E4 : Ext w2 w4 := Ext.then_iv e3 c4 (by omega)
    cases dn with
    | true =>
      simp only [if_true] at heq
      repeat' (first | apply Jbq | apply Jbr | apply Jbt | apply Jbz | (refine Jcf rfl ?_) | (apply Jcg; (first | exact Jaa rfl | exact Jai rfl rfl); exact rfl) | refine Jci rfl rfl rfl rfl rfl ?_ | refine Jcg (Pu_loadAgg (cs := LkC L[k]) Us.h rfl Sz.h rfl (fun _ e j u hu => by rw [e, add0, hb4.cell]; exact hu)) rfl ?_)
      refine TL_buildSlice Us.h Zi.h rfl rfl rfl rfl (fillK _) rfl rfl ?_
      intro w5 g5 e5 hg5 hz5 hown5
      skip
      refine TL_appendRow Us.h Inf.h rfl rfl rfl LkC_one rfl rfl (ho2.ext (E4.ext e5)) (lk_own hown5 rfl hg5 hz5).rd (e2.ext (E4.ext e5)).size (by simp only [List.length_cons, List.length_nil]; omega) rfl ?_
      intro w6 v6 c6 ho6
      repeat' (first | apply Jbq | apply Jbr | apply Jbt | apply Jbx | (apply Jcg; (first | exact Jaa rfl | exact Jab rfl | exact Jaf rfl rfl (by omega)); exact rfl))
      exact TN_round (k + 1, v6, true, out ++ [L[k]]) (subEnv_cons rfl (subEnv_cons rfl (subEnv_cons rfl (subEnv_cons rfl (subEnv_cons rfl (subEnv_cons rfl (subEnv_cons rfl (subEnv_nil _)))))))) ⟨hlt, by simp only [List.length_append, List.length_cons, List.length_nil]; omega, by rw [heq]; simp, Ext.then_iv (e2.ext (E4.ext e5)) c6 (Nat.le_refl _), ho6⟩ (by simp only; omega)
    | false =>
      simp only [Bool.false_eq_true, if_false] at heq
      rw [dIns] at heq
      repeat' (first | apply Jbq | apply Jbr | (apply Jcg; (first | exact Jaa rfl | exact Jah rfl rfl | (apply Jbl; exact Us.h; exact rfl; exact Sz.h; exact rfl)); exact rfl) | refine Jch rfl rfl rfl ?_ | refine Jcg (Pu_load Fl.h rfl (fun _ e => by rw [e]; exact hb4.ld rfl)) rfl ?_ | refine Jcg (Pu_gtrb rfl rfl) rfl ?_)
      refine Jcz rfl (fun hb => ?_) (fun hb => ?_)
      · rw [if_pos hb] at heq
        repeat' (first | apply Jbs | apply Jbt | (apply Jcg; exact Jaa rfl; exact rfl) | refine Jcg (Pu_build (cs := LkC ⟨s, i⟩) rfl (by kernel_rfl)) rfl ?_)
        refine TL_buildSlice Us.h Zi.h rfl rfl rfl rfl (fillK ⟨s, i⟩) rfl rfl ?_
        intro w5 g5 e5 hg5 hz5 hown5
        skip
        refine TL_appendRow Us.h Inf.h rfl rfl rfl LkC_one rfl rfl (ho2.ext (E4.ext e5)) (lk_own hown5 rfl hg5 hz5).rd (e2.ext (E4.ext e5)).size (by simp only [List.length_cons, List.length_nil]; omega) rfl ?_
        intro w6 v6 c6 ho6
        have hb6 := (hb4.ext e5).ch c6 (by simp only [Iv]; omega)
        have E6 : Ext w w6 := Ext.then_iv (e2.ext (E4.ext e5)) c6 (Nat.le_refl _)
        repeat' (first | apply Jbq | apply Jbr | apply Jbt | (apply Jcg; (first | exact Jaa rfl | exact Jab rfl); exact rfl) | refine Jcg (Pu_loadAgg (cs := LkC L[k]) Us.h rfl Sz.h rfl (fun _ e j u hu => by rw [e, add0, hb6.cell]; exact hu)) rfl ?_)
        refine TL_buildSlice Us.h Zi.h rfl rfl rfl rfl (fillK _) rfl rfl ?_
        intro w7 g7 e7 hg7 hz7 hown7
        skip
        refine TL_appendRow Us.h Inf.h rfl rfl rfl LkC_one rfl rfl (ho6.ext e7) (lk_own hown7 rfl hg7 hz7).rd (E6.ext e7).size (by simp only [List.length_append, List.length_cons, List.length_nil]; omega) rfl ?_
        intro w8 v8 c8 ho8
        repeat' (first | apply Jbq | apply Jbr | apply Jbt | apply Jbx | (apply Jcg; (first | exact Jaa rfl | exact Jab rfl | exact Jaf rfl rfl (by omega)); exact rfl))
        exact TN_round (k + 1, v8, true, out ++ [⟨s, i⟩] ++ [L[k]]) (subEnv_cons rfl (subEnv_cons rfl (subEnv_cons rfl (subEnv_cons rfl (subEnv_cons rfl (subEnv_cons rfl (subEnv_cons rfl (subEnv_nil _)))))))) ⟨hlt, by simp only [List.length_append, List.length_cons, List.length_nil]; omega, by rw [heq]; simp, Ext.then_iv (E6.ext e7) c8 (Nat.le_refl _), ho8⟩ (by simp only; omega)
      · rw [if_neg (by rw [hb]; decide)] at heq
        repeat' (first | apply Jbr | apply Jbt | apply Jbz | (apply Jcg; exact Jaa rfl; exact rfl) | refine Jcg (Pu_loadAgg (cs := LkC L[k]) Us.h rfl Sz.h rfl (fun _ e j u hu => by rw [e, add0, hb4.cell]; exact hu)) rfl ?_)
        refine TL_buildSlice Us.h Zi.h rfl rfl rfl rfl (fillK _) rfl rfl ?_
        intro w5 g5 e5 hg5 hz5 hown5
        skip
        refine TL_appendRow Us.h Inf.h rfl rfl rfl LkC_one rfl rfl (ho2.ext (E4.ext e5)) (lk_own hown5 rfl hg5 hz5).rd (e2.ext (E4.ext e5)).size (by simp only [List.length_cons, List.length_nil]; omega) rfl ?_
        intro w6 v6 c6 ho6
        repeat' (first | apply Jbq | apply Jbr | apply Jbt | apply Jbx | (apply Jcg; (first | exact Jaa rfl | exact Jab rfl | exact Jaf rfl rfl (by omega)); exact rfl))
        exact TN_round (k + 1, v6, false, out ++ [L[k]]) (subEnv_cons rfl (subEnv_cons rfl (subEnv_cons rfl (subEnv_cons rfl (subEnv_cons rfl (subEnv_cons rfl (subEnv_cons rfl (subEnv_nil _)))))))) ⟨hlt, by simp only [List.length_append, List.length_cons, List.length_nil]; omega, by rw [heq]; simp, Ext.then_iv (e2.ext (E4.ext e5)) c6 (Nat.le_refl _), ho6⟩ (by simp only; omega)
  · obtain rfl : k = L.length := by omega
    rw [List.drop_length] at heq
    cases dn with
    | true =>
      simp only [if_true, List.append_nil] at heq
      repeat' (first | apply Jbq | apply Jbr | apply Jbs | apply Jbt | apply Jbu | apply Jbz | apply Jca | apply Jcb | apply Jcc | (refine Jcf rfl ?_) | (apply Jcg; (first | exact Jaa rfl | exact Jab rfl | exact Jaj rfl); exact rfl))
      exact TR_of (res1 rfl rfl) ⟨e2, by rw [heq]; exact ho2⟩
    | false =>
      simp only [Bool.false_eq_true, if_false, dIns] at heq
      repeat' (first | apply Jbq | apply Jbr | apply Jbs | apply Jbt | apply Jca | apply Jcb | apply Jcc | (refine Jce rfl ?_) | (apply Jcg; (first | exact Jaa rfl | exact Jaj rfl); exact rfl) | refine Jcg (Pu_build (cs := LkC ⟨s, i⟩) rfl (by kernel_rfl)) rfl ?_)
      refine TL_buildSlice Us.h Zi.h rfl rfl rfl rfl (fillK ⟨s, i⟩) rfl rfl ?_
      intro w5 g5 e5 hg5 hz5 hown5
      skip
      refine TL_appendRow Us.h Inf.h rfl rfl rfl LkC_one rfl rfl (ho2.ext e5) (lk_own hown5 rfl hg5 hz5).rd (e2.ext e5).size (by simp only [List.length_cons, List.length_nil]; omega) rfl ?_
      intro w6 v6 c6 ho6
      repeat' (first | apply Jbq | apply Jbr | apply Jbs | apply Jbt | apply Jbu | (apply Jcg; (first | exact Jaa rfl | exact Jab rfl); exact rfl))
      exact TR_of (res1 rfl rfl) ⟨Ext.then_iv (e2.ext e5) c6 (Nat.le_refl _), by rw [heq]; exact ho6⟩
end Go.Proofs.YtggaghghclomkaaGreat

/- Contracts: the reference's turns and numbers. -/
namespace Go.Proofs.YtggaghghclomkaaGreat
open Go.RowKit
theorem pTurn_length (L : List LkD) (t : TnD) : (pTurn L t).length ≤ L.length + 1 := by
  unfold pTurn
  split
  · rw [dIns_length]; exact Nat.le_refl _
  · split
    · rw [dIns_length]; have := dLess_length (dLess L t.name) t.to; have := dLess_length L t.name; omega
    · have := dLess_length L t.name; omega
theorem runT_length (L : List LkD) : ∀ ts : List TnD, (runT L ts).length ≤ L.length + ts.length := by
  intro ts
  unfold runT
  induction ts generalizing L with
  | nil => simp
  | cons t r ih => rw [List.foldl_cons]; have := ih (pTurn L t); have := pTurn_length L t; simp only [List.length_cons]; omega
theorem RowO.rk {w : World} {lo hi : Nat} {v : Value} {l : List LkD} {e : TypeId} (h : RowO LkC e 2 w lo hi v l) : RK w 0 w.heap.size v l := h.rd.rk.wide (Nat.zero_le _) h.hi_le (Nat.le_refl _)
attribute [local irreducible] TL TC TN TX TR TQ TA Pu Ret
set_option maxHeartbeats 2000000 in
theorem l03Turn_o {w : World} {lo hi : Nat} {v : Value} {L : List LkD} {t : TnD} (h : RK w lo hi v L) (hl : L.length ≤ 1000) :
    Ret Tryz.prog 133 #[v, .agg (TnC t).toArray] w fun v' w' => Ext w w' ∧ RowO LkC 162 2 w' w.heap.size w'.heap.size v' (pTurn L t) := by
  refine Ret_enter Tryz.func133 rfl rfl rfl ?_
  repeat' (first | apply Jbs | apply Jbt)
  refine TL_box (cs := TnC t) rfl rfl ?_
  intro w1 g1 e1 hg1 hz1 hb1
  repeat' (first | apply Jbq | apply Jbr | apply Jbs | apply Jbt | (apply Jcg; (first | exact Jab rfl | exact Jak rfl rfl | (apply Jbl; exact Us.h; exact rfl; exact Sz.h; exact rfl)); exact rfl) | refine Jcg (Pu_load Fl.h rfl (fun _ e => by rw [e]; exact hb1.ld rfl)) rfl ?_)
  refine Jcx rfl (fun hk => ?_) (fun hk => ?_)
  · repeat' (first | apply Jbs | apply Jbt | (apply Jcg; (first | exact Jaa rfl | (apply Jbl; exact Us.h; exact rfl; exact Sz.h; exact rfl)); exact rfl) | refine Jcg (Pu_load Fl.h rfl (fun _ e => by rw [e]; exact hb1.ld rfl)) rfl ?_)
    refine TL_call rfl en169 (l03With_c (h.ext e1) (by omega)) rfl rfl ?_
    rintro v2 w2 ⟨e2, ho2⟩
    repeat' (first | apply Jbq | apply Jbr | apply Jbu | apply Jbv | (apply Jcg; exact Jab rfl; exact rfl))
    refine TR_of (res1 rfl rfl) ⟨e1.ext e2, ?_⟩
    unfold pTurn
    rw [if_pos hk]
    exact ho2.wide (e1.size) (Nat.le_refl _) (Nat.le_refl _)
  · repeat' (first | apply Jbr | apply Jbs | apply Jbt | apply Jbz | (apply Jcg; (first | exact Jaa rfl | (apply Jbl; exact Us.h; exact rfl; exact Sz.h; exact rfl)); exact rfl) | refine Jcg (Pu_load Fl.h rfl (fun _ e => by rw [e]; exact hb1.ld rfl)) rfl ?_)
    refine TL_call rfl en85 (l03Find_c (h.ext e1) (by omega)) rfl rfl ?_
    rintro _ w2 ⟨rfl, e2⟩
    replace hb1 := hb1.ext e2
    repeat' (first | apply Jbq | apply Jbr | apply Jbs | apply Jbt | (apply Jcg; (first | exact Jaa rfl | exact Jab rfl | (apply Jbl; exact Us.h; exact rfl; exact Sz.h; exact rfl)); exact rfl) | refine Jcg (Pu_load Fl.h rfl (fun _ e => by rw [e]; exact hb1.ld rfl)) rfl ?_)
    refine TL_call rfl en170 (l03Less_c (h.ext (e1.ext e2)) (by omega)) rfl rfl ?_
    rintro v3 w3 ⟨e3, ho3⟩
    replace hb1 := hb1.ext e3
    have E3 := (e1.ext e2).ext e3
    have hl3 := dLess_length L t.name
    repeat' (first | apply Jbq | apply Jbr | apply Jbs | apply Jbt | (apply Jcg; (first | exact Jab rfl | exact Jak rfl rfl | (apply Jbl; exact Us.h; exact rfl; exact Sz.h; exact rfl)); exact rfl) | refine Jcg (Pu_load Fl.h rfl (fun _ e => by rw [e]; exact hb1.ld rfl)) rfl ?_)
    refine Jcx rfl (fun hk5 => ?_) (fun hk5 => ?_)
    · refine TC_any mixed rfl ?_
      intro w4 hE hz4
      (refine Jco 0 rfl (by kernel_rfl) (by kernel_rfl) (by kernel_rfl) (fun _ _ _ h => h) hE (by exact Jaa rfl) rfl ?_; refine Jco 1 rfl (by kernel_rfl) (by kernel_rfl) (by kernel_rfl) (fun _ _ _ h => h) hE (by (apply Jbl; exact Us.h; exact rfl; exact Sz.h; exact rfl)) rfl ?_; refine Jco 2 rfl (by kernel_rfl) (by kernel_rfl) (by kernel_rfl) (fun _ _ _ h => h) hE (by exact Pu_load Fl.h rfl (fun _ e => Ext.cell e (hb1.ld rfl))) rfl ?_; refine Jco 4 rfl (by kernel_rfl) (by kernel_rfl) (by kernel_rfl) (fun _ _ _ h => h) hE (by (apply Jbl; exact Us.h; exact rfl; exact Sz.h; exact rfl)) rfl ?_; refine Jco 5 rfl (by kernel_rfl) (by kernel_rfl) (by kernel_rfl) (fun _ _ _ h => h) hE (by exact Pu_load Fl.h rfl (fun _ e => Ext.cell e (hb1.ld rfl))) rfl ?_; refine Jco 6 rfl (by kernel_rfl) (by kernel_rfl) (by kernel_rfl) (fun _ _ _ h => h) hE (by exact Jaa rfl) rfl ?_)
      refine TA_one 3 (by kernel_rfl) rfl ?_
      refine TL_call rfl en170 (l03Less_c (ho3.rk.ext hE) (by omega)) rfl rfl ?_
      rintro v5 w5 ⟨e5, ho5⟩
      have hE5 := hE
      replace hE := hE.ext e5
      refine Jbq (TN_any hE ?_)
      refine TA_one 7 (by kernel_rfl) rfl ?_
      have hl5 := dLess_length (dLess L t.name) t.to
      refine TL_call rfl en169 (l03With_c ho5.rk (by omega)) rfl rfl ?_
      rintro v6 w6 ⟨e6, ho6⟩
      replace hE := hE.ext e6
      refine Jbq (TN_any hE ?_)
      (refine Jco 8 rfl (by kernel_rfl) (by kernel_rfl) (by kernel_rfl) (fun _ _ _ h => h) hE (by exact Jab rfl) rfl ?_)
      refine TA_done (by kernel_rfl) ?_
      repeat' (first | apply Jbq | apply Jbr | apply Jbs | apply Jbt | apply Jbu | (apply Jcg; (first | exact Jaa rfl | exact Jab rfl); exact rfl))
      refine TR_of (res1 rfl rfl) ⟨E3.ext hE, ?_⟩
      unfold pTurn
      rw [if_neg hk, if_pos hk5]
      exact ho6.wide (by have := E3.size; have := e5.size; have := hE5.size; omega) (Nat.le_refl _) (Nat.le_refl _)
    · repeat' (first | apply Jbq | apply Jbr | apply Jbs | apply Jbt | apply Jbu | apply Jbz | (apply Jcg; (first | exact Jaa rfl | exact Jab rfl); exact rfl))
      refine TR_of (res1 rfl rfl) ⟨E3, ?_⟩
      unfold pTurn
      rw [if_neg hk, if_neg hk5]
      exact ho3.wide (e1.ext e2).size (Nat.le_refl _) (Nat.le_refl _)
theorem l03Turn_c {w : World} {lo hi : Nat} {v : Value} {L : List LkD} {t : TnD} (h : RK w lo hi v L) (hl : L.length ≤ 1000) :
    Ret Tryz.prog 133 #[v, .agg (TnC t).toArray] w fun v' w' => Ext w w' ∧ RK w' 0 w'.heap.size v' (pTurn L t) := by
  refine (l03Turn_o h hl).mono fun v w' ⟨e, ho⟩ => ⟨e, ho.rk⟩
set_option maxHeartbeats 4000000 in
theorem l03TurnOk_c {w : World} {lo hi : Nat} {v : Value} {L : List LkD} {t : TnD} (h : RK w lo hi v L) (hl : L.length ≤ 1000) (hf : TnFit t) :
    Ret Tryz.prog 132 #[v, .agg (TnC t).toArray] w fun v' w' => (∃ b, v' = .bool b ∧ (b = true ↔ tOk L t)) ∧ Ext w w' := by
  refine Ret_enter Tryz.func132 rfl rfl rfl ?_
  repeat' (first | apply Jbs | apply Jbt)
  refine TL_box (cs := TnC t) rfl rfl ?_
  intro w1 g1 e1 hg1 hz1 hb1
  repeat' (first | apply Jbq | apply Jbr | apply Jbs | apply Jbt | (apply Jcg; (first | exact Jab rfl | exact Jaj rfl | (apply Jbl; exact Us.h; exact rfl; exact Sz.h; exact rfl)); exact rfl) | refine Jcg (Pu_load Fl.h rfl (fun _ e => by rw [e]; exact hb1.ld rfl)) rfl ?_ | (refine TL_call rfl en131 (specNameOk_c _ _ hf.1) rfl rfl ?_; rintro _ _ ⟨rfl, rfl⟩))
  refine Jcz rfl (fun hn => ?_) (fun hn => ?_)
  · repeat' (first | apply Jbq | apply Jbr | apply Jbs | apply Jbt | apply Jbu | apply Jbv | (apply Jcg; exact Jab rfl; exact rfl))
    exact TR_of (res1 rfl rfl) ⟨⟨_, rfl, by simp at hn; simp [tOk, hn]⟩, e1⟩
  have hn : pName t.name = true := by simpa using hn
  repeat' (first | apply Jbr | apply Jbs | apply Jbt | apply Jbz | (apply Jcg; (first | exact Jaa rfl | (apply Jbl; exact Us.h; exact rfl; exact Sz.h; exact rfl)); exact rfl) | refine Jcg (Pu_load Fl.h rfl (fun _ e => by rw [e]; exact hb1.ld rfl)) rfl ?_)
  refine TL_call rfl en85 (l03Find_c (h.ext e1) (by omega)) rfl rfl ?_
  rintro _ w2 ⟨rfl, e2⟩
  replace hb1 := hb1.ext e2
  have E := e1.ext e2
  repeat' (first | apply Jbq | apply Jbr | apply Jbs | apply Jbt | apply Jby | (apply Jcg; (first | exact Jab rfl | exact Jak rfl rfl | exact Jam rfl rfl | (apply Jbl; exact Us.h; exact rfl; exact Sz.h; exact rfl)); exact rfl) | refine Jcg (Pu_load Fl.h rfl (fun _ e => by rw [e]; exact hb1.ld rfl)) rfl ?_)
  by_cases h1 : t.kind = 1
  · repeat' (first | apply Jbq | apply Jbr | apply Jbs | apply Jbt | apply Jbu | apply Jbv | apply Jbw | (apply Jcg; (first | exact Jaa rfl | exact Jab rfl | exact Jah rfl rfl | exact Jai rfl rfl | exact Jaj rfl | exact Jam rfl rfl | exact Jas rfl rfl | (apply Jbl; exact Us.h; exact rfl; exact Sz.h; exact rfl)); exact rfl) | refine Jch rfl rfl rfl ?_ | refine Jci rfl rfl rfl rfl rfl ?_ | refine Jcg (Pu_load Fl.h rfl (fun _ e => by rw [e]; exact hb1.ld rfl)) rfl ?_ | (refine Jcs rfl rfl (fun hb => ?_) (fun hb => ?_) <;> (try (exfalso; omega))) | (refine Jcx rfl (fun hb => ?_) (fun hb => ?_) <;> (try (exfalso; omega))))
    all_goals exact TR_of (res1 rfl rfl) ⟨⟨_, rfl, by simp_all [tOk] <;> omega⟩, E⟩
  by_cases h5 : t.kind = 5
  · repeat' (first | apply Jbq | apply Jbr | apply Jbs | apply Jbt | apply Jbu | apply Jbv | apply Jbw | (apply Jcg; (first | exact Jaa rfl | exact Jab rfl | exact Jah rfl rfl | exact Jai rfl rfl | exact Jak rfl rfl | exact Jat rfl rfl | (apply Jbl; exact Us.h; exact rfl; exact Sz.h; exact rfl)); exact rfl) | refine Jch rfl rfl rfl ?_ | refine Jci rfl rfl rfl rfl rfl ?_ | refine Jcg (Pu_load Fl.h rfl (fun _ e => by rw [e]; exact hb1.ld rfl)) rfl ?_ | (refine TL_call rfl en131 (specNameOk_c _ _ hf.2.1) rfl rfl ?_; rintro _ _ ⟨rfl, rfl⟩) | (refine Jcs rfl rfl (fun hb => ?_) (fun hb => ?_) <;> (try (exfalso; omega))) | (refine Jct rfl rfl (fun hb => ?_) (fun hb => ?_) <;> (try (exfalso; omega))) | refine Jcr rfl rfl (fun hb => ?_) (fun hb => ?_) | (refine Jcx rfl (fun hb => ?_) (fun hb => ?_) <;> (try (exfalso; omega))))
    all_goals exact TR_of (res1 rfl rfl) ⟨⟨_, rfl, by simp_all [tOk] <;> omega⟩, E⟩
  by_cases h6 : t.kind = 6
  · repeat' (first | apply Jbq | apply Jbr | apply Jbs | apply Jbt | apply Jbu | apply Jbv | apply Jbw | (apply Jcg; (first | exact Jaa rfl | exact Jab rfl | exact Jah rfl rfl | exact Jai rfl rfl | exact Jak rfl rfl | exact Jas rfl rfl | (apply Jbl; exact Us.h; exact rfl; exact Sz.h; exact rfl)); exact rfl) | refine Jch rfl rfl rfl ?_ | refine Jci rfl rfl rfl rfl rfl ?_ | refine Jcg (Pu_load Fl.h rfl (fun _ e => by rw [e]; exact hb1.ld rfl)) rfl ?_ | (refine Jcs rfl rfl (fun hb => ?_) (fun hb => ?_) <;> (try (exfalso; omega))) | (refine Jcx rfl (fun hb => ?_) (fun hb => ?_) <;> (try (exfalso; omega))))
    all_goals exact TR_of (res1 rfl rfl) ⟨⟨_, rfl, by simp_all [tOk] <;> omega⟩, E⟩
  · repeat' (first | apply Jbq | apply Jbr | apply Jbs | apply Jbt | apply Jbu | apply Jbx | apply Jbz | (apply Jcg; (first | exact Jab rfl | exact Jak rfl rfl); exact rfl) | (refine Jcx rfl (fun hb => ?_) (fun hb => ?_) <;> (try (exfalso; omega))))
    all_goals exact TR_of (res1 rfl rfl) ⟨⟨_, rfl, by simp_all [tOk] <;> omega⟩, E⟩
set_option maxHeartbeats 1000000 in
theorem l03HasInt_c {w : World} {lo hi : Nat} {v : Value} {l : List Int} {i : Int} (h : RowR InC 1 w lo hi v l) (hl : l.length ≤ 1048576) :
    Ret Tryz.prog 89 #[v, I i] w fun v' w' => v' = .bool (decide (i ∈ l)) ∧ Ext w w' := by
  obtain ⟨A, c, rfl, hc, hr⟩ := h
  refine Ret_enter Tryz.func89 rfl rfl rfl ?_
  repeat' (first | apply Jbq | apply Jbr | apply Jbs | apply Jbt | apply Jby | (apply Jcg; (first | exact Jaa rfl | exact Jab rfl | exact Jac Us.h rfl); exact rfl))
  refine TC_loop (ι := Nat) (fun k => [(1, I i), (7, .slice A l.length c), (8, I l.length), (9, I k)]) (fun k w' => k ≤ l.length ∧ i ∉ l.take k ∧ Ext w w') (fun k => l.length - k) 0 (subEnv_cons rfl (subEnv_cons rfl (subEnv_cons rfl (subEnv_cons rfl (subEnv_nil _))))) ⟨Nat.zero_le _, by simp, Ch.refl _ _⟩ ?_
  intro k w2 ⟨hk, hn, e2⟩
  repeat' (first | apply Jbq | apply Jbr | apply Jbs | apply Jbt | (apply Jcg; exact Jad rfl rfl; exact rfl))
  refine Jcx rfl (fun hlt0 => ?_) (fun hge => ?_)
  · have hlt : k < l.length := by omega
    obtain ⟨ad, rfl, hcell⟩ := Rd.elem InC_len (hr.ext e2) hlt
    have hcell : w2.cell? (ad.add k) = some (I l[k]) := by have := hcell 0 _ rfl; rwa [add_of_add, Nat.add_zero, Nat.mul_one] at this
    repeat' (first | apply Jbq | apply Jbr | apply Jbs | apply Jbt | apply Jby | apply Jbz | (apply Jcg; (first | exact Jaa rfl | exact Jab rfl | exact Jag Us.h Sz.h rfl rfl (by omega) | exact Jak rfl rfl); exact rfl) | refine Jcg (Pu_load Fl.h rfl (fun _ e => by rw [e]; exact hcell)) rfl ?_)
    refine Jcx rfl (fun he => ?_) (fun he => ?_)
    · repeat' (first | apply Jbq | apply Jbr | apply Jbs | apply Jbt | apply Jbu | apply Jbv | apply Jbw | (apply Jcg; exact Jab rfl; exact rfl))
      exact TR_of (res1 rfl rfl) ⟨by rw [decide_eq_true (show i ∈ l by rw [← he]; exact List.getElem_mem hlt)], e2⟩
    · repeat' (first | apply Jbq | apply Jbr | apply Jbt | apply Jbx | apply Jbz | (apply Jcg; (first | exact Jaa rfl | exact Jaf rfl rfl (by omega)); exact rfl))
      refine TN_round (k + 1) (subEnv_cons rfl (subEnv_cons rfl (subEnv_cons rfl (subEnv_cons rfl (subEnv_nil _))))) ⟨hlt, ?_, e2⟩ (by omega)
      rw [List.take_succ_eq_append_getElem hlt, List.mem_append, List.mem_singleton]
      rintro (h | h)
      · exact hn h
      · exact he h.symm
  · obtain rfl : k = l.length := by omega
    rw [List.take_length] at hn
    repeat' (first | apply Jbq | apply Jbr | apply Jbs | apply Jbt | apply Jbu | apply Jca | apply Jcb | apply Jcc | (apply Jcg; exact Jab rfl; exact rfl))
    exact TR_of (res1 rfl rfl) ⟨by rw [decide_eq_false hn], e2⟩
theorem crs_take {ts : List TnD} {k : Nat} (h : k < ts.length) : ((ts.take (k + 1)).filter (fun t => decide (t.kind = 1))).map (·.id) = ((ts.take k).filter (fun t => decide (t.kind = 1))).map (·.id) ++ (if ts[k].kind = 1 then [ts[k].id] else []) := by
  rw [List.take_succ_eq_append_getElem h, List.filter_append, List.map_append]
  by_cases h1 : ts[k].kind = 1 <;> simp [h1]
theorem in_own {w1 : World} {g n : Nat} {i : Int} {w : World} (h : Own w1 g (g + 1) 3 1 (some ⟨g, 0, none⟩) n n (cellsL InC [i])) (hn : n = 1) (hg : g = w.heap.size) (hz : w1.heap.size = g + 1) : RowO InC 3 1 w1 w.heap.size w1.heap.size (.slice (some ⟨g, 0, none⟩) n n) [i] := RowO.new (by rw [hn]; rfl) h hg hz
set_option maxHeartbeats 2000000 in
theorem l03Ids_c {w : World} {lo hi : Nat} {d : DiskP} {sn sk st : Value} (h : RDk w lo hi d sn sk st) (hk : d.kept.length ≤ 1048576) (ht : d.turns.length ≤ 1048576) :
    Ret Tryz.prog 90 #[.agg (dskC d sn sk st).toArray] w fun v' w' => Ext w w' ∧ RowO InC 3 1 w' w.heap.size w'.heap.size v' (pIds d) := by
  obtain ⟨Ak, ck, rfl, hck, hrk⟩ := h.2.1.row
  obtain ⟨At, ct, rfl, hct, hrt⟩ := h.2.2.row
  refine Ret_enter Tryz.func90 rfl rfl rfl ?_
  repeat' (first | apply Jbs | apply Jbt)
  refine TL_box (cs := dskC d sn (.slice Ak d.kept.length ck) (.slice At d.turns.length ct)) rfl rfl ?_
  intro wb g E hg hz hbk
  clear hz
  have hzb := E.size
  have hb0 := hbk
  repeat' (first | apply Jbq | apply Jbr | apply Jbs | apply Jbt | apply Jby | (apply Jcg; (first | exact Jaa rfl | exact Jab rfl | exact Jac Us.h rfl | (apply Jbl; exact Us.h; exact rfl; exact Sz.h; exact rfl)); exact rfl) | refine Jcg (Pu_load Fl.h rfl (fun _ e => by rw [e]; exact hbk.ld rfl)) rfl ?_ | (refine TL_buildSlice0 Us.h Sz.h rfl ?_; intro w1 g1 e1 hg1 hz1 hown1; replace hbk := hbk.ext e1))
  refine TC_loop (ι := Nat × Value) (fun x => [(1, .pointer (some ⟨g, 0, none⟩)), (3, x.2), (10, .slice Ak d.kept.length ck), (11, I d.kept.length), (12, I x.1)]) (fun x w' => x.1 ≤ d.kept.length ∧ Ext wb w' ∧ RowO InC 3 1 w' wb.heap.size w'.heap.size x.2 ((d.kept.take x.1).map (·.id))) (fun x => d.kept.length - x.1) (0, _) (subEnv_cons rfl (subEnv_cons rfl (subEnv_cons rfl (subEnv_cons rfl (subEnv_cons rfl (subEnv_nil _)))))) ⟨Nat.zero_le _, e1, RowO.new (l := []) rfl hown1 hg1 hz1⟩ ?_
  rintro ⟨k, vo⟩ w2 ⟨hkk, e2, ho2⟩
  simp only at hkk ho2
  show TC _ _ _ _ [(1, .pointer (some ⟨g, 0, none⟩)), (3, vo), (10, .slice Ak d.kept.length ck), (11, I d.kept.length), (12, I (k : Int))] w2
  repeat' (first | apply Jbq | apply Jbr | apply Jbs | apply Jbt | (apply Jcg; exact Jad rfl rfl; exact rfl))
  refine Jcx rfl (fun hlt0 => ?_) (fun hge => ?_)
  · have hlt : k < d.kept.length := by omega
    obtain ⟨ad, rfl, hcell⟩ := Rd.elem LkC_len (hrk.ext (E.ext e2)) hlt
    repeat' (first | apply Jbq | apply Jbr | apply Jbs | apply Jbt | apply Jby | apply Jbz | (apply Jcg; (first | exact Jaa rfl | exact Jar Us.h Sz.h rfl rfl (by omega) | (apply Jbl; exact Us.h; exact rfl; exact Sz.h; exact rfl)); exact rfl) | refine Jcg (Pu_loadAgg (cs := LkC d.kept[k]) Us.h rfl Sz.h rfl (fun _ e j u hu => by rw [e]; exact hcell j u hu)) rfl ?_ | (refine TL_alloc Zs.h rfl rfl ?_; intro w3 g3 e3 hg3 hz3 hb3) | (refine TL_storeAgg rfl rfl Sz.h rfl hb3 rfl ?_; intro w4 c4 hz4 hb4) | refine Jcg (Pu_load Fl.h rfl (fun _ e => by rw [e]; exact hb4.ld rfl)) rfl ?_)
    have E4 : Ext w2 w4 := Ext.then_iv e3 c4 (by omega)
    refine TL_buildSlice Us.h Zi.h rfl rfl rfl rfl (fillI _) rfl rfl ?_
    intro w5 g5 e5 hg5 hz5 hown5
    skip
    refine TL_appendRow Us.h Inf.h rfl rfl rfl InC_one rfl rfl (ho2.ext (E4.ext e5)) (in_own hown5 rfl hg5 hz5).rd (e2.ext (E4.ext e5)).size (by simp only [List.length_cons, List.length_nil, List.length_map, List.length_take]; omega) rfl ?_
    intro w6 v6 c6 ho6
    repeat' (first | apply Jbq | apply Jbr | apply Jbt | apply Jbx | (apply Jcg; (first | exact Jaa rfl | exact Jab rfl | exact Jaf rfl rfl (by omega)); exact rfl))
    refine TN_round (k + 1, v6) (subEnv_cons rfl (subEnv_cons rfl (subEnv_cons rfl (subEnv_cons rfl (subEnv_cons rfl (subEnv_nil _)))))) ⟨hlt, Ext.then_iv (e2.ext (E4.ext e5)) c6 (Nat.le_refl _), ?_⟩ (by simp only; omega)
    simp only
    rw [List.take_succ_eq_append_getElem hlt, List.map_append]
    exact ho6
  · obtain rfl : k = d.kept.length := by omega
    rw [List.take_length] at ho2
    have hb2 := hb0.ext e2
    repeat' (first | apply Jbq | apply Jbr | apply Jbs | apply Jbt | apply Jby | apply Jca | apply Jcb | apply Jcc | (apply Jcg; (first | exact Jaa rfl | exact Jac Us.h rfl | (apply Jbl; exact Us.h; exact rfl; exact Sz.h; exact rfl)); exact rfl) | refine Jcg (Pu_load Fl.h rfl (fun _ e => by rw [e]; exact hb2.ld rfl)) rfl ?_)
    refine TC_loop (ι := Nat × Value) (fun x => [(3, x.2), (23, .slice At d.turns.length ct), (24, I d.turns.length), (25, I x.1)]) (fun x w' => x.1 ≤ d.turns.length ∧ Ext wb w' ∧ RowO InC 3 1 w' wb.heap.size w'.heap.size x.2 (d.kept.map (·.id) ++ ((d.turns.take x.1).filter (fun t => decide (t.kind = 1))).map (·.id))) (fun x => d.turns.length - x.1) (0, vo) (subEnv_cons rfl (subEnv_cons rfl (subEnv_cons rfl (subEnv_cons rfl (subEnv_nil _))))) ⟨Nat.zero_le _, e2, by simpa using ho2⟩ ?_
    rintro ⟨k, vo⟩ w2 ⟨hkk, e2, ho2⟩
    simp only at hkk ho2
    show TC _ _ _ _ [(3, vo), (23, .slice At d.turns.length ct), (24, I d.turns.length), (25, I (k : Int))] w2
    repeat' (first | apply Jbq | apply Jbr | apply Jbs | apply Jbt | (apply Jcg; exact Jad rfl rfl; exact rfl))
    refine Jcx rfl (fun hlt0 => ?_) (fun hge => ?_)
    · have hlt : k < d.turns.length := by omega
      have hct := crs_take hlt
      obtain ⟨ad, rfl, hcell⟩ := Rd.elem TnC_len (hrt.ext (E.ext e2)) hlt
      repeat' (first | apply Jbq | apply Jbr | apply Jbs | apply Jbt | apply Jby | apply Jbz | (apply Jcg; (first | exact Jak rfl rfl | exact Jar Us.h Sz.h rfl rfl (by omega) | (apply Jbl; exact Us.h; exact rfl; exact Sz.h; exact rfl)); exact rfl) | refine Jcg (Pu_loadAgg (cs := TnC d.turns[k]) Us.h rfl Sz.h rfl (fun _ e j u hu => by rw [e]; exact hcell j u hu)) rfl ?_ | (refine TL_alloc Zs.h rfl rfl ?_; intro w3 g3 e3 hg3 hz3 hb3) | (refine TL_storeAgg rfl rfl Sz.h rfl hb3 rfl ?_; intro w4 c4 hz4 hb4) | refine Jcg (Pu_load Fl.h rfl (fun _ e => by rw [e]; exact hb4.ld rfl)) rfl ?_)
      have E4 : Ext w2 w4 := Ext.then_iv e3 c4 (by omega)
      refine Jcx rfl (fun h1 => ?_) (fun h1 => ?_)
      · rw [if_pos h1] at hct
        repeat' (first | apply Jbt | (apply Jcg; (first | exact Jaa rfl | (apply Jbl; exact Us.h; exact rfl; exact Sz.h; exact rfl)); exact rfl) | refine Jcg (Pu_load Fl.h rfl (fun _ e => by rw [e]; exact hb4.ld rfl)) rfl ?_)
        refine TL_buildSlice Us.h Zi.h rfl rfl rfl rfl (fillI _) rfl rfl ?_
        intro w5 g5 e5 hg5 hz5 hown5
        skip
        refine TL_appendRow Us.h Inf.h rfl rfl rfl InC_one rfl rfl (ho2.ext (E4.ext e5)) (in_own hown5 rfl hg5 hz5).rd (e2.ext (E4.ext e5)).size (by simp only [List.length_append, List.length_cons, List.length_nil, List.length_map]; refine Nat.le_trans (Nat.add_le_add_right (Nat.add_le_add_left (List.length_filter_le _ _) _) _) ?_; rw [List.length_take]; omega) rfl ?_
        intro w6 v6 c6 ho6
        repeat' (first | apply Jbq | apply Jbr | apply Jbt | apply Jbx | (apply Jcg; (first | exact Jaa rfl | exact Jab rfl | exact Jaf rfl rfl (by omega)); exact rfl))
        refine TN_round (k + 1, v6) (subEnv_cons rfl (subEnv_cons rfl (subEnv_cons rfl (subEnv_cons rfl (subEnv_nil _))))) ⟨hlt, Ext.then_iv (e2.ext (E4.ext e5)) c6 (Nat.le_refl _), ?_⟩ (by simp only; omega)
        simp only
        rw [hct, ← List.append_assoc]
        exact ho6
      · rw [if_neg h1, List.append_nil] at hct
        repeat' (first | apply Jbq | apply Jbr | apply Jbt | apply Jbx | apply Jbz | (apply Jcg; (first | exact Jaa rfl | exact Jaf rfl rfl (by omega)); exact rfl))
        refine TN_round (k + 1, vo) (subEnv_cons rfl (subEnv_cons rfl (subEnv_cons rfl (subEnv_cons rfl (subEnv_nil _))))) ⟨hlt, e2.ext E4, ?_⟩ (by simp only; omega)
        simp only
        rw [hct]
        exact (ho2.ext E4).wide (Nat.le_refl _) E4.size (Nat.le_refl _)
    · obtain rfl : k = d.turns.length := by omega
      rw [List.take_length] at ho2
      repeat' (first | apply Jbq | apply Jbr | apply Jbs | apply Jbt | apply Jbu | apply Jca | apply Jcb | apply Jcc | (apply Jcg; (first | exact Jaa rfl | exact Jab rfl); exact rfl))
      exact TR_of (res1 rfl rfl) ⟨E.ext e2, ho2.wide hzb (Nat.le_refl _) (Nat.le_refl _)⟩
end Go.Proofs.YtggaghghclomkaaGreat

/- Numbers in bytes, checksums, digits: the plain law. No condition. -/
namespace Go.Proofs.YtggaghghclomkaaGreat
open Go.RowKit

theorem bit_xor64 (a b : Nat) (ha : a < 9223372036854775808) (hb : b < 9223372036854775808) : bitv .xor .i64 (a : Int) (b : Int) = ((a ^^^ b : Nat) : Int) := by
  have h : a ^^^ b < 2 ^ 63 := Nat.xor_lt_two_pow (by omega) (by omega)
  have e : (BitVec.ofInt 64 (a : Int) ^^^ BitVec.ofInt 64 (b : Int)).toNat = a ^^^ b := by
    rw [BitVec.ofInt_natCast, BitVec.ofInt_natCast, BitVec.toNat_xor, BitVec.toNat_ofNat, BitVec.toNat_ofNat, Nat.mod_eq_of_lt (by omega), Nat.mod_eq_of_lt (by omega)]
  show IntKind.i64.wrap (((BitVec.ofInt 64 (a : Int) ^^^ BitVec.ofInt 64 (b : Int)).toNat : Nat) : Int) = _
  rw [e, IntWalk.i64_in _ (by omega)]
theorem bit_xor32 (a b : Nat) (ha : a < 4294967296) (hb : b < 4294967296) : bitv .xor .u32 (a : Int) (b : Int) = ((a ^^^ b : Nat) : Int) := by
  have h : a ^^^ b < 2 ^ 32 := Nat.xor_lt_two_pow (by omega) (by omega)
  have e : (BitVec.ofInt 32 (a : Int) ^^^ BitVec.ofInt 32 (b : Int)).toNat = a ^^^ b := by
    rw [BitVec.ofInt_natCast, BitVec.ofInt_natCast, BitVec.toNat_xor, BitVec.toNat_ofNat, BitVec.toNat_ofNat, Nat.mod_eq_of_lt (by omega), Nat.mod_eq_of_lt (by omega)]
  show IntKind.u32.wrap (((BitVec.ofInt 32 (a : Int) ^^^ BitVec.ofInt 32 (b : Int)).toNat : Nat) : Int) = _
  rw [e, IntKind.wrap_u32]; omega
theorem bit_and32 (a b : Nat) (ha : a < 4294967296) (hb : b < 4294967296) : bitv .and .u32 (a : Int) (b : Int) = ((a &&& b : Nat) : Int) := by
  have h : a &&& b < 2 ^ 32 := Nat.and_lt_two_pow _ (by omega)
  have e : (BitVec.ofInt 32 (a : Int) &&& BitVec.ofInt 32 (b : Int)).toNat = a &&& b := by
    rw [BitVec.ofInt_natCast, BitVec.ofInt_natCast, BitVec.toNat_and, BitVec.toNat_ofNat, BitVec.toNat_ofNat, Nat.mod_eq_of_lt (by omega), Nat.mod_eq_of_lt (by omega)]
  show IntKind.u32.wrap (((BitVec.ofInt 32 (a : Int) &&& BitVec.ofInt 32 (b : Int)).toNat : Nat) : Int) = _
  rw [e, IntKind.wrap_u32]; omega
theorem and_one32 (a : Nat) (ha : a < 4294967296) : bitv .and .u32 (a : Int) 1 = ((a % 2 : Nat) : Int) := by
  have := bit_and32 a 1 ha (by omega)
  rw [Nat.and_one_is_mod] at this
  exact this
/-! numbers in bytes -/
theorem pow4 : ∀ k : Nat, k ≤ 4 → 0 < (256 : Int) ^ k ∧ (256 : Int) ^ k ≤ 4294967296
  | 0, _ => ⟨by decide, by decide⟩
  | 1, _ => ⟨by decide, by decide⟩
  | 2, _ => ⟨by decide, by decide⟩
  | 3, _ => ⟨by decide, by decide⟩
  | 4, _ => ⟨by decide, by decide⟩
  | k + 5, h => by omega
def putR (n : Int) : Nat → List UInt8
  | 0 => []
  | k + 1 => pb (n / 256 ^ k) :: putR n k
@[simp] theorem putR_length (n : Int) : ∀ k, (putR n k).length = k
  | 0 => rfl
  | k + 1 => by simp [putR, putR_length n k]
def pPut (b : List UInt8) (n size : Int) : List UInt8 × Bool :=
  if 1 ≤ size ∧ size ≤ 4 ∧ 0 ≤ n ∧ n < 256 ^ size.toNat ∧ (b.length : Int) + size ≤ 65536 then (b ++ putR n size.toNat, true) else ([], false)
def getF (b : List UInt8) (a : Nat) : Nat → Int
  | 0 => 0
  | k + 1 => getF b a k * 256 + ((b.getD (a + k) 0).toNat : Int)
theorem getF_nn (b : List UInt8) (a : Nat) : ∀ k, 0 ≤ getF b a k
  | 0 => by simp [getF]
  | k + 1 => by have := getF_nn b a k; simp only [getF]; omega
theorem getF_lt (b : List UInt8) (a : Nat) : ∀ k, getF b a k < 256 ^ k
  | 0 => by simp [getF]
  | k + 1 => by
    have := getF_lt b a k
    have h := (b.getD (a + k) 0).toNat_lt
    simp only [getF, Int.pow_succ]
    omega
theorem getF_le (b : List UInt8) (a k : Nat) (hk : k ≤ 4) : getF b a k < 4294967296 := by
  have h := getF_lt b a k
  have := (pow4 k hk).2
  omega
theorem putR_back (n : Int) : ∀ k, putR n (k + 1) = putR (n / 256) k ++ [pb n]
  | 0 => by simp [putR]
  | k + 1 => by
    have h : n / 256 / 256 ^ k = n / 256 ^ (k + 1) := by rw [Int.pow_succ, Int.mul_comm, ← Int.ediv_ediv_of_nonneg (by omega)]
    rw [putR, putR_back n k, putR, h]; rfl
/-- Bytes as a number. -/
def val (s : List UInt8) : Int := s.foldl (fun n x => n * 256 + (x.toNat : Int)) 0
theorem val_snoc (s : List UInt8) (x : UInt8) : val (s ++ [x]) = val s * 256 + x.toNat := by simp [val, List.foldl_append]
theorem pb_toNat (x : Int) : ((pb x).toNat : Int) = x % 256 := by
  unfold pb
  rw [UInt8.toNat_ofNat']
  omega
theorem pb_of {x : Int} {c : UInt8} (h : x % 256 = c.toNat) : pb x = c := by
  apply UInt8.toNat_inj.1
  have := pb_toNat x
  omega
theorem val_putR : ∀ (k : Nat) {n : Int}, 0 ≤ n → n < 256 ^ k → val (putR n k) = n
  | 0, n, h0, h1 => by simp at h1; simp [putR, val]; omega
  | k + 1, n, h0, h1 => by
    rw [putR_back, val_snoc, val_putR k (by omega) (by rw [Int.pow_succ] at h1; omega), pb_toNat]
    omega
theorem putR_val : ∀ s : List UInt8, putR (val s) s.length = s := by
  have : ∀ (n : Nat) (s : List UInt8), s.length = n → putR (val s) n = s := by
    intro n
    induction n with
    | zero => intro s h; rw [List.eq_nil_of_length_eq_zero h]; rfl
    | succ n ih =>
      intro s h
      have hne : s ≠ [] := by intro e; subst e; simp at h
      obtain ⟨s', x, rfl⟩ : ∃ s' x, s = s' ++ [x] := ⟨_, _, (List.dropLast_concat_getLast hne).symm⟩
      have hl : s'.length = n := by simpa using h
      have hx := x.toNat_lt
      rw [val_snoc, putR_back, show (val s' * 256 + (x.toNat : Int)) / 256 = val s' by omega, ih s' hl]
      rw [pb_of (c := x) (by omega)]
  exact fun s => this _ s rfl
theorem getF_val (b : List UInt8) (a : Nat) : ∀ k, a + k ≤ b.length → getF b a k = val ((b.drop a).take k)
  | 0, _ => by simp [getF, val]
  | k + 1, h => by
    have hk : k < (b.drop a).length := by rw [List.length_drop]; omega
    rw [List.take_succ_eq_append_getElem hk, val_snoc, ← getF_val b a k (by omega), getF]
    congr 2
    rw [List.getElem_drop, List.getD_eq_getElem?_getD, List.getElem?_eq_getElem (by omega)]; rfl
theorem getF_putR {b : List UInt8} {a k : Nat} (h : a + k ≤ b.length) : putR (getF b a k) k = (b.drop a).take k := by
  have hl : ((b.drop a).take k).length = k := by rw [List.length_take, List.length_drop]; omega
  have := putR_val ((b.drop a).take k)
  rw [hl] at this
  rw [getF_val b a k h, this]
def pGet (b : List UInt8) (a size : Int) : Int × Bool :=
  if 1 ≤ size ∧ size ≤ 4 ∧ 0 ≤ a ∧ a ≤ b.length - size then (getF b a.toNat size.toNat, true) else (0, false)

/-! checksums -/
def crcBit (r : Nat) : Nat := if r % 2 = 1 then (r / 2) ^^^ 3988292384 else r / 2
theorem crcBit_lt {r : Nat} (h : r < 4294967296) : crcBit r < 4294967296 := by
  unfold crcBit
  split
  · exact Nat.xor_lt_two_pow (n := 32) (by omega) (by omega)
  · omega
def crcBits (r : Nat) : Nat → Nat
  | 0 => r
  | k + 1 => crcBit (crcBits r k)
theorem crcBits_lt {r : Nat} (h : r < 4294967296) : ∀ k, crcBits r k < 4294967296
  | 0 => h
  | k + 1 => crcBit_lt (crcBits_lt h k)
def crcStep (r : Nat) (x : UInt8) : Nat := crcBits (r ^^^ x.toNat) 8
theorem xor8_lt {r : Nat} (h : r < 4294967296) (x : UInt8) : r ^^^ x.toNat < 4294967296 := by
  have := x.toNat_lt
  exact Nat.xor_lt_two_pow (n := 32) (by omega) (by omega)
theorem crcStep_lt {r : Nat} (h : r < 4294967296) (x : UInt8) : crcStep r x < 4294967296 := crcBits_lt (xor8_lt h x) 8
def crcR (r : Nat) (s : List UInt8) : Nat := s.foldl crcStep r
theorem crcR_lt : ∀ (s : List UInt8) {r : Nat}, r < 4294967296 → crcR r s < 4294967296
  | [], _, h => h
  | x :: s, _, h => crcR_lt s (crcStep_lt h x)
theorem crcR_take {r : Nat} {s : List UInt8} {k : Nat} (h : k < s.length) : crcR r (s.take (k + 1)) = crcStep (crcR r (s.take k)) (s.getD k 0) := by
  unfold crcR
  rw [List.take_succ_eq_append_getElem h, List.foldl_append]
  simp [List.getD_eq_getElem?_getD, List.getElem?_eq_getElem h]
def crc (s : List UInt8) : Nat := crcR 4294967295 s ^^^ 4294967295
theorem crc_lt (s : List UInt8) : crc s < 4294967296 := Nat.xor_lt_two_pow (n := 32) (crcR_lt s (by omega)) (by omega)

/-! digits -/
def hexd (c : UInt8) : Nat := if 48 ≤ c.toNat ∧ c.toNat ≤ 57 then c.toNat - 48 else if 97 ≤ c.toNat ∧ c.toNat ≤ 102 then c.toNat - 87 else 16
def pairs (s : List UInt8) (m : Nat) : List UInt8 := (List.range m).map fun j => UInt8.ofNat (16 * hexd (s.getD (2 * j) 0) + hexd (s.getD (2 * j + 1) 0))
@[simp] theorem pairs_length (s : List UInt8) (m : Nat) : (pairs s m).length = m := by simp [pairs]
theorem RB.to {w : World} {lo hi c : Nat} {A : Option Addr} {s : List UInt8} {k : Int} (h : Rd w lo hi 1 A s.length (u8s s)) (hk : 0 ≤ k ∧ k ≤ s.length) (hc : s.length ≤ c) : RB w lo hi (.slice (cutA A c 0 1) k.toNat c) (s.take k.toNat) := by
  have hl : (s.take k.toNat).length = k.toNat := by rw [List.length_take]; omega
  exact ⟨_, _, by rw [hl], by rw [hl]; omega, by rw [hl]; exact h.to8 hk hc⟩
theorem RB.from {w : World} {lo hi c : Nat} {A : Option Addr} {s : List UInt8} {k : Int} (h : Rd w lo hi 1 A s.length (u8s s)) (hk : 0 ≤ k ∧ k ≤ s.length) (hc : s.length ≤ c) : RB w lo hi (.slice (cutA A c k.toNat 1) (s.length - k.toNat) (c - k.toNat)) (s.drop k.toNat) := by
  have hl : (s.drop k.toNat).length = s.length - k.toNat := by rw [List.length_drop]
  exact ⟨_, _, by rw [hl], by rw [hl]; omega, by rw [hl]; exact h.from8 hk hc⟩
end Go.Proofs.YtggaghghclomkaaGreat

/- Contracts: numbers in bytes, checksums, digits. -/
namespace Go.Proofs.YtggaghghclomkaaGreat
open Go.RowKit
attribute [local irreducible] TL TC TN TX TR TQ TA Pu Ret

section
variable {P : Program} {C : World → Prop} {n : Nat} {l : Env} {dd : Option Nat} {ty : TypeId} {pos : String} {af : Array Edge} {v : Value}
end
theorem l01Pow_c (k : Nat) (w : World) (hk : k ≤ 4) : Ret Tryz.prog 181 #[I k] w fun v w' => v = I (256 ^ k) ∧ w = w' := by
  refine Ret_enter Tryz.func181 rfl rfl rfl ?_
  repeat' (first | apply Jbq | apply Jbr | apply Jbs | apply Jbt | apply Jby | (apply Jcg; exact Jab rfl; exact rfl))
  refine TC_loop (ι := Nat) (fun i => [(0, I k), (3, I (256 ^ i)), (4, I i)]) (fun i w' => i ≤ k ∧ w = w') (fun i => k - i) 0 (subEnv_cons rfl (subEnv_cons rfl (subEnv_cons rfl (subEnv_nil _)))) ⟨Nat.zero_le _, rfl⟩ ?_
  rintro i _ ⟨hi, rfl⟩
  have hp := pow4 i (by omega)
  repeat' (first | apply Jbq | apply Jbr | apply Jbs | apply Jbt | (apply Jcg; (first | exact Jaa rfl | exact Jad rfl rfl); exact rfl))
  refine Jcx rfl (fun hb => ?_) (fun hb => ?_)
  · repeat' (first | apply Jbq | apply Jbr | apply Jbs | apply Jbt | apply Jbx | apply Jby | apply Jbz | (apply Jcg; (first | exact Jaa rfl | exact Jab rfl | exact Jaf rfl rfl (by omega) | exact Jbk rfl rfl (by omega)); exact rfl))
    exact TN_round (i + 1) (subEnv_cons rfl (subEnv_cons (congrArg (fun z => some (I z)) (Int.pow_succ _ _).symm) (subEnv_cons rfl (subEnv_nil _)))) ⟨by omega, rfl⟩ (by omega)
  · obtain rfl : i = k := by omega
    repeat' (first | apply Jbq | apply Jbr | apply Jbs | apply Jbt | apply Jbu | apply Jca | apply Jcb | apply Jcc | (apply Jcg; (first | exact Jaa rfl | exact Jab rfl); exact rfl))
    exact TR_of (res1 rfl rfl) ⟨rfl, rfl⟩
theorem shr_pow {n : Int} (k : Nat) (hk : k < 4) : n.fdiv (2 ^ (min (8 * (k : Int)).toNat IntKind.i64.bits)) = n / 256 ^ k := by
  rw [Int.fdiv_eq_ediv_of_nonneg _ (by exact Int.pow_nonneg (by omega))]
  congr 1
  match k, hk with
  | 0, _ | 1, _ | 2, _ | 3, _ => decide
set_option maxHeartbeats 1000000 in
theorem putNum_c {lo : Nat} {v : Value} {b : List UInt8} {n : Int} {k : Nat} {w : World} (ho : OB w lo w.heap.size v b) (hlo : lo ≤ w.heap.size) (hl : b.length ≤ 1048576) (hk : k ≤ 4) :
    Ret Tryz.prog 163 #[v, I n, I k] w fun v' w' => Ch (Iv lo w.heap.size) w w' ∧ OB w' lo w'.heap.size v' (b ++ putR n k) := by
  refine Ret_enter Tryz.func163 rfl rfl rfl ?_
  repeat' (first | apply Jbq | apply Jbr | apply Jbs | apply Jbt | apply Jby | (apply Jcg; (first | exact Jaa rfl | exact Jab rfl | exact Jap rfl rfl (by omega)); exact rfl))
  refine TC_loop (ι := Nat × List UInt8 × Value) (fun x => [(0, x.2.2), (1, I n), (7, I ((x.1 : Int) - 1))])
    (fun x w' => x.1 ≤ k ∧ x.2.1 ++ putR n x.1 = b ++ putR n k ∧ x.2.1.length + x.1 = b.length + k ∧ Ch (Iv lo w.heap.size) w w' ∧ OB w' lo w'.heap.size x.2.2 x.2.1) (fun x => x.1) (k, b, v) (subEnv_cons rfl (subEnv_cons rfl (subEnv_cons rfl (subEnv_nil _)))) ⟨Nat.le_refl _, rfl, rfl, Ch.refl _ _, ho⟩ ?_
  rintro ⟨m, acc, va⟩ w2 ⟨hm, heq, hlen, e2, ho2⟩
  simp only at hm heq hlen ho2
  repeat' (first | apply Jbq | apply Jbr | apply Jbs | apply Jbt | (apply Jcg; (first | exact Jaa rfl | exact Jao rfl rfl); exact rfl))
  refine Jcx rfl (fun hb => ?_) (fun hb => ?_)
  · obtain ⟨j, rfl⟩ : ∃ j, m = j + 1 := ⟨m - 1, by omega⟩
    rw [show ((j + 1 : Nat) : Int) - 1 = j by omega]
    repeat' (first | apply Jbr | apply Jbs | apply Jbt | apply Jby | apply Jbz | (apply Jcg; (first | exact Jaa rfl | exact Jaw Us.h Us.h rfl | exact Jbk rfl rfl (by omega)); exact rfl) | refine Jcg (Pu_shr rfl rfl (by omega)) rfl ?_)
    rw [shr_pow j (by omega)]
    skip
    refine TL_buildSlice Us.h Zi.h rfl rfl rfl rfl (fillu1 _) rfl rfl ?_
    intro w3 g e3 hg hz3 hown
    refine TL_appendB Us.h rfl rfl (ho2.ext e3) (OB_new (s := [_]) rfl hown hg hz3).rd (by have := e2.size; have := e3.size; omega) (by simp only [List.length_cons, List.length_nil]; omega) rfl ?_
    intro w4 v4 c4 ho4
    have hs2 := e2.size
    have hs3 := e3.size
    repeat' (first | apply Jbq | apply Jbr | apply Jbt | apply Jbx | (apply Jcg; (first | exact Jaa rfl | exact Jab rfl | exact Jap rfl rfl (by omega)); exact rfl))
    refine TN_round (j, acc ++ [pb (n / 256 ^ j)], v4) (subEnv_cons rfl (subEnv_cons rfl (subEnv_cons rfl (subEnv_nil _)))) ⟨by omega, ?_, by simp only [List.length_append, List.length_cons, List.length_nil]; omega, ?_, ho4⟩ (by simp only; omega)
    · rw [← heq, putR]; simp
    · exact (e2.ext e3).trans c4 (fun _ _ t => t) (fun i hi t => ⟨t.1, hi⟩)
  · obtain rfl : m = 0 := by omega
    simp only [putR, List.append_nil] at heq
    subst heq
    repeat' (first | apply Jbq | apply Jbr | apply Jbs | apply Jbt | apply Jbu | apply Jca | apply Jcb | apply Jcc | (apply Jcg; (first | exact Jaa rfl | exact Jab rfl); exact rfl))
    exact TR_of (res1 rfl rfl) ⟨e2, ho2⟩
theorem l01Pow_i {k : Int} (w : World) (hk : 0 ≤ k ∧ k ≤ 4) : Ret Tryz.prog 181 #[I k] w fun v w' => v = I (256 ^ k.toNat) ∧ w = w' := by
  obtain ⟨m, rfl⟩ := Int.eq_ofNat_of_zero_le hk.1
  exact l01Pow_c m w (by omega)
theorem pb_rem (x : Int) : UInt8.ofNat (x % 256 % 256).toNat = pb x := by unfold pb; rw [Int.emod_emod_of_dvd _ (Int.dvd_refl 256)]
theorem pPut_no {b : List UInt8} {n size : Int} (h : ¬ (1 ≤ size ∧ size ≤ 4 ∧ 0 ≤ n ∧ n < 256 ^ size.toNat ∧ (b.length : Int) + size ≤ 65536)) : pPut b n size = ([], false) := by unfold pPut; rw [if_neg h]
theorem pPut_yes {b : List UInt8} {n size : Int} (h : 1 ≤ size ∧ size ≤ 4 ∧ 0 ≤ n ∧ n < 256 ^ size.toNat ∧ (b.length : Int) + size ≤ 65536) : pPut b n size = (b ++ putR n size.toNat, true) := by unfold pPut; rw [if_pos h]
set_option maxHeartbeats 2000000 in
theorem specPutNum_k {lo hi : Nat} {vb : Value} {b : List UInt8} {n size : Int} {w : World} (hR : RB w lo hi vb b) (hl : b.length ≤ 1048576) :
    Ret Tryz.prog 166 #[vb, I n, I size] w fun v w' => ∃ v', v = .tuple #[v', .bool (pPut b n size).2] ∧ Ext w w' ∧ OB w' w.heap.size w'.heap.size v' (pPut b n size).1 := by
  have hr := hR
  obtain ⟨A, c, rfl, hc, _⟩ := hr
  refine Ret_enter Tryz.func166 rfl rfl rfl ?_
  by_cases h : 1 ≤ size ∧ size ≤ 4 ∧ 0 ≤ n ∧ n < 256 ^ size.toNat ∧ (b.length : Int) + size ≤ 65536
  · rw [pPut_yes h]
    obtain ⟨k, rfl⟩ := Int.eq_ofNat_of_zero_le (show 0 ≤ size by omega)
    rw [Int.toNat_natCast] at h ⊢
    have hk : k ≤ 4 := by omega
    have hp := pow4 k hk
    repeat' (first | apply Jbq | apply Jbr | apply Jbs | apply Jbt | apply Jbz | (apply Jcg; (first | exact Jaa rfl | exact Jab rfl | exact Jac Us.h rfl | exact Jad rfl rfl | exact Jai rfl rfl | exact Jam rfl rfl | exact Jao rfl rfl | exact Jap rfl rfl (by omega)); exact rfl) | refine Jch rfl rfl rfl ?_ | (refine TL_call rfl en181 (l01Pow_c k _ (by omega)) rfl rfl ?_; rintro _ _ ⟨rfl, rfl⟩) | (refine TL_buildSlice0 Us.h Sz.h rfl ?_; intro w1 g1 e1 hg1 hz1 hown1) | (refine Jcs rfl rfl (fun hb => ?_) (fun hb => ?_) <;> (try (exfalso; omega))) | (refine Jcx rfl (fun hb => ?_) (fun hb => ?_) <;> (try (exfalso; omega))))
    refine TL_appendB Us.h rfl rfl (OB_new (s := []) rfl hown1 hg1 hz1) (hR.ext e1) e1.size (by simp only [List.length_nil]; omega) rfl ?_
    intro w2 v2 c2 ho2
    have e2 := Ext.then_iv e1 c2 (Nat.le_refl _)
    have hz2 := e2.size
    rw [List.nil_append] at ho2
    repeat' (first | apply Jbq | apply Jbr | apply Jbs | apply Jbt | apply Jby | (apply Jcg; (first | exact Jaa rfl | exact Jab rfl | exact Jap rfl rfl (by omega)); exact rfl))
    refine TC_loop (ι := Nat × List UInt8 × Value) (fun x => [(1, I n), (8, x.2.2), (9, I ((x.1 : Int) - 1))])
      (fun x w' => x.1 ≤ k ∧ x.2.1 ++ putR n x.1 = b ++ putR n k ∧ x.2.1.length + x.1 = b.length + k ∧ Ext w w' ∧ OB w' w.heap.size w'.heap.size x.2.2 x.2.1) (fun x => x.1) (k, b, v2) (subEnv_cons rfl (subEnv_cons rfl (subEnv_cons rfl (subEnv_nil _)))) ⟨Nat.le_refl _, rfl, rfl, e2, ho2⟩ ?_
    rintro ⟨m, acc, va⟩ w3 ⟨hm, heq, hlen, e3, ho3⟩
    simp only at hm heq hlen ho3
    repeat' (first | apply Jbq | apply Jbr | apply Jbs | apply Jbt | (apply Jcg; (first | exact Jaa rfl | exact Jao rfl rfl); exact rfl))
    refine Jcx rfl (fun hb => ?_) (fun hb => ?_)
    · obtain ⟨j, rfl⟩ : ∃ j, m = j + 1 := ⟨m - 1, by omega⟩
      rw [show ((j + 1 : Nat) : Int) - 1 = j by omega]
      have hpj := pow4 j (by omega)
      have hq : 0 ≤ n / 256 ^ j := Int.ediv_nonneg (by omega) (by omega)
      repeat' (first | apply Jbr | apply Jbs | apply Jbt | apply Jby | apply Jbz | (apply Jcg; (first | exact Jaa rfl | exact Jaw Us.h Us.h rfl | exact Jbi rfl rfl (by omega) | exact Jbj rfl rfl (by omega)); exact rfl) | (refine TL_call rfl en181 (l01Pow_c j _ (by omega)) rfl rfl ?_; rintro _ _ ⟨rfl, rfl⟩))
      rw [pb_rem]
      refine TL_buildSlice Us.h Zi.h rfl rfl rfl rfl (fillu1 _) rfl rfl ?_
      intro w4 g4 e4 hg4 hz4 hown4
      refine TL_appendB Us.h rfl rfl (ho3.ext e4) (OB_new (s := [_]) rfl hown4 hg4 hz4).rd (by have := e3.size; have := e4.size; omega) (by simp only [List.length_cons, List.length_nil]; omega) rfl ?_
      intro w5 v5 c5 ho5
      repeat' (first | apply Jbq | apply Jbr | apply Jbt | apply Jbx | (apply Jcg; (first | exact Jaa rfl | exact Jab rfl | exact Jap rfl rfl (by omega)); exact rfl))
      refine TN_round (j, acc ++ [pb (n / 256 ^ j)], v5) (subEnv_cons rfl (subEnv_cons rfl (subEnv_cons rfl (subEnv_nil _)))) ⟨by omega, ?_, by simp only [List.length_append, List.length_cons, List.length_nil]; omega, Ext.then_iv (e3.ext e4) c5 (Nat.le_refl _), ho5⟩ (by simp only; omega)
      rw [← heq, putR]; simp
    · obtain rfl : m = 0 := by omega
      simp only [putR, List.append_nil] at heq
      subst heq
      repeat' (first | apply Jbq | apply Jbr | apply Jbs | apply Jbt | apply Jbu | apply Jca | apply Jcb | apply Jcc | (apply Jcg; (first | exact Jaa rfl | exact Jab rfl); exact rfl))
      exact TR_of (res2 rfl rfl rfl) ⟨_, rfl, e3, ho3⟩
  · rw [pPut_no h]
    repeat' (first | apply Jbq | apply Jbr | apply Jbs | apply Jbt | apply Jbu | apply Jbv | (refine Jce rfl ?_) | (apply Jcg; (first | exact Jaa rfl | exact Jab rfl | exact Jac Us.h rfl | exact Jad rfl rfl | exact Jah rfl rfl | exact Jai rfl rfl | exact Jam rfl rfl | exact Jao rfl rfl | exact Jap rfl rfl (by omega)); exact rfl) | refine Jch rfl rfl rfl ?_ | refine Jci rfl rfl rfl rfl rfl ?_ | (refine TL_call rfl en181 (l01Pow_i _ (by omega)) rfl rfl ?_; rintro _ _ ⟨rfl, rfl⟩) | (refine Jcs rfl rfl (fun hb => ?_) (fun hb => ?_) <;> (try (exfalso; omega))) | (refine Jcx rfl (fun hb => ?_) (fun hb => ?_) <;> (try (exfalso; omega))))
    all_goals exact TR_of (res2 rfl rfl rfl) ⟨_, rfl, Ch.refl _ _, OB.nil _ _ (Nat.le_refl _)⟩
theorem in_t {n lo hi : Int} (w : World) (h : lo ≤ n ∧ n ≤ hi) : Ret Tryz.prog 101 #[I n, I lo, I hi] w fun v w' => v = .bool true ∧ w = w' := (in_c n lo hi w).mono fun v w' ⟨h1, h2⟩ => ⟨by rw [h1]; simp [inB, h], h2⟩
theorem in_f {n lo hi : Int} (w : World) (h : ¬ (lo ≤ n ∧ n ≤ hi)) : Ret Tryz.prog 101 #[I n, I lo, I hi] w fun v w' => v = .bool false ∧ w = w' := (in_c n lo hi w).mono fun v w' ⟨h1, h2⟩ => ⟨by rw [h1]; unfold inB; rw [decide_eq_false h], h2⟩
theorem pGet_no {b : List UInt8} {a size : Int} (h : ¬ (1 ≤ size ∧ size ≤ 4 ∧ 0 ≤ a ∧ a ≤ b.length - size)) : pGet b a size = (0, false) := by unfold pGet; rw [if_neg h]
theorem pGet_yes {b : List UInt8} {a size : Int} (h : 1 ≤ size ∧ size ≤ 4 ∧ 0 ≤ a ∧ a ≤ b.length - size) : pGet b a size = (getF b a.toNat size.toNat, true) := by unfold pGet; rw [if_pos h]
theorem pow3 : ∀ k : Nat, k ≤ 3 → (256 : Int) ^ k ≤ 16777216
  | 0, _ => by decide
  | 1, _ => by decide
  | 2, _ => by decide
  | 3, _ => by decide
  | k + 4, h => by omega
theorem getF_bound (b : List UInt8) (a : Nat) {k : Nat} (hk : k < 4) : 0 ≤ getF b a k ∧ getF b a k < 16777216 := by
  have h := getF_lt b a k
  refine ⟨getF_nn b a k, ?_⟩
  have := pow3 k (by omega)
  omega
set_option maxHeartbeats 2000000 in
theorem specGetNum_k {lo hi : Nat} {vb : Value} {b : List UInt8} {a size : Int} {w : World} (hR : RB w lo hi vb b) (hl : b.length ≤ 1048576) :
    Ret Tryz.prog 179 #[vb, I a, I size] w fun v w' => v = .tuple #[I (pGet b a size).1, .bool (pGet b a size).2] ∧ Ext w w' := by
  obtain ⟨A, c, rfl, hc, hr⟩ := hR
  refine Ret_enter Tryz.func179 rfl rfl rfl ?_
  by_cases h : 1 ≤ size ∧ size ≤ 4 ∧ 0 ≤ a ∧ a ≤ b.length - size
  · rw [pGet_yes h]
    obtain ⟨k, rfl⟩ := Int.eq_ofNat_of_zero_le (show 0 ≤ size by omega)
    obtain ⟨a, rfl⟩ := Int.eq_ofNat_of_zero_le h.2.2.1
    rw [Int.toNat_natCast, Int.toNat_natCast] at *
    repeat' (first | apply Jbq | apply Jbr | apply Jbs | apply Jbt | apply Jby | apply Jbz | (apply Jcg; (first | exact Jaa rfl | exact Jab rfl | exact Jac Us.h rfl | exact Jad rfl rfl | exact Jai rfl rfl | exact Jam rfl rfl | exact Jap rfl rfl (by omega)); exact rfl) | refine Jch rfl rfl rfl ?_ | (refine Jcs rfl rfl (fun hb => ?_) (fun hb => ?_) <;> (try (exfalso; omega))) | (refine Jcx rfl (fun hb => ?_) (fun hb => ?_) <;> (try (exfalso; omega))))
    refine TC_loop (ι := Nat) (fun i => [(0, .slice A b.length c), (1, I a), (2, I k), (8, I (getF b a i)), (9, I i)]) (fun i w' => i ≤ k ∧ w = w') (fun i => k - i) 0 (subEnv_cons rfl (subEnv_cons rfl (subEnv_cons rfl (subEnv_cons rfl (subEnv_cons rfl (subEnv_nil _)))))) ⟨Nat.zero_le _, rfl⟩ ?_
    rintro i _ ⟨hi, rfl⟩
    repeat' (first | apply Jbq | apply Jbr | apply Jbs | apply Jbt | (apply Jcg; (first | exact Jaa rfl | exact Jad rfl rfl); exact rfl))
    refine Jcx rfl (fun hb => ?_) (fun hb => ?_)
    · obtain ⟨ad, rfl, hcell⟩ := hr.get (show a + i < b.length by omega)
      rw [u8s_get b (by omega)] at hcell
      have hg := getF_bound b a (k := i) (by omega)
      have hx := (b.getD (a + i) 0).toNat_lt
      repeat' (first | apply Jbq | apply Jbr | apply Jbs | apply Jbt | apply Jbx | apply Jby | apply Jbz | (apply Jcg; (first | exact Jaa rfl | exact Jab rfl | exact Jaf rfl rfl (by omega) | exact Jag Us.h Sz.h rfl rfl (by omega) | exact Jax Us.h Us.h rfl (by omega) | exact Jbk rfl rfl (by omega)); exact rfl) | refine Jcg (Pu_load Fl.h rfl (fun _ e => by rw [e]; exact hcell)) rfl ?_)
      exact TN_round (i + 1) (subEnv_cons rfl (subEnv_cons rfl (subEnv_cons rfl (subEnv_cons rfl (subEnv_cons rfl (subEnv_nil _)))))) ⟨by omega, rfl⟩ (by omega)
    · obtain rfl : i = k := by omega
      repeat' (first | apply Jbq | apply Jbr | apply Jbs | apply Jbt | apply Jbu | apply Jca | apply Jcb | apply Jcc | (apply Jcg; (first | exact Jaa rfl | exact Jab rfl); exact rfl))
      exact TR_of (res2 rfl rfl rfl) ⟨rfl, Ch.refl _ _⟩
  · rw [pGet_no h]
    repeat' (first | apply Jbq | apply Jbr | apply Jbs | apply Jbt | apply Jbu | apply Jbv | (refine Jce rfl ?_) | (apply Jcg; (first | exact Jaa rfl | exact Jab rfl | exact Jac Us.h rfl | exact Jad rfl rfl | exact Jah rfl rfl | exact Jai rfl rfl | exact Jam rfl rfl | exact Jap rfl rfl (by omega)); exact rfl) | refine Jch rfl rfl rfl ?_ | refine Jci rfl rfl rfl rfl rfl ?_ | (refine Jcs rfl rfl (fun hb => ?_) (fun hb => ?_) <;> (try (exfalso; omega))) | (refine Jcx rfl (fun hb => ?_) (fun hb => ?_) <;> (try (exfalso; omega))))
    all_goals exact TR_of (res2 rfl rfl rfl) ⟨rfl, Ch.refl _ _⟩
theorem bit_or8 (m : Int) (x : UInt8) (h0 : 0 ≤ m) (h1 : m < 16777216) : bitv .or .i64 (IntKind.i64.wrap (m * 2 ^ min (8 : Int).toNat IntKind.i64.bits)) (x.toNat : Int) = m * 256 + x.toNat := by
  have hx := x.toNat_lt
  obtain ⟨a, rfl⟩ := Int.eq_ofNat_of_zero_le h0
  have e1 : IntKind.i64.wrap ((a : Int) * 2 ^ min (8 : Int).toNat IntKind.i64.bits) = ((a * 256 : Nat) : Int) := by
    rw [show min (8 : Int).toNat IntKind.i64.bits = 8 from by decide, IntWalk.i64_in _ (by omega)]; omega
  rw [e1]
  have e3 : a * 256 ||| x.toNat = a * 256 + x.toNat := by
    have := Nat.shiftLeft_add_eq_or_of_lt (i := 8) (b := x.toNat) (by omega) a
    rw [Nat.shiftLeft_eq] at this
    exact this.symm
  have e2 : (BitVec.ofInt 64 ((a * 256 : Nat) : Int) ||| BitVec.ofInt 64 (x.toNat : Int)).toNat = a * 256 + x.toNat := by
    rw [BitVec.ofInt_natCast, BitVec.ofInt_natCast, BitVec.toNat_or, BitVec.toNat_ofNat, BitVec.toNat_ofNat, Nat.mod_eq_of_lt (by omega), Nat.mod_eq_of_lt (by omega), e3]
  show IntKind.i64.wrap (((BitVec.ofInt 64 ((a * 256 : Nat) : Int) ||| BitVec.ofInt 64 (x.toNat : Int)).toNat : Nat) : Int) = _
  rw [e2, IntWalk.i64_in _ (by omega)]; omega
set_option maxHeartbeats 2000000 in
theorem implGetNum_k {lo hi : Nat} {vb : Value} {b : List UInt8} {a size : Int} {w : World} (hR : RB w lo hi vb b) (hl : b.length ≤ 1048576) :
    Ret Tryz.prog 178 #[vb, I a, I size] w fun v w' => v = .tuple #[I (pGet b a size).1, .bool (pGet b a size).2] ∧ Ext w w' := by
  obtain ⟨A, c, rfl, hc, hr⟩ := hR
  refine Ret_enter Tryz.func178 rfl rfl rfl ?_
  by_cases hs : 1 ≤ size ∧ size ≤ 4
  · by_cases h : 0 ≤ a ∧ a ≤ b.length - size
    · rw [pGet_yes ⟨hs.1, hs.2, h⟩]
      obtain ⟨k, rfl⟩ := Int.eq_ofNat_of_zero_le (show 0 ≤ size by omega)
      obtain ⟨a, rfl⟩ := Int.eq_ofNat_of_zero_le h.1
      rw [Int.toNat_natCast, Int.toNat_natCast] at *
      have hm := Rd.mid8 (a := a) (b := a + k) hr (by omega) hc
      repeat' (first | apply Jbq | apply Jbr | apply Jbs | apply Jbt | apply Jby | apply Jbz | (apply Jcg; (first | exact Jaa rfl | exact Jab rfl | exact Jac Us.h rfl | exact Jad rfl rfl | exact Jaf rfl rfl (by omega) | exact Jai rfl rfl | exact Jaj rfl | exact Jam rfl rfl | exact Jap rfl rfl (by omega) | exact Jbc Us.h Sz.h rfl rfl rfl (by omega)); exact rfl) | refine Jch rfl rfl rfl ?_ | (refine TL_call rfl en101 (in_t _ hs) rfl rfl ?_; rintro _ _ ⟨rfl, rfl⟩) | (refine Jcx rfl (fun hb => ?_) (fun hb => ?_) <;> (try (exfalso; omega))))
      obtain ⟨t, ht⟩ : ∃ t, t = (b.take ((a : Int) + k).toNat).drop (a : Int).toNat := ⟨_, rfl⟩
      have hd : ((a : Int) + k).toNat - (a : Int).toNat = k := by omega
      have htl : t.length = k := by rw [ht, List.length_drop, List.length_take]; omega
      rw [hd, ← ht] at hm
      rw [hd]
      obtain ⟨A2, hA2⟩ : ∃ A2, A2 = cutA A c (a : Int).toNat 1 := ⟨_, rfl⟩
      rw [← hA2] at hm ⊢
      obtain ⟨c2, hc2⟩ : ∃ c2, c2 = c - (a : Int).toNat := ⟨_, rfl⟩
      rw [← hc2]
      skip
      refine TC_loop (ι := Nat) (fun i => [(31, .slice A2 k c2), (32, I k), (8, I (getF b a i)), (33, I i)]) (fun i w' => i ≤ k ∧ w = w') (fun i => k - i) 0 (subEnv_cons rfl (subEnv_cons rfl (subEnv_cons rfl (subEnv_cons rfl (subEnv_nil _))))) ⟨Nat.zero_le _, rfl⟩ ?_
      rintro i _ ⟨hi, rfl⟩
      repeat' (first | apply Jbq | apply Jbr | apply Jbs | apply Jbt | (apply Jcg; exact Jad rfl rfl; exact rfl))
      refine Jcx rfl (fun hb => ?_) (fun hb => ?_)
      · obtain ⟨ad, rfl, hcell⟩ := hm.get (show i < k by omega)
        rw [u8s_get t (by omega)] at hcell
        have hg := getF_bound b a (k := i) (by omega)
        have hx : t.getD i 0 = b.getD (a + i) 0 := by
          rw [ht, List.getD_eq_getElem?_getD, List.getElem?_drop, List.getElem?_take_of_lt (by omega), List.getD_eq_getElem?_getD, Int.toNat_natCast]
        rw [hx] at hcell
        have hx2 := (b.getD (a + i) 0).toNat_lt
        repeat' (first | apply Jbq | apply Jbr | apply Jbs | apply Jbt | apply Jbx | apply Jby | apply Jbz | (apply Jcg; (first | exact Jaa rfl | exact Jab rfl | exact Jaf rfl rfl (by omega) | exact Jag Us.h Sz.h rfl rfl (by omega) | exact Jax Us.h Us.h rfl (by omega)); exact rfl) | refine Jcg (Pu_load Fl.h rfl (fun _ e => by rw [e]; exact hcell)) rfl ?_ | (refine Jcg (Pu_shl rfl rfl (by omega)) rfl ?_) | (refine Jcg (Pu_or rfl rfl) rfl ?_))
        rw [bit_or8 _ _ hg.1 hg.2]
        exact TN_round (i + 1) (subEnv_cons rfl (subEnv_cons rfl (subEnv_cons rfl (subEnv_cons rfl (subEnv_nil _))))) ⟨by omega, rfl⟩ (by omega)
      · obtain rfl : i = k := by omega
        repeat' (first | apply Jbq | apply Jbr | apply Jbs | apply Jbt | apply Jbu | apply Jca | apply Jcb | apply Jcc | (apply Jcg; (first | exact Jaa rfl | exact Jab rfl); exact rfl))
        exact TR_of (res2 rfl rfl rfl) ⟨rfl, Ch.refl _ _⟩
    · rw [pGet_no (fun q => h q.2.2)]
      repeat' (first | apply Jbq | apply Jbr | apply Jbs | apply Jbt | apply Jbu | apply Jbv | (refine Jce rfl ?_) | (apply Jcg; (first | exact Jaa rfl | exact Jab rfl | exact Jac Us.h rfl | exact Jad rfl rfl | exact Jah rfl rfl | exact Jai rfl rfl | exact Jaj rfl | exact Jam rfl rfl | exact Jap rfl rfl (by omega)); exact rfl) | refine Jch rfl rfl rfl ?_ | refine Jci rfl rfl rfl rfl rfl ?_ | (refine TL_call rfl en101 (in_t _ hs) rfl rfl ?_; rintro _ _ ⟨rfl, rfl⟩) | (refine Jcs rfl rfl (fun hb => ?_) (fun hb => ?_) <;> (try (exfalso; omega))) | (refine Jcx rfl (fun hb => ?_) (fun hb => ?_) <;> (try (exfalso; omega))))
      all_goals exact TR_of (res2 rfl rfl rfl) ⟨rfl, Ch.refl _ _⟩
  · rw [pGet_no (fun q => hs ⟨q.1, q.2.1⟩)]
    repeat' (first | apply Jbq | apply Jbr | apply Jbs | apply Jbt | apply Jbu | apply Jbv | (refine Jce rfl ?_) | (apply Jcg; (first | exact Jaa rfl | exact Jab rfl | exact Jah rfl rfl | exact Jaj rfl); exact rfl) | refine Jci rfl rfl rfl rfl rfl ?_ | (refine TL_call rfl en101 (in_f _ hs) rfl rfl ?_; rintro _ _ ⟨rfl, rfl⟩))
    all_goals exact TR_of (res2 rfl rfl rfl) ⟨rfl, Ch.refl _ _⟩
end Go.Proofs.YtggaghghclomkaaGreat
