/- Links that a call owns, sorted by the library; ranges over maps that the program makes. No condition. -/
import Derived.Test.YtggaghghclomkaaGreatMapK
import Derived.Test.YtggaghghclomkaaGreatRowK
import Derived.Shelf.GgSortFunc.RowK
import Derived.Sort.OwnSorted
import Derived.Sort.KeysCollected
namespace Go.Proofs.YtggaghghclomkaaGreat
open Go.RowKit
attribute [local irreducible] TL TC TN TX TR TQ TA Ret
instance : Inhabited LkD := ⟨⟨[], 0⟩⟩
theorem flatK_list {α : Type} [Inhabited α] {f : α → List Value} {k : Nat} (hf : ∀ a, (f a).length = k) (l : List α) : (Sort.flatK f k l.toArray).toList = cellsL f l := by
  apply List.ext_getElem?
  intro t
  by_cases ht : t < l.length * k
  · have hk : 0 < k := by
      rcases Nat.eq_zero_or_pos k with h | h
      · subst h; simp at ht
      · exact h
    have e1 := Sort.get_flatK f k l.toArray t (by simpa using ht)
    have hq : t / k < l.length := by rw [Nat.div_lt_iff_lt_mul hk]; exact ht
    have hm := Nat.mod_lt t hk
    have h2 := cellsL_at hf l (t / k) (t % k) hq hm
    rw [Nat.div_add_mod'] at h2
    rw [h2]
    have hs : t < (Sort.flatK f k l.toArray).size := by simpa using ht
    rw [Array.getElem?_toList, Array.getElem?_eq_getElem hs, ← getElem!_pos _ t hs, e1]
    have h3 : l.toArray[t / k]! = l[t / k] := by simp [hq]
    rw [h3, getElem!_pos _ _ (by rw [hf]; exact hm), List.getElem?_eq_getElem (by rw [hf]; exact hm)]
  · rw [List.getElem?_eq_none (by simpa using ht), List.getElem?_eq_none (by rw [cellsL_length hf]; omega)]
section
variable {w : World} {lo hi n c g m : Nat} {e : TypeId} {l l' : List LkD}
theorem holdsK_own (h : Own w lo hi e 2 (some ⟨g, 0, none⟩) n c (cellsL LkC l)) : Sort.HoldsK LkC 2 w g 0 l.toArray := by
  intro j hj
  have hj' : j < l.length * 2 := by simpa using hj
  have hl := h.len
  rw [cellsL_length LkC_len] at hl
  have h1 := h.row.cellAt j (by omega)
  have h2 := h.row.frozenAt j
  rw [Nat.zero_add]
  refine ⟨?_, h2⟩
  rw [h1, ← flatK_list LkC_len l, Array.getElem?_toList, Array.getElem?_eq_getElem (by simpa using hj'), getElem!_pos _ j hj]
  rfl
theorem Own.sorted (h : Own w lo hi e 2 (some ⟨g, 0, none⟩) n c (cellsL LkC l)) (hl : l'.length = l.length) (os : Array Obj) :
    Ch (Iv g (g + 1)) w (Sort.grow (Sort.putRowK LkC 2 (Sort.ahead w m) g 0 l'.toArray) os) ∧ Own (Sort.grow (Sort.putRowK LkC 2 (Sort.ahead w m) g 0 l'.toArray) os) lo hi e 2 (some ⟨g, 0, none⟩) n c (cellsL LkC l') := by
  have hlen := h.len
  have hlt := h.lt
  have hhi := h.hi_le
  rw [cellsL_length LkC_len] at hlen
  rcases h.row.2 with ⟨hv, _⟩ | ⟨g', cap, cur, hv, hbase, hb, h1, h2, h3, h4⟩
  · cases hv
  injection hv with hA _ hc
  injection hA with hA
  injection hA with hA
  subst hA hc
  have hg : g < w.heap.size := (Array.getElem?_eq_some_iff.1 hb).1
  have hb' : (Sort.grow (Sort.putRowK LkC 2 (Sort.ahead w m) g 0 l'.toArray) os).heap[g]? = some (.cells (Sort.putCells id 0 (Sort.flatK LkC 2 l'.toArray) cur) e (0, 0)) := by
    rw [Sort.heap_grow_old _ _ (by simpa [Sort.putRowK] using hg)]
    simp [Sort.putRowK, Sort.putRow, Sort.mapBlock, Sort.ahead, Array.getElem?_modify, hb, Sort.onCells]
  have hsz : (Sort.flatK LkC 2 l'.toArray).size = n * 2 := by simp; omega
  refine ⟨⟨rfl, rfl, rfl, by simp [Sort.putRowK], fun k hk hn => ?_⟩, ⟨by simp [Sort.putRowK]; omega, ⟨by rw [cellsL_length LkC_len]; omega, .inr ⟨g, c, _, rfl, hbase, hb', h1, h2, by simp [Sort.putCells, h3], ?_⟩⟩, hlt⟩⟩
  · rw [Sort.heap_grow_old _ _ (by simpa [Sort.putRowK] using hk)]
    have : g ≠ k := fun e => hn (by subst e; exact ⟨Nat.le_refl _, Nat.lt_succ_self _⟩)
    simp [Sort.putRowK, Sort.putRow, Sort.mapBlock, Sort.ahead, Array.getElem?_modify, this]
  · rw [← flatK_list LkC_len l']
    apply List.ext_getElem?
    intro j
    by_cases hj : j < n * 2
    · have hjc : j < cur.size := by rw [h3]; omega
      have hjf : j < (Sort.flatK LkC 2 l'.toArray).size := by omega
      rw [List.getElem?_take_of_lt hj, Array.getElem?_toList, Array.getElem?_toList, Array.getElem?_eq_getElem hjf]
      simp only [Sort.putCells, Array.getElem?_mapIdx, Array.getElem?_eq_getElem hjc, Option.map_some]
      rw [if_pos ⟨Nat.zero_le _, by omega⟩, Nat.sub_zero, getElem!_pos _ j hjf]
      rfl
    · rw [List.getElem?_take_eq_none (by omega), List.getElem?_eq_none (by rw [Array.length_toList]; omega)]
theorem grow_ch (w : World) (os : Array Obj) : Ext w (Sort.grow w os) := ⟨rfl, rfl, rfl, by simp, fun k hk _ => Sort.heap_grow_old w os hk⟩
end
/-! ### the order of names -/
def ltK (a b : LkD) : Bool := bytesBefore a.name b.name
theorem swoK : Sort.SWO ltK where
  irrefl := fun x => bb_irrefl _
  trans := fun x y z h1 h2 => bb_trans h1 h2
  ntrans := fun x y z h1 h2 => by
    unfold ltK at *
    cases h : bytesBefore x.name z.name with
    | false => rfl
    | true =>
      by_cases e : y.name = z.name
      · rw [e, h] at h1; cases h1
      · rcases bb_total e with h3 | h3
        · rw [h3] at h2; cases h2
        · rw [bb_trans h h3] at h1; cases h1
theorem asc_nodup {L : List LkD} (h : Asc L) : (L.map (·.name)).Nodup := by
  unfold List.Nodup
  rw [List.pairwise_map]
  exact h.imp fun {a b} hab e => by rw [e, bb_irrefl] at hab; cases hab
theorem asc_find {L : List LkD} (h : Asc L) {x : LkD} (hx : x ∈ L) : dFind L x.name = x.id := by
  induction L with
  | nil => cases hx
  | cons y r ih =>
    unfold Asc at h
    rw [List.pairwise_cons] at h
    unfold dFind
    rw [List.find?_cons]
    by_cases e : y.name = x.name
    · rw [show (y.name == x.name) = true by simp [e]]
      rcases List.mem_cons.1 hx with rfl | hx
      · rfl
      · have := h.1 x hx
        rw [e, bb_irrefl] at this; cases this
    · rw [show (y.name == x.name) = false by simp [e]]
      rcases List.mem_cons.1 hx with rfl | hx
      · exact absurd rfl e
      · exact ih h.2 hx
theorem asc_gather {L : List LkD} (h : Asc L) : (L.map (·.name)).map (fun s => (⟨s, dFind L s⟩ : LkD)) = L := by
  rw [List.map_map]
  conv => rhs; rw [← List.map_id L]
  exact List.map_congr_left fun x hx => by simp only [Function.comp, id, asc_find h hx]
theorem asc_unique {A L : List LkD} (hp : A.Perm L) (hL : Asc L) (hA : ∀ i j, i < j → j < A.length → ltK A[j]! A[i]! = false) : A = L := by
  have hn : (A.map (·.name)).Nodup := ((hp.map (·.name)).nodup_iff).2 (asc_nodup hL)
  have hA' : Asc A := by
    unfold Asc
    rw [List.pairwise_iff_getElem]
    intro i j hi hj hij
    have h1 := hA i j hij hj
    rw [getElem!_pos A j hj, getElem!_pos A i hi] at h1
    have hne : A[i].name ≠ A[j].name := by
      unfold List.Nodup at hn
      rw [List.pairwise_map, List.pairwise_iff_getElem] at hn
      exact hn i j hi hj hij
    exact (bb_total hne).resolve_right (by unfold ltK at h1; rw [h1]; decide)
  exact List.Perm.eq_of_pairwise (le := fun x y : LkD => bytesBefore x.name y.name = true) (fun a b _ _ h1 h2 => by rw [bb_asymm h1] at h2; cases h2) hA' hL hp
theorem strKeys_toD (L : List LkD) : strKeys (toD L) = L.map (·.name) := by
  unfold strKeys toD
  simp only [List.map_map]
  rfl
theorem size_toD (L : List LkD) : Maps.size (toD L) = L.length := by simp [Maps.size, toD]
/-! ### ranges over a directory -/
section
variable {P : Program} {C : World → Prop} {n : Nat} {l : Env} {dd : Option Nat} {ty t : TypeId} {pos : String} {af : Array Edge} {x : Operand} {v u : Value} {f : FuncId} {ds : TypeDesc}
theorem Pu_iface {e : TypeId} (hu : P.underlying t = some (.slice e)) (hx : ev l x = some v) : Pu P C n l ⟨dd, .makeInterface t x, ty, pos, af, none⟩ (.iface t v) := fun a ha w _ => by
  simp [execOp, ha.eval hx, Instr.makeInterface, run_underlying hu, Result.andThen]
theorem Pu_func1 (hx : ev l x = some v) : Pu P C n l ⟨dd, .makeFunc (.func f) #[] #[x], ty, pos, af, none⟩ (.func (.func f) #[] #[v]) := fun a ha w _ => by
  simp [execOp, ha.eval hx, Instr.makeFunc]
theorem Pu_entryG (hx : ev l x = some u) (h : ∀ w, C w → (Instr.entry u).run P w = .ok v w) : Pu P C n l ⟨dd, .entry x, ty, pos, af, none⟩ v := fun a ha w hw => by
  simp [execOp, ha.eval hx, h w hw, Result.andThen]
theorem TL_rangeG {L : List Oper} {Q : Exit → Act → World → Prop} {d : Nat} {rest : List Oper} {w w' : World} (hx : ev l x = some u) (hr : (Instr.range t u).run P w = .ok v w') (hn : Nat.blt d n = true)
    (h : TL P L Q rest n ((d, v) :: l) w') : TL P L Q (⟨some d, .range t x, ty, pos, af, none⟩ :: rest) n l w :=
  TL_run (w' := w') rfl rfl hn (fun a ha => by simp [execOp, ha.eval hx, hr, Result.andThen]) h
theorem TL_nextG {L : List Oper} {Q : Exit → Act → World → Prop} {d : Nat} {rest : List Oper} {w w' : World} {b : Bool} (hx : ev l x = some u) (hr : (Instr.next u b ty).run P w = .ok v w') (hn : Nat.blt d n = true)
    (h : TL P L Q rest n ((d, v) :: l) w') : TL P L Q (⟨some d, .next x b, ty, pos, af, none⟩ :: rest) n l w :=
  TL_run (w' := w') rfl rfl hn (fun a ha => by simp [execOp, ha.eval hx, hr, Result.andThen]) h
end
def MR (w : World) (b r k : Nat) (D : List LkD) (left : Lit → Bool) (cnt : Nat) : Prop := w.ranges Tryz.prog 9 (plainElem Tryz.prog 3) b r k (toD D) left cnt
section
variable {L : List Oper} {Q : Exit → Act → World → Prop} {n d : Nat} {l : Env} {w w' : World} {rest : List Oper} {ty : TypeId} {pos : String} {af : Array Edge} {x : Operand} {b k r cnt : Nat} {D : List LkD} {left : Lit → Bool} {T : Nat → Prop}
theorem MR.ch (h : MR w b r k D left cnt) (c : Ch T w w') (hb : ¬ T b) (hr : ¬ T r) : MR w' b r k D left cnt := by
  have h1 := World.ownsMap.lt (World.ranges.owns h)
  have h2 := World.ranges.lt h
  obtain ⟨es, clock, since, seen, c0, hb', F, hs, hD, hr', rest⟩ := h
  exact ⟨es, clock, since, seen, c0, (c.block b h1 hb).trans hb', F, hs, hD, (c.block r h2 hr).trans hr', rest⟩
theorem TL_range (hx : ev l x = some (.map (some b))) (hM : MD w b k D) (hn : Nat.blt d n = true)
    (h : ∀ w' r, Ext w w' → r = w.heap.size → w'.heap.size = r + 1 → MR w' b r k D (Maps.has (toD D)) D.length → TL Tryz.prog L Q rest n ((d, .pointer (some ⟨r, 0, none⟩)) :: l) w') :
    TL Tryz.prog L Q (⟨some d, .range 104 x, ty, pos, af, none⟩ :: rest) n l w := by
  obtain ⟨w', hr, h1, h2, h3⟩ := World.ownsMap.range hM kStr mUnder
  rw [size_toD] at h1
  exact TL_rangeG hx hr hn (h w' _ (Ch.of_grown h2 (fun _ e => by cases e)) rfl h3 h1)
theorem TL_next (hx : ev l x = some (.pointer (some ⟨r, 0, none⟩))) (hR : MR w b r k D left cnt) (hn : Nat.blt d n = true)
    (h0 : (∀ kl, left kl = false) → TL Tryz.prog L Q rest n ((d, .tuple #[.bool false]) :: l) w)
    (h1 : ∀ s w' cnt', left (.string s) = true → s.length ≤ 9223372036854775807 → (∀ zd, (toD D).atKey (.string s) zd = .lit (.int .i64 (dFind D s))) → MR w' b r k D (fun z => left z && !z.sameKey (.string s)) cnt' → cnt' < cnt → Ch (Iv r (r + 1)) w w' → w'.heap.size = w.heap.size →
      (Instr.entry (.pointer (some ⟨r, 0, none⟩))).run Tryz.prog w' = .ok (.tuple #[S s, I (dFind D s)]) w' → TL Tryz.prog L Q rest n ((d, .tuple #[.bool true, S s, I (dFind D s)]) :: l) w') :
    TL Tryz.prog L Q (⟨some d, .next x false, ty, pos, af, none⟩ :: rest) n l w := by
  rcases World.ranges.next hR kStr ty with ⟨_, hl, hr⟩ | ⟨key, v, kl, y, w', cnt', hkey, hlk, hv, hat, hr, h2, h3, h4, h5, h6⟩
  · exact TL_nextG hx hr hn (h0 hl)
  · obtain ⟨s, rfl, rfl, hs⟩ := Maps.keyOf_str Tryz.underlying9 hkey
    obtain ⟨c, rfl, rfl, _⟩ := plainElem_int_inv Tryz.underlying3 hv
    have hc := hat (.lit (.int .i64 0))
    rw [toD_at] at hc
    simp only [DataW.lit.injEq, Lit.int.injEq, true_and] at hc
    subst hc
    refine TL_nextG hx hr hn (h1 s w' cnt' hlk (by simpa [maxLen] using hs) hat h2 h3 (Ch.of_grown h4 (fun k hk => by injection hk with hk; subst hk; exact ⟨Nat.le_refl _, Nat.lt_succ_self _⟩)) h5 h6)
end
end Go.Proofs.YtggaghghclomkaaGreat
