/- Rules for the operations that make or write memory, for conversions between bytes and strings, and for regions whose order is open. No condition. -/
import Derived.Test.YtggaghghclomkaaGreatMem
import Derived.Lib.ConvBytes
import Derived.Maps.AppendAt
import Derived.Laws.BytesString
import Derived.Laws.BytesArg
namespace Go.Proofs.YtggaghghclomkaaGreat
open Go.RowKit

section
variable {P : Program} {C : World → Prop} {L : List Oper} {Q : Exit → Act → World → Prop} {n d : Nat} {l : Env} {w : World} {rest : List Oper} {dd : Option Nat} {ty : TypeId} {pos : String} {af : Array Edge} {v : Value} {x y i : Operand} {t e : TypeId}

theorem Ext.alloc_ (w : World) (o : Obj) : Ext w (w.alloc o) := (Ch.refl _ w).alloc o

theorem oneV {v : Value} (h : v.oneCell' = true) : v.cells = #[v] := by cases v <;> simp_all [Value.oneCell', Value.cells]

/-- A struct's value is laid in a new block. -/
theorem TL_box {cs : List Value} (hx : ev l x = some (.agg cs.toArray)) (hn : Nat.blt d n = true)
    (h : ∀ w' g, Ext w w' → g = w.heap.size → w'.heap.size = g + 1 → Blk w' g t cs → TL P L Q rest n ((d, .pointer (some ⟨g, 0, none⟩)) :: l) w') :
    TL P L Q (⟨some d, .box t x, ty, pos, af, none⟩ :: rest) n l w :=
  TL_run (w' := w.alloc (.cells cs.toArray t)) rfl rfl hn (fun a ha => by simp [execOp, ha.eval hx, Instr.box, newVar, newRow, Value.cells])
    (h _ _ (Ext.alloc_ _ _) rfl (by simp) (heap_alloc_new w _))
/-- A one-cell value is laid in a new block. -/
theorem TL_box1 (hx : ev l x = some v) (hv : v.oneCell' = true) (hn : Nat.blt d n = true)
    (h : ∀ w' g, Ext w w' → g = w.heap.size → w'.heap.size = g + 1 → Blk w' g t [v] → TL P L Q rest n ((d, .pointer (some ⟨g, 0, none⟩)) :: l) w') :
    TL P L Q (⟨some d, .box t x, ty, pos, af, none⟩ :: rest) n l w :=
  TL_run (w' := w.alloc (.cells [v].toArray t)) rfl rfl hn (fun a ha => by simp [execOp, ha.eval hx, Instr.box, newVar, newRow, oneV hv])
    (h _ _ (Ext.alloc_ _ _) rfl (by simp) (heap_alloc_new w _))
/-- A new variable, of value zero. -/
theorem TL_alloc {z : Value} {cs : List Value} (hz : (P.info? t).bind (·.zero) = some z) (hcs : z.cells = cs.toArray) (hn : Nat.blt d n = true)
    (h : ∀ w' g, Ext w w' → g = w.heap.size → w'.heap.size = g + 1 → Blk w' g t cs → TL P L Q rest n ((d, .pointer (some ⟨g, 0, none⟩)) :: l) w') :
    TL P L Q (⟨some d, .alloc t, ty, pos, af, none⟩ :: rest) n l w :=
  TL_run (w' := w.alloc (.cells cs.toArray t)) rfl rfl hn (fun a _ => by
    cases hq : P.info? t with
    | none => simp [hq] at hz
    | some inf =>
      have h1 : inf.zero = some z := by simpa [hq] using hz
      simp [execOp, Instr.alloc, zeroValue, typeInfo, hq, h1, newVar, newRow, hcs])
    (h _ _ (Ext.alloc_ _ _) rfl (by simp) (heap_alloc_new w _))

theorem run_store_cell {w : World} {ad : Addr} {u v : Value} (hv : v.oneCell' = true) (hc : w.cell? ad = some u) (hf : w.frozen? ad = false) : (store ad v).run P w = .ok () (w.setCell ad v) := by
  rw [run_store P w ad v _ hv]
  simp [hc, hf]
theorem run_storeVar_one {w : World} {ad : Addr} {u v : Value} (hz : (P.info? t).map (·.size) = some 1) (hv : v.oneCell' = true) (hc : w.cell? ad = some u) (hf : w.frozen? ad = false) : (storeVar t ad v).run P w = .ok () (w.setCell ad v) := by
  cases hq : P.info? t with
  | none => simp [hq] at hz
  | some inf =>
    have h1 : inf.size = 1 := by simpa [hq] using hz
    have h2 := run_store_cell (P := P) hv hc hf
    simp only [storeVar, oneV hv, Sem.run_bind, sizeOf, typeInfo, run_program, Result.andThen_ok, hq, Sem.run_pure, h1]
    simp [storeCells, Addr.add_zero', h2]

/-- A cell of a known block is written. -/
theorem TL_store {g off : Nat} {tb : TypeId} {cs : List Value} (hx : ev l x = some (.pointer (some (Addr.add ⟨g, 0, none⟩ off)))) (hy : ev l y = some v) (hz : (P.info? t).map (·.size) = some 1) (hv : v.oneCell' = true)
    (hb : Blk w g tb cs) (ho : Nat.blt off cs.length = true)
    (h : ∀ w', Ch (Iv g (g + 1)) w w' → w'.heap.size = w.heap.size → Blk w' g tb (cs.set off v) → TL P L Q rest n l w') :
    TL P L Q (⟨none, .store t x y, ty, pos, af, none⟩ :: rest) n l w := by
  have ho' : off < cs.length := by simpa [Nat.blt_eq] using ho
  have ea : (⟨g, 0, none⟩ : Addr).add off = ⟨g, off, none⟩ := by unfold Addr.add; split <;> simp_all
  rw [ea] at hx
  refine TL_skipped (w' := w.setCell ⟨g, off, none⟩ v) rfl rfl (fun a ha => ?_) (h _ ⟨rfl, rfl, rfl, by simp, fun k _ hk => heap_setCell_other w ⟨g, off, none⟩ k v (fun e => hk (by simp [Iv, e]))⟩ (by simp) ?_)
  · have := run_storeVar_one (P := P) (t := t) hz hv (by rw [hb.cell off, List.getElem?_eq_getElem ho']) (hb.frozen off)
    simp [execOp, ha.eval hx, ha.eval hy, Instr.storeAt, Instr.sureAddr, this]
  · unfold Blk
    rw [heap_setCell_same w g off cs.toArray tb v hb]
    simp
/-- A whole block is written. -/
theorem TL_storeAgg {g : Nat} {tb : TypeId} {cs us : List Value} (hx : ev l x = some (.pointer (some ⟨g, 0, none⟩))) (hy : ev l y = some (.agg us.toArray)) (hz : (P.info? t).map (·.size) = some us.length) (hv : us.all (·.oneCell') = true)
    (hb : Blk w g tb cs) (ho : Nat.beq cs.length us.length = true)
    (h : ∀ w', Ch (Iv g (g + 1)) w w' → w'.heap.size = w.heap.size → Blk w' g tb us → TL P L Q rest n l w') :
    TL P L Q (⟨none, .store t x y, ty, pos, af, none⟩ :: rest) n l w := by
  have ho' : cs.length = us.length := Nat.eq_of_beq_eq_true ho
  refine TL_skipped (w' := w.setRow g us.toArray) rfl rfl (fun a ha => ?_) (h _ ⟨rfl, rfl, rfl, by simp, fun k _ hk => setRow_other w g k _ (fun e => hk (by simp [Iv, e]))⟩ (by simp) ?_)
  · have := run_storeVar_row (P := P) w g tb t cs.toArray us.toArray hb (by simpa using hz) (by simpa using ho') (by simpa using hv)
    simp [execOp, ha.eval hx, ha.eval hy, Instr.storeAt, Instr.sureAddr, this]
  · exact setRow_heap w g cs.toArray us.toArray tb _ hb
/-- An element's cell of the call's own row is written. -/
theorem TL_storeOwn {g lo hi m c size : Nat} {xs : List Value} {ad : Addr} {off : Nat} (hx : ev l x = some (.pointer (some ad))) (had : ad = ⟨g, off, none⟩) (hy : ev l y = some v) (hz : (P.info? t).map (·.size) = some 1) (hv : v.oneCell' = true)
    (ho : Own w lo hi e size (some ⟨g, 0, none⟩) m c xs) (hoff : off < m * size)
    (h : ∀ w', Ch (Iv g (g + 1)) w w' → w'.heap.size = w.heap.size → Own w' lo hi e size (some ⟨g, 0, none⟩) m c (xs.set off v) → TL P L Q rest n l w') :
    TL P L Q (⟨none, .store t x y, ty, pos, af, none⟩ :: rest) n l w := by
  subst had
  have hlen := ho.len
  have hc := ho.row.cellAt off hoff
  have hlt : off < xs.length := by omega
  rw [List.getElem?_eq_getElem hlt] at hc
  refine TL_skipped (w' := w.setCell ⟨g, off, none⟩ v) rfl rfl (fun a ha => ?_) (h _ ⟨rfl, rfl, rfl, by simp, fun k _ hk => heap_setCell_other w ⟨g, off, none⟩ k v (fun e => hk (by simp [Iv, e]))⟩ (by simp)
    ⟨by simpa using ho.hi_le, (ho.row.stored off v).1, ho.lt⟩)
  have := run_storeVar_one (P := P) (t := t) hz hv hc (ho.row.frozenAt off)
  simp [execOp, ha.eval hx, ha.eval hy, Instr.storeAt, Instr.sureAddr, this]

/-- make([]T, m). -/
theorem TL_make {k1 k2 : IntKind} {a : Int} {size bytes : Nat} {z : Value} (ht : P.underlying t = some (.slice e)) (hi : (P.info? e).map (fun i => (i.zero, i.size, i.bytes)) = some (some z, size, bytes))
    (hx : ev l x = some (.int k1 a)) (hy : ev l y = some (.int k2 a)) (h0 : 0 ≤ a) (hb : bytes * a.toNat ≤ 281474976710656) (hm : a ≤ 9223372036854775807) (hn : Nat.blt d n = true)
    (h : ∀ w' g, Ext w w' → g = w.heap.size → w'.heap.size = g + 1 → Own w' g (g + 1) e size (some ⟨g, 0, none⟩) a.toNat a.toNat (madeCells z.cells (a.toNat * size)).toList → TL P L Q rest n ((d, .slice (some ⟨g, 0, none⟩) a.toNat a.toNat) :: l) w') :
    TL P L Q (⟨some d, .makeSlice t x y, ty, pos, af, none⟩ :: rest) n l w := by
  obtain ⟨m, rfl⟩ := Int.eq_ofNat_of_zero_le h0
  simp only [Int.toNat_natCast] at *
  cases hq : P.info? e with
  | none => simp [hq] at hi
  | some inf =>
    simp only [hq, Option.map_some, Option.some.injEq, Prod.mk.injEq] at hi
    obtain ⟨h1, h2, h3⟩ := hi
    subst h2 h3
    have hml : m ≤ maxLen := by simp only [maxLen]; omega
    have hb' : (inf.bytes : Int) * (m : Int) ≤ 281474976710656 := by
      have h : ((inf.bytes * m : Nat) : Int) ≤ 281474976710656 := by omega
      rwa [Int.natCast_mul] at h
    have hr := run_make (P := P) w t e inf z ht hq h1 k1 k2 m m (by omega) (by omega) hb' (by omega)
    simp only [Int.toNat_natCast] at hr
    refine TL_run (w' := w.alloc (.cells (madeCells z.cells (m * inf.size)) e)) rfl rfl hn (fun s hs => ?_) (h _ _ (Ext.alloc_ _ _) rfl (by simp) ?_)
    · simp [execOp, hs.eval hx, hs.eval hy, hr]
    · refine ⟨by simp, World.ownsRow_lit (base := w.heap.size) (e := e) (size := inf.size) w (madeCells z.cells (m * inf.size)) m (Nat.le_refl _) hml (size_madeCells _ _), fun ad ha => ?_⟩
      injection ha with ha; subst ha; simp

/-- A slice literal, empty. -/
theorem TL_buildSlice0 {size : Nat} (ht : P.underlying t = some (.slice e)) (hz : (P.info? e).map (·.size) = some size) (hn : Nat.blt d n = true)
    (h : ∀ w' g, Ext w w' → g = w.heap.size → w'.heap.size = g + 1 → Own w' g (g + 1) e size (some ⟨g, 0, none⟩) 0 0 [] → TL P L Q rest n ((d, .slice (some ⟨g, 0, none⟩) 0 0) :: l) w') :
    TL P L Q (⟨some d, .buildSlice t 0 #[], ty, pos, af, none⟩ :: rest) n l w := by
  cases hq : P.info? e with
  | none => simp [hq] at hz
  | some inf =>
    have h2 : inf.size = size := by simpa [hq] using hz
    subst h2
    refine TL_run (w' := w.alloc (.cells #[] e)) rfl rfl hn (fun s hs => ?_) (h _ _ (Ext.alloc_ _ _) rfl (by simp) ?_)
    · simp [execOp, Instr.buildSlice, Sem.run_bind, run_underlying ht w, sizeOf, typeInfo, hq, Instr.fill, newRow, Array.range_zero']
    · refine ⟨by simp, ?_, fun ad ha => ?_⟩
      · have := World.ownsRow_lit (base := w.heap.size) (e := e) (size := inf.size) w #[] 0 (Nat.le_refl _) (Nat.zero_le _) (by simp)
        simpa using this
      · injection ha with ha; subst ha; simp
/-- A slice literal of elements. -/
theorem TL_buildSlice {m size : Nat} {parts : List (Nat × Operand)} {vs : List (Nat × Value)} {us : List Value} {z : Value} (ht : P.underlying t = some (.slice e)) (hi : (P.info? e).map (fun i => (i.zero, i.size)) = some (some z, size))
    (hpos : Nat.blt 0 size = true) (hsm : Nat.ble (m * size) 65536 = true) (hm0 : Nat.blt 0 m = true) (hps : evP l parts = some vs)
    (hf : Instr.fill (fun i => some (i * size, size)) ((Array.range (m * size)).map (z.cells[· % z.cells.size]!)) vs = some us.toArray) (hl : Nat.beq us.length (m * size) = true) (hn : Nat.blt d n = true)
    (h : ∀ w' g, Ext w w' → g = w.heap.size → w'.heap.size = g + 1 → Own w' g (g + 1) e size (some ⟨g, 0, none⟩) m m us → TL P L Q rest n ((d, .slice (some ⟨g, 0, none⟩) m m) :: l) w') :
    TL P L Q (⟨some d, .buildSlice t m parts.toArray, ty, pos, af, none⟩ :: rest) n l w := by
  have hl' : us.length = m * size := Nat.eq_of_beq_eq_true hl
  have hsm' : m * size ≤ 65536 := by simpa using hsm
  have hpos' : 0 < size := by simpa [Nat.blt_eq] using hpos
  have hm0' : 0 < m := by simpa [Nat.blt_eq] using hm0
  cases hq : P.info? e with
  | none => simp [hq] at hi
  | some inf =>
    simp only [hq, Option.map_some, Option.some.injEq, Prod.mk.injEq] at hi
    obtain ⟨h1, h2⟩ := hi
    subst h2
    have hz : m * inf.size ≠ 0 := Nat.mul_ne_zero (by omega) (by omega)
    refine TL_run (w' := w.alloc (.cells us.toArray e)) rfl rfl hn (fun s hs => ?_) (h _ _ (Ext.alloc_ _ _) rfl (by simp) ?_)
    · have hp : (parts.toArray.map fun p => (p.1, s.eval p.2)).toList = vs := by rw [← evP_eq hs hps]; simp
      have hbig : ¬ (m * inf.size > 2 ^ 24) := by omega
      simp only [execOp, Instr.buildSlice, Sem.run_bind, run_underlying ht w, Result.andThen_ok, sizeOf, typeInfo, run_program, hq, Sem.run_pure, if_neg hbig, if_neg hz, zeroValue, h1, hp, hf, newRow, run_newObj]
      rfl
    · refine ⟨by simp, ?_, fun ad ha => ?_⟩
      · have hmm : m ≤ maxLen := by
          have : m ≤ m * inf.size := Nat.le_mul_of_pos_right _ hpos'
          simp only [maxLen]; omega
        have := World.ownsRow_lit (base := w.heap.size) (e := e) (size := inf.size) w us.toArray m (Nat.le_refl _) hmm (by simpa using hl')
        simpa using this
      · injection ha with ha; subst ha; simp

/-! append -/
theorem run_append_nil {size : Nat} (ht : P.underlying t = some (.slice e)) (hz : (P.info? e).map (·.size) = some size) {lo hi m c : Nat} {A : Option Addr} {xs : List Value} (ho : Own w lo hi e size A m c xs) (c2 : Nat) :
    (Builtin.append_ #[t, t] ty #[.slice A m c, .slice none 0 c2]).run P w = .ok (.slice A m c) w := by
  have hc := ho.cap.1
  cases hq : P.info? e with
  | none => simp [hq] at hz
  | some inf =>
    rcases A with _ | ad
    · simp [Builtin.append_, run_underlying ht, sizeOf, typeInfo, hq, Builtin.lenOf, Builtin.firstCells, hc]
    · simp [Builtin.append_, run_underlying ht, sizeOf, typeInfo, hq, Builtin.lenOf, Builtin.firstCells, hc, storeCells]
/-- append onto the call's own row, of whatever reads as news. -/
theorem TL_append {A : Option Addr} {m c m2 c2 lo hi lo2 hi2 size bytes : Nat} {z : Value} {xs news : List Value} {A2 : Option Addr} (ht : P.underlying t = some (.slice e)) (hi0 : (P.info? e).map (fun i => (i.zero, i.size, i.bytes)) = some (some z, size, bytes))
    (hzs : z.cells.size = size) (hpos : Nat.blt 0 size = true) (hx : ev l x = some (.slice A m c)) (hy : ev l y = some (.slice A2 m2 c2)) (ho : Own w lo hi e size A m c xs) (hr : Rd w lo2 hi2 size A2 m2 news) (h1 : ∀ u ∈ news, u.oneCell' = true)
    (hlo : lo ≤ w.heap.size) (hb : (m + m2) * bytes ≤ 140737488355328) (hm : m + m2 ≤ 4611686018427387904) (hn : Nat.blt d n = true)
    (h : ∀ w' hi' A' c', Ch (Iv lo hi) w w' → (hi' = hi ∨ hi' = w'.heap.size) → hi ≤ hi' → (A' = A ∨ A' = some ⟨w.heap.size, 0, none⟩) → Own w' lo hi' e size A' (m + m2) c' (xs ++ news) → TL P L Q rest n ((d, .slice A' (m + m2) c') :: l) w') :
    TL P L Q (⟨some d, .call { callee := .builtin .append, args := #[x, y], argTypes := #[t, t] }, ty, pos, af, none⟩ :: rest) n l w := by
  have hpos' : 0 < size := by simpa [Nat.blt_eq] using hpos
  have hml : m + m2 ≤ maxLen := by simp only [maxLen]; omega
  cases hq : P.info? e with
  | none => simp [hq] at hi0
  | some inf =>
    simp only [hq, Option.map_some, Option.some.injEq, Prod.mk.injEq] at hi0
    obtain ⟨e1, e2, e3⟩ := hi0
    have key : ∃ w' hi' A' c', (Builtin.append_ #[t, t] ty #[.slice A m c, .slice A2 m2 c2]).run P w = .ok (.slice A' (m + m2) c') w' ∧ Ch (Iv lo hi) w w' ∧ (hi' = hi ∨ hi' = w'.heap.size) ∧ hi ≤ hi' ∧ (A' = A ∨ A' = some ⟨w.heap.size, 0, none⟩) ∧ Own w' lo hi' e size A' (m + m2) c' (xs ++ news) := by
      by_cases hm2 : m2 = 0
      · subst hm2
        have hnn : news = [] := List.eq_nil_of_length_eq_zero (by simpa using hr.len)
        subst hnn
        have hnone := run_append_nil (P := P) (ty := ty) ht (by simp [hq, e2]) ho c2
        rcases A2 with _ | ad
        · exact ⟨w, hi, A, c, by simpa using hnone, Ch.refl _ _, .inl rfl, Nat.le_refl _, .inl rfl, by simpa using ho⟩
        · refine ⟨w, hi, A, c, ?_, Ch.refl _ _, .inl rfl, Nat.le_refl _, .inl rfl, by simpa using ho⟩
          have hc := ho.cap.1
          rcases A with _ | ad1
          · simp [Builtin.append_, run_underlying ht, sizeOf, typeInfo, hq, Builtin.lenOf, Builtin.firstCells, loadCells, loadCellsFrom, hc]
          · simp [Builtin.append_, run_underlying ht, sizeOf, typeInfo, hq, Builtin.lenOf, Builtin.firstCells, loadCells, loadCellsFrom, hc, storeCells]
      · obtain ⟨ad, rfl, _, _, hcells⟩ := hr.at_ (by omega)
        obtain ⟨v', w', hrun, hown, hg, hnil, hloc⟩ := run_append_own_at (P := P) w lo t ty e inf z size bytes ht hq e1 e2 e3 hzs hpos' (.slice A m c) m xs ho.row ad m2 c2 news hr.len hcells h1 hml hb hlo
        have hch : Ch (Iv lo hi) w w' := Ch.of_grown hg (fun k hk => by
          rcases A with _ | a1
          · simp [Value.ownBlock] at hk
          · simp [Value.ownBlock] at hk
            subst hk
            exact ⟨ho.ge _ rfl, ho.lt _ rfl⟩)
        rcases hown.2 with ⟨hv, h0⟩ | ⟨g, cap, cur, rfl, hgl, hgg, hrest⟩
        · omega
        · rcases hloc with hloc | hloc
          · rcases A with _ | a1
            · simp [Value.ownBlock] at hloc
            · obtain ⟨g1, ha1, _, _⟩ := (ho.head).resolve_left (by simp)
              injection ha1 with ha1; subst ha1
              simp [Value.ownBlock] at hloc
              subst hloc
              exact ⟨w', hi, _, cap, hrun, hch, .inl rfl, Nat.le_refl _, .inl rfl, Nat.le_trans ho.hi_le hch.size, hown, ho.lt⟩
          · simp [Value.ownBlock] at hloc
            subst hloc
            have hlt : w.heap.size < w'.heap.size := (Array.getElem?_eq_some_iff.1 hgg).1
            exact ⟨w', w'.heap.size, _, cap, hrun, hch, .inr rfl, Nat.le_trans ho.hi_le hch.size, .inr rfl, Nat.le_refl _, hown, fun ad had => by injection had with had; subst had; exact hlt⟩
    obtain ⟨w', hi', A', c', hrun, k1, k2, k3, k4, k5⟩ := key
    refine TL_run (w' := w') rfl rfl hn (fun s hs => ?_) (h w' hi' A' c' k1 k2 k3 k4 k5)
    simp only [execOp, resolve, invoke, builtin, Sem.run_bind, Sem.run_pure, Result.andThen_ok, List.map_toArray, List.map_cons, List.map_nil, hs.eval hx, hs.eval hy, hrun]

/-! bytes and strings -/
def u8s (s : List UInt8) : List Value := s.map B8
theorem u8s_one (s : List UInt8) : ∀ u ∈ u8s s, u.oneCell' = true := by
  intro u hu
  simp only [u8s, List.mem_map] at hu
  obtain ⟨b, _, rfl⟩ := hu
  rfl
@[simp] theorem u8s_length (s : List UInt8) : (u8s s).length = s.length := by simp [u8s]
theorem Rd.to8 {lo hi c : Nat} {A : Option Addr} {s : List UInt8} {b : Int} (h : Rd w lo hi 1 A s.length (u8s s)) (hb : 0 ≤ b ∧ b ≤ s.length) (hc : s.length ≤ c) : Rd w lo hi 1 (cutA A c 0 1) b.toNat (u8s (s.take b.toNat)) := by
  have := h.cut (a := 0) (b := b.toNat) (c := c) (Nat.zero_le _) (by omega) hc
  simpa [u8s, List.map_take] using this
theorem Rd.from8 {lo hi c : Nat} {A : Option Addr} {s : List UInt8} {a : Int} (h : Rd w lo hi 1 A s.length (u8s s)) (ha : 0 ≤ a ∧ a ≤ s.length) (hc : s.length ≤ c) : Rd w lo hi 1 (cutA A c a.toNat 1) (s.length - a.toNat) (u8s (s.drop a.toNat)) := by
  have := h.cut (a := a.toNat) (b := s.length) (c := c) (by omega) (Nat.le_refl _) hc
  simpa [u8s, List.map_drop, List.take_of_length_le] using this
theorem Rd.mid8 {lo hi c : Nat} {A : Option Addr} {s : List UInt8} {a b : Int} (h : Rd w lo hi 1 A s.length (u8s s)) (ha : 0 ≤ a ∧ a ≤ b ∧ b ≤ s.length) (hc : s.length ≤ c) : Rd w lo hi 1 (cutA A c a.toNat 1) (b.toNat - a.toNat) (u8s ((s.take b.toNat).drop a.toNat)) := by
  have := h.cut (a := a.toNat) (b := b.toNat) (c := c) (by omega) (by omega) hc
  simpa [u8s, List.map_drop, List.map_take] using this
theorem run_string_of {src dst : TypeId} {A : Option Addr} {m c lo hi : Nat} {s : List UInt8} (hs : P.underlying src = some (.slice e)) (he : P.underlying e = some (.int .u8)) (hd : P.underlying dst = some .string) (hr : Rd w lo hi 1 A m (u8s s)) :
    (convert src dst (.slice A m c)).run P w = .ok (S s) w := by
  have hl := hr.len
  simp only [u8s_length, Nat.mul_one] at hl
  rw [run_convert_bytes_string w src dst e A m c hs he hd]
  by_cases h0 : m = 0
  · subst h0
    have hs0 : s = [] := List.eq_nil_of_length_eq_zero hl
    subst hs0
    rcases A with _ | ad
    · simp [Conv.bytesToString]; rfl
    · have := run_bytesToString (P := P) w ad 0 c [] (by simp [loadCells, loadCellsFrom])
      rw [this]; rfl
  · obtain ⟨ad, rfl, _, _, hc⟩ := hr.at_ (by omega)
    have hld : (loadCells ad m).run P w = .ok ((s.map fun b => (b.toNat : Int)).map (Value.int .u8)).toArray w := by
      have := run_loadCells_list (P := P) w ad (u8s s) hc
      rw [u8s_length, hl] at this
      rw [this]
      simp [u8s, Function.comp_def]
    rw [run_bytesToString (P := P) w ad m c _ hld, foldl_push_bytes]
    simp [S, ByteArray.empty, ByteArray.emptyWithCapacity, Function.comp_def]; rfl
theorem TL_bytes {src dst : TypeId} {s : List UInt8} (hs : P.underlying src = some .string) (hd : P.underlying dst = some (.slice e)) (he : P.underlying e = some (.int .u8)) (hx : ev l x = some (S s)) (hn : Nat.blt d n = true)
    (h : ∀ w' g c, Ext w w' → g = w.heap.size → w'.heap.size = g + 1 → s.length ≤ c → Rd w' g (g + 1) 1 (some ⟨g, 0, none⟩) s.length (u8s s) → TL P L Q rest n ((d, .slice (some ⟨g, 0, none⟩) s.length c) :: l) w') :
    TL P L Q (⟨some d, .convert src dst x, ty, pos, af, none⟩ :: rest) n l w := by
  have h2 : (ByteArray.mk s.toArray).size = s.length := by simp [ByteArray.size]
  refine TL_run (w' := Lib.bytesWorld w e ⟨s.toArray⟩) rfl rfl hn (fun a ha => by
    have := Lib.run_convert_string_bytes (P := P) w src dst e ⟨s.toArray⟩ hs hd he
    simp [execOp, ha.eval hx, this]; rfl) ?_
  rw [h2]
  refine h _ _ _ ⟨rfl, rfl, rfl, by rw [Lib.bytesWorld_size]; omega, fun k hk _ => Lib.bytesWorld_at_old w e _ k hk⟩ rfl (Lib.bytesWorld_size _ _ _) (grownCap_ge _ _ _ _) ⟨by simp, by rw [Lib.bytesWorld_size]; exact Nat.le_refl _, fun hn => ⟨_, rfl, Nat.le_refl _, Nat.lt_succ_self _, fun j u hu => ?_⟩⟩
  have hj : j < s.length := by
    have := (List.getElem?_eq_some_iff.1 hu).1
    simpa using this
  rw [add0, Lib.bytesWorld_cell w e _ j (by rw [h2]; exact hj), ← hu]
  simp [u8s, List.getD_eq_getElem?_getD, List.getElem?_eq_getElem hj]
theorem Pu_string {src dst : TypeId} {A : Option Addr} {m c : Nat} {s : List UInt8} (hs : P.underlying src = some (.slice e)) (he : P.underlying e = some (.int .u8)) (hd : P.underlying dst = some .string) (hx : ev l x = some (.slice A m c)) (hr : ∀ w, C w → ∃ lo hi, Rd w lo hi 1 A m (u8s s)) :
    Pu P C n l ⟨dd, .convert src dst x, ty, pos, af, none⟩ (S s) := fun a ha w hw => by
  obtain ⟨lo, hi, h⟩ := hr w hw
  have := run_string_of (c := c) hs he hd h
  simp [execOp, ha.eval hx, this]
end

/-! ### Results that lie in memory -/
section
variable {P : Program} {n : Nat} {l : Env} {w : World} {fn : Func}
theorem run_loadVar_blk {g : Nat} {tb ty : TypeId} {cs : List Value} {ds : TypeDesc} (hb : Blk w g tb cs) (hu : P.underlying ty = some ds) (hd : (match ds with | .struct _ | .array _ _ => true | _ => false) = true) (hz : (P.info? ty).map (·.size) = some cs.length) :
    (loadVar ty ⟨g, 0, none⟩).run P w = .ok (.agg cs.toArray) w := run_loadVar_row (P := P) w g tb ty cs.toArray (0, 0) ds hb hu hd (by simpa using hz)
theorem resA {t : Nat} {ty tb : TypeId} {g : Nat} {cs : List Value} {ds : TypeDesc} (h : fn.results = #[.cell t ty]) (hv : look l t = some (.pointer (some ⟨g, 0, none⟩))) (hb : Blk w g tb cs) (hu : P.underlying ty = some ds)
    (hd : (match ds with | .struct _ | .array _ _ => true | _ => false) = true) (hz : (P.info? ty).map (·.size) = some cs.length) : ∀ a : Act, Holds n l a → (results fn a.tmps).run P w = .ok (.agg cs.toArray) w := fun a ha => by
  have h1 := ha.at_ t _ hv
  rw [Array.getD_eq_getD_getElem?] at h1
  have h2 := run_loadVar_blk (P := P) hb hu hd hz
  simp [results, h, h1, asAddr, h2]
theorem resA1 {t u : Nat} {ty tb : TypeId} {g : Nat} {cs : List Value} {y : Value} {ds : TypeDesc} (h : fn.results = #[.cell t ty, .tmp u]) (hv : look l t = some (.pointer (some ⟨g, 0, none⟩))) (hy : look l u = some y) (hb : Blk w g tb cs) (hu : P.underlying ty = some ds)
    (hd : (match ds with | .struct _ | .array _ _ => true | _ => false) = true) (hz : (P.info? ty).map (·.size) = some cs.length) : ∀ a : Act, Holds n l a → (results fn a.tmps).run P w = .ok (.tuple #[.agg cs.toArray, y]) w := fun a ha => by
  have h1 := ha.at_ t _ hv
  have h3 := ha.at_ u _ hy
  rw [Array.getD_eq_getD_getElem?] at h1 h3
  have h2 := run_loadVar_blk (P := P) hb hu hd hz
  simp [results, h, h1, h3, asAddr, h2]
theorem resA2 {t u s : Nat} {ty tb : TypeId} {g : Nat} {cs : List Value} {y z : Value} {ds : TypeDesc} (h : fn.results = #[.cell t ty, .tmp u, .tmp s]) (hv : look l t = some (.pointer (some ⟨g, 0, none⟩))) (hy : look l u = some y) (hs : look l s = some z) (hb : Blk w g tb cs) (hu : P.underlying ty = some ds)
    (hd : (match ds with | .struct _ | .array _ _ => true | _ => false) = true) (hz : (P.info? ty).map (·.size) = some cs.length) : ∀ a : Act, Holds n l a → (results fn a.tmps).run P w = .ok (.tuple #[.agg cs.toArray, y, z]) w := fun a ha => by
  have h1 := ha.at_ t _ hv
  have h3 := ha.at_ u _ hy
  have h4 := ha.at_ s _ hs
  rw [Array.getD_eq_getD_getElem?] at h1 h3 h4
  have h2 := run_loadVar_blk (P := P) hb hu hd hz
  simp [results, h, h1, h3, h4, asAddr, h2]
end

/-! ### A region whose order is open, all of whose operations yield one value in every world of a class -/
def TQ (P : Program) (L : List Oper) (C : World → Prop) (K : Act → Prop) (rest : List Oper) (n : Nat) (l : Env) : Prop := ∀ a, Holds n l a → wpQuiet P L.toArray C K rest a
section
variable {P : Program} {C : World → Prop} {K : Act → Prop} {L : List Oper} {Q : Exit → Act → World → Prop} {n d : Nat} {l : Env} {w : World} {rest : List Oper} {v : Value}
theorem TC_quiet {id : Nat} (C : World → Prop) (hm : P.follows .mixedOrders = true) (hB : Region.lexB .any L.toArray = true) (hC : C { w with drawn := w.drawn + 1 })
    (h : TQ P L C (fun a' => ∀ w', C w' → Q .normal a' w') L n l) : TC P Q (.region id L.toArray true) n l w :=
  fun a ha => wp_region_quiet (C := C) hm hB hC (by simpa using h a ha)
/-- The class of all worlds in which nothing that was there has changed. -/
theorem TC_quietExt {id : Nat} (hm : P.follows .mixedOrders = true) (hB : Region.lexB .any L.toArray = true)
    (h : TQ P L (Ext w) (fun a' => ∀ w', Ext w w' → Q .normal a' w') L n l) : TC P Q (.region id L.toArray true) n l w :=
  TC_quiet (Ext w) hm hB (Ch.refl _ _).drew h
theorem TQ_nil (h : ∀ w', C w' → TN Q n l w') : TQ P L C (fun a' => ∀ w', C w' → Q .normal a' w') [] n l := fun a ha w' hw => h w' hw a ha
theorem Jck {dd : Nat} {op : Op} {ty : TypeId} {pos : String} {af : Array Edge} (hp : Pu P C n l ⟨some dd, op, ty, pos, af, none⟩ v) (hn : Nat.blt dd n = true)
    (h : TQ P L C K rest n ((dd, v) :: l)) : TQ P L C K (⟨some dd, op, ty, pos, af, none⟩ :: rest) n l := by
  intro a ha
  refine wpQuiet_step fun K' hK => ?_
  rw [if_pos (by simp [Region.wanted])]
  refine ⟨v, fun w hw => ?_, hK _ (h _ (ha.put hn v))⟩
  unfold Oper.quietAt
  rw [hp a ha w hw]
  exact ⟨rfl, rfl⟩
theorem Jcl {dd : Option Nat} {op : Op} {ty : TypeId} {pos : String} {af : Array Edge} {j dj : Nat} {b : Bool} (hj : nthDst L j = some dj) (hn : Nat.blt dj n = true)
    (hv : look l dj = some (.bool b)) (h : TQ P L C K (⟨dd, op, ty, pos, af, none⟩ :: rest) n l) : TQ P L C K (⟨dd, op, ty, pos, af, some (j, b)⟩ :: rest) n l := by
  intro a ha
  have h1 := h a ha
  have hy := yielded_of (L := L) ha hj hn hv
  unfold wpQuiet at h1 ⊢
  rw [if_pos (by simp [Region.wanted])] at h1
  rw [if_pos (by simp [Region.wanted, hy])]
  exact h1
theorem Jcm {dd : Nat} {op : Op} {ty : TypeId} {pos : String} {af : Array Edge} {j dj : Nat} {b b' : Bool} (hj : nthDst L j = some dj) (hn : Nat.blt dj n = true)
    (hv : look l dj = some (.bool b')) (hne : (b' == b) = false) (hd : Nat.blt dd n = true) (h : TQ P L C K rest n ((dd, undef) :: l)) : TQ P L C K (⟨some dd, op, ty, pos, af, some (j, b)⟩ :: rest) n l := by
  intro a ha
  have hy := yielded_of (L := L) ha hj hn hv
  unfold wpQuiet
  rw [if_neg (by simp [Region.wanted, hy]; simpa using hne)]
  exact h _ (ha.put hd undef)
theorem Jcn {dd : Nat} {op : Op} {ty : TypeId} {pos : String} {af : Array Edge} {j dj : Nat} {b : Bool} (hj : nthDst L j = some dj) (hn : Nat.blt dj n = true)
    (hv : look l dj = some undef) (hd : Nat.blt dd n = true) (h : TQ P L C K rest n ((dd, undef) :: l)) : TQ P L C K (⟨some dd, op, ty, pos, af, some (j, b)⟩ :: rest) n l := by
  intro a ha
  have hy := yielded_undef (L := L) (b := b) ha hj hn hv
  unfold wpQuiet
  rw [if_neg (by simp [Region.wanted, hy])]
  exact h _ (ha.put hd undef)
theorem TQ_split {o : Oper} {dj : Nat} {b : Bool} (hv : look l dj = some (.bool b)) (h1 : b = true → TQ P L C K (o :: rest) n ((dj, .bool true) :: l))
    (h0 : b = false → TQ P L C K (o :: rest) n ((dj, .bool false) :: l)) : TQ P L C K (o :: rest) n l := by
  intro a ha
  cases b with
  | true => exact h1 rfl a (ha.add hv)
  | false => exact h0 rfl a (ha.add hv)
theorem Jcu {dd : Option Nat} {op : Op} {ty : TypeId} {pos : String} {af : Array Edge} {j dj : Nat} {b c : Bool} (_hj : nthDst L j = some dj) (hv : look l dj = some (.bool c))
    (h1 : c = true → TQ P L C K (⟨dd, op, ty, pos, af, some (j, b)⟩ :: rest) n ((dj, .bool true) :: l)) (h0 : c = false → TQ P L C K (⟨dd, op, ty, pos, af, some (j, b)⟩ :: rest) n ((dj, .bool false) :: l)) :
    TQ P L C K (⟨dd, op, ty, pos, af, some (j, b)⟩ :: rest) n l := TQ_split hv h1 h0
theorem Jcv {dd : Option Nat} {op : Op} {ty : TypeId} {pos : String} {af : Array Edge} {j dj : Nat} {b : Bool} {p : Prop} [Decidable p] (_hj : nthDst L j = some dj) (hv : look l dj = some (.bool (decide p)))
    (h1 : p → TQ P L C K (⟨dd, op, ty, pos, af, some (j, b)⟩ :: rest) n ((dj, .bool true) :: l)) (h0 : ¬ p → TQ P L C K (⟨dd, op, ty, pos, af, some (j, b)⟩ :: rest) n ((dj, .bool false) :: l)) :
    TQ P L C K (⟨dd, op, ty, pos, af, some (j, b)⟩ :: rest) n l := TQ_split hv (fun h => h1 (of_decide_eq_true h)) (fun h => h0 (of_decide_eq_false h))
theorem Jcw {dd : Option Nat} {op : Op} {ty : TypeId} {pos : String} {af : Array Edge} {j dj : Nat} {b : Bool} {p : Prop} [Decidable p] (_hj : nthDst L j = some dj) (hv : look l dj = some (.bool (!decide p)))
    (h1 : ¬ p → TQ P L C K (⟨dd, op, ty, pos, af, some (j, b)⟩ :: rest) n ((dj, .bool true) :: l)) (h0 : p → TQ P L C K (⟨dd, op, ty, pos, af, some (j, b)⟩ :: rest) n ((dj, .bool false) :: l)) :
    TQ P L C K (⟨dd, op, ty, pos, af, some (j, b)⟩ :: rest) n l := TQ_split hv (fun h => h1 (by simpa using h)) (fun h => h0 (by simpa using h))
theorem TQ_call {dd : Nat} {f : FuncId} {xs : List Operand} {ats : Array TypeId} {ty : TypeId} {pos : String} {af : Array Edge} {vs : List Value}
    (hx : evs l xs = some vs) (hen : Enters P f) (hc : ∀ w, C w → Ret P f vs.toArray w (fun v' w' => v' = v ∧ C w')) (hn : Nat.blt dd n = true) (h : TQ P L C K rest n ((dd, v) :: l)) :
    TQ P L C K (⟨some dd, .call { callee := .value (.func f), args := xs.toArray, argTypes := ats }, ty, pos, af, none⟩ :: rest) n l := by
  intro a ha
  refine wpQuiet_step fun K' hK => ?_
  rw [if_pos (by simp [Region.wanted])]
  refine ⟨v, fun w hw => ?_, hK _ (h _ (ha.put hn v))⟩
  have hm : xs.toArray.map a.eval = vs.toArray := by
    rw [List.map_toArray, ha.evals hx]
  have hm' : #[] ++ xs.toArray.map a.eval ++ #[] = vs.toArray := by simpa using hm
  have he := hen vs.toArray w
  unfold Oper.quietAt execOp
  simp only [resolve, Act.eval, Deferred.ofValue, Sem.run_bind, Sem.run_pure, Result.andThen_ok, invoke]
  show Oper.quietUpon P C w v ((callFunc f (#[] ++ xs.toArray.map (fun x => a.eval x) ++ #[])).run P w)
  rw [show (fun x => a.eval x) = a.eval from rfl, hm', he]
  exact ⟨rfl, Calls.mono (hc w hw) fun e w' ⟨v', he', hv', hcw⟩ => ⟨by rw [he', hv'], hcw⟩⟩
end
end Go.Proofs.YtggaghghclomkaaGreat
