/- Maps that the program makes: a directory by name, a set of numbers. -/
import Derived.Test.YtggaghghclomkaaGreatDirL
import Derived.Carry
import Derived.WalkArith
namespace Go.Proofs.YtggaghghclomkaaGreat
open Go.RowKit
attribute [local irreducible] TL TC TN TX TR TQ TA Ret

theorem rev_ind {α : Type} {motive : List α → Prop} (nil : motive []) (snoc : ∀ r x, motive r → motive (r ++ [x])) (l : List α) : motive l := by
  have h : ∀ m : List α, motive m.reverse := by
    intro m
    induction m with
    | nil => exact nil
    | cons a m ih => rw [List.reverse_cons]; exact snoc _ _ ih
  have := h l.reverse
  rwa [List.reverse_reverse] at this
theorem kStr : Maps.Keyed Tryz.prog 9 := Maps.string_keyed Tryz.underlying9
theorem kInt : Maps.Keyed Tryz.prog 3 := Maps.int_keyed Tryz.underlying3
theorem zInt (w : World) : (zeroValue 3).run Tryz.prog w = .ok (I 0) w := by kernel_rfl
theorem mUnder : Tryz.prog.underlying 104 = some (.map 9 3) := Tryz.underlying104
theorem sUnder : Tryz.prog.underlying 172 = some (.map 3 3) := Tryz.underlying172
theorem wfI {i : Int} (h : -9223372036854775808 ≤ i ∧ i ≤ 9223372036854775807) : (Lit.int .i64 i).wf = true := by
  exact WalkArith.wf_i64 h
theorem plI {i : Int} (h : -9223372036854775808 ≤ i ∧ i ≤ 9223372036854775807) : plainElem (H := Unit) Tryz.prog 3 (I i) = some (.lit (.int .i64 i), []) := plainElem_int Tryz.underlying3 (wfI h)
theorem kyS {s : List UInt8} (h : s.length ≤ 9223372036854775807) : keyOf Tryz.prog 9 (S s) = some (.string s) := by
  have := WideMaps.keyOf_string_mk (P := Tryz.prog) Tryz.underlying9 (s := ⟨s.toArray⟩) (by simp only [maxLen, ByteArray.size, List.size_toArray]; omega)
  simpa using this
theorem kyI {i : Int} (h : -9223372036854775808 ≤ i ∧ i ≤ 9223372036854775807) : keyOf Tryz.prog 3 (I i) = some (.int .i64 i) := Maps.keyOf_int_mk Tryz.underlying3 (wfI h)
/-- Block b is the directory L. -/
def MD (w : World) (b k : Nat) (L : List LkD) : Prop := w.ownsMap Tryz.prog 9 (plainElem Tryz.prog 3) b k (toD L)
def setD (l : List Int) : DataW Unit := Maps.setOf (.lit (.int .i64 1)) (l.map fun i => Lit.int .i64 i)
/-- Block b is a set of the numbers of l. -/
def MS (w : World) (b k : Nat) (l : List Int) : Prop := w.ownsMap Tryz.prog 3 (plainElem Tryz.prog 3) b k (setD l)
section
variable {w w' : World} {b k : Nat} {D : DataW Unit} {T : Nat → Prop} {K : TypeId}
theorem owns_ch {R : Value → Option (DataW Unit × List MemPlace)} (h : w.ownsMap Tryz.prog K R b k D) (c : Ch T w w') (hb : ¬ T b) : w'.ownsMap Tryz.prog K R b k D := by
  obtain ⟨es, clock, h1, h2⟩ := h
  exact ⟨es, clock, (c.block b (Array.getElem?_eq_some_iff.1 h1).1 hb).trans h1, h2⟩
theorem MD.ch {L : List LkD} (h : MD w b k L) (c : Ch T w w') (hb : ¬ T b) : MD w' b k L := owns_ch h c hb
theorem MD.ext {L : List LkD} (h : MD w b k L) (c : Ext w w') : MD w' b k L := h.ch c (fun t => t)
theorem MS.ch {L : List Int} (h : MS w b k L) (c : Ch T w w') (hb : ¬ T b) : MS w' b k L := owns_ch h c hb
theorem MS.ext {L : List Int} (h : MS w b k L) (c : Ext w w') : MS w' b k L := h.ch c (fun t => t)
theorem turned_ch (h : w.mapTurned w' b) : Ch (Iv b (b + 1)) w w' ∧ w'.heap.size = w.heap.size := by
  refine ⟨Ch.of_grown h.grown (fun k hk => by injection hk with hk; subst hk; exact ⟨Nat.le_refl _, Nat.lt_succ_self _⟩), ?_⟩
  obtain ⟨es, clock, es', clock', _, rfl⟩ := h
  simp [ChangeMaps.setBlock]
end
theorem setD_snoc (l : List Int) (i : Int) : setD (l ++ [i]) = (setD l).put (.int .i64 i) (.lit (.int .i64 1)) := by
  unfold setD
  rw [List.map_append]
  exact Maps.setOf_snoc _ _ _
theorem keyI (l : List Int) : ∀ x ∈ l.map (fun i => Lit.int .i64 i), WideAt.IsKeyLit x := by
  intro x hx
  obtain ⟨i, _, rfl⟩ := List.mem_map.1 hx
  trivial
theorem setD_has (l : List Int) (i : Int) : Maps.has (setD l) (.int .i64 i) = decide (i ∈ l) := by
  unfold setD
  rw [Maps.has_setOf _ _ _ (keyI l), List.any_map]
  apply Bool.eq_iff_iff.2
  rw [List.any_eq_true]
  constructor
  · rintro ⟨x, hx, he⟩
    have : x = i := by simpa [Lit.sameKey] using he
    subst this
    simpa using hx
  · intro h
    exact ⟨i, by simpa using h, by simp [Lit.sameKey]⟩
theorem setD_at : ∀ (l : List Int) (i : Int), (setD l).atKey (.int .i64 i) (.lit (.int .i64 0)) = .lit (.int .i64 (if i ∈ l then 1 else 0)) := by
  intro l i
  by_cases h : i ∈ l
  · rw [if_pos h]
    induction l using rev_ind with
    | nil => cases h
    | snoc r x ih =>
      rw [setD_snoc]
      by_cases hx : x = i
      · subst hx
        exact Maps.atKey_put_same (k := .int .i64 x) (Maps.Tidy.isMap (Maps.tidy_setOf _ _ (keyI r))) trivial _ _
      · rw [Maps.atKey_put_other (by intro e; injection e with _ e; exact hx e.symm)]
        refine ih ?_
        rcases List.mem_append.1 h with h | h
        · exact h
        · exact absurd (List.mem_singleton.1 h).symm hx
  · rw [if_neg h]
    exact Maps.atKey_of_not_has (by rw [setD_has]; exact decide_eq_false h) _
theorem setD_size_snoc (l : List Int) (i : Int) : Maps.size (setD (l ++ [i])) = if i ∈ l then Maps.size (setD l) else Maps.size (setD l) + 1 := by
  rw [setD_snoc, Maps.size_put (D := setD l) (Maps.tidy_setOf _ _ (keyI l)), setD_has]
  by_cases h : i ∈ l <;> simp [h]
theorem setD_size (l : List Int) : Maps.size (setD l) ≤ l.length ∧ (Maps.size (setD l) = l.length ↔ l.Nodup) := by
  induction l using rev_ind with
  | nil => exact ⟨by simp [setD, Maps.setOf, Maps.size], by simp [setD, Maps.setOf, Maps.size]⟩
  | snoc r x ih =>
    rw [setD_size_snoc, List.length_append, List.length_singleton, List.nodup_append]
    by_cases h : x ∈ r
    · rw [if_pos h]
      refine ⟨by omega, ⟨fun e => by omega, fun e => absurd rfl (e.2.2 x h x (by simp))⟩⟩
    · rw [if_neg h]
      refine ⟨by omega, ⟨fun e => ⟨ih.2.1 (by omega), by simp, fun a ha b hb => ?_⟩, fun e => by rw [ih.2.2 e.1]⟩⟩
      rw [List.mem_singleton.1 hb]
      intro e; subst e; exact h ha
section
variable {P : Program} {C : World → Prop} {n : Nat} {l : Env} {dd : Option Nat} {w : World} {ty t : TypeId} {pos : String} {af : Array Edge} {m x : Operand} {u key v : Value} {c : Bool}
theorem Pu_lookG (hm : ev l m = some u) (hx : ev l x = some key) (h : ∀ w, C w → (Instr.lookup t u key c).run P w = .ok v w) : Pu P C n l ⟨dd, .lookup t m x c, ty, pos, af, none⟩ v := fun a ha w hw => by
  simp [execOp, ha.eval hm, ha.eval hx, h w hw, Result.andThen]
theorem Pu_lenG (hm : ev l m = some u) (h : ∀ w, C w → (Builtin.len_ #[t] ty #[u]).run P w = .ok v w) : Pu P C n l ⟨dd, .call { callee := .builtin .len, args := #[m], argTypes := #[t] }, ty, pos, af, none⟩ v := fun a ha w hw => by
  simp [execOp, resolve, invoke, builtin, ha.eval hm, h w hw, Result.andThen]
theorem alloc_size (w : World) (o : Obj) : (w.alloc o).heap.size = w.heap.size + 1 := by simp
theorem TL_mapG {L : List Oper} {Q : Exit → Act → World → Prop} {d : Nat} {rest : List Oper} (hn : Nat.blt d n = true)
    (h : TL P L Q rest n ((d, .map (some w.heap.size)) :: l) (w.alloc (.map #[] 0))) : TL P L Q (⟨some d, .makeMap t none, ty, pos, af, none⟩ :: rest) n l w :=
  TL_run (w' := w.alloc (.map #[] 0)) rfl rfl hn (fun s _ => by simp [execOp, run_makeMap, Result.andThen]) h
end
section
variable {C : World → Prop} {L : List Oper} {Q : Exit → Act → World → Prop} {n d : Nat} {l : Env} {w : World} {rest : List Oper} {ty : TypeId} {pos : String} {af : Array Edge} {m x y : Operand} {b k : Nat} {dd : Option Nat}
theorem TL_makeMap {t : TypeId} (hn : Nat.blt d n = true)
    (h : ∀ w', Ext w w' → w'.heap.size = w.heap.size + 1 → MD w' w.heap.size 0 [] → MS w' w.heap.size 0 [] → TL Tryz.prog L Q rest n ((d, .map (some w.heap.size)) :: l) w') :
    TL Tryz.prog L Q (⟨some d, .makeMap t none, ty, pos, af, none⟩ :: rest) n l w := by
  exact TL_mapG hn (h _ (Ext.alloc_ _ _) (alloc_size _ _) (World.ownsMap_made _ _ _ _) (World.ownsMap_made _ _ _ _))
theorem Pu_dirLook {s : List UInt8} (hm : ev l m = some (.map (some b))) (hx : ev l x = some (S s)) (hs : s.length ≤ 9223372036854775807) {D : List LkD} (hM : ∀ w, C w → ∃ k, MD w b k D) :
    Pu Tryz.prog C n l ⟨dd, .lookup 104 m x true, ty, pos, af, none⟩ (.tuple #[I (dFind D s), .bool (dHas D s)]) := Pu_lookG hm hx fun w hw => by
  obtain ⟨k, hk⟩ := hM w hw
  obtain ⟨v, ps, hrun, hv⟩ := World.ownsMap.look_ok hk kStr mUnder (zInt w) (plI (by omega)) (kyS hs)
  rw [toD_at, toD_has] at *
  obtain ⟨c, rfl, hc, _⟩ := plainElem_int_inv Tryz.underlying3 hv
  simp only [Prod.mk.injEq, DataW.lit.injEq, Lit.int.injEq, true_and] at hc
  rw [hrun, hc.1]
theorem Pu_dirLookB {s : List UInt8} {q : Bool} (hm : ev l m = some (.map (some b))) (hx : ev l x = some (S s)) (hs : s.length ≤ 9223372036854775807) {D : List LkD} (hq : dHas D s = q) (hM : ∀ w, C w → ∃ k, MD w b k D) :
    Pu Tryz.prog C n l ⟨dd, .lookup 104 m x true, ty, pos, af, none⟩ (.tuple #[I (dFind D s), .bool q]) := by
  rw [← hq]; exact Pu_dirLook hm hx hs hM
theorem Pu_setLook {i : Int} (hm : ev l m = some (.map (some b))) (hx : ev l x = some (I i)) (hi : -9223372036854775808 ≤ i ∧ i ≤ 9223372036854775807) {s : List Int} (hM : ∀ w, C w → ∃ k, MS w b k s) :
    Pu Tryz.prog C n l ⟨dd, .lookup 172 m x false, ty, pos, af, none⟩ (I (if i ∈ s then 1 else 0)) := Pu_lookG hm hx fun w hw => by
  obtain ⟨k, hk⟩ := hM w hw
  obtain ⟨c, hrun, hc, _⟩ := World.ownsMap.lookup_int hk kInt sUnder Tryz.underlying3 (zInt w) (kyI hi)
  rw [setD_at] at hc
  simp only [DataW.lit.injEq, Lit.int.injEq, true_and] at hc
  rw [hrun, hc]
theorem Pu_setLen (hm : ev l m = some (.map (some b))) {s : List Int} (hM : ∀ w, C w → ∃ k, MS w b k s) :
    Pu Tryz.prog C n l ⟨dd, .call { callee := .builtin .len, args := #[m], argTypes := #[172] }, ty, pos, af, none⟩ (I (Maps.size (setD s) : Nat)) := Pu_lenG hm fun w hw => by
  obtain ⟨k, hk⟩ := hM w hw
  exact World.ownsMap.len hk sUnder ty
theorem TL_dirPut {D : List LkD} {s : List UInt8} {i : Int} (hm : ev l m = some (.map (some b))) (hx : ev l x = some (S s)) (hy : ev l y = some (I i)) (hM : MD w b k D) (hs : s.length ≤ 9223372036854775807)
    (hi : -9223372036854775808 ≤ i ∧ i ≤ 9223372036854775807) (hk : k < 1048576)
    (h : ∀ w', Ch (Iv b (b + 1)) w w' → w'.heap.size = w.heap.size → MD w' b (k + 1) (dIns ⟨s, i⟩ (dLess D s)) → TL Tryz.prog L Q rest n l w') :
    TL Tryz.prog L Q (⟨none, .mapUpdate 104 m x y, ty, pos, af, none⟩ :: rest) n l w := by
  unfold TL at *
  intro a ha
  refine wpList_mapUpdate_in (H := Unit) w rfl m x y _ rfl _ _ kStr mUnder (plainElem Tryz.prog 3) b k (toD D) (ha.eval hm) hM (by simp only [maxLen]; omega) (S s) (I i) (.string s) (ha.eval hx) (ha.eval hy) (kyS hs) (.lit (.int .i64 i)) [] (plI hi) ?_
  intro w' h1 h2
  obtain ⟨c1, c2⟩ := turned_ch h2
  rw [toD_put] at h1
  exact h w' c1 c2 h1 _ (ha.put_none _)
theorem TL_setPut {s : List Int} {i : Int} (hm : ev l m = some (.map (some b))) (hx : ev l x = some (I i)) (hy : ev l y = some (I 1)) (hM : MS w b k s) (hi : -9223372036854775808 ≤ i ∧ i ≤ 9223372036854775807) (hk : k < 1048576)
    (h : ∀ w', Ch (Iv b (b + 1)) w w' → w'.heap.size = w.heap.size → MS w' b (k + 1) (s ++ [i]) → TL Tryz.prog L Q rest n l w') :
    TL Tryz.prog L Q (⟨none, .mapUpdate 172 m x y, ty, pos, af, none⟩ :: rest) n l w := by
  unfold TL at *
  intro a ha
  refine wpList_mapUpdate_in (H := Unit) w rfl m x y _ rfl _ _ kInt sUnder (plainElem Tryz.prog 3) b k (setD s) (ha.eval hm) hM (by simp only [maxLen]; omega) (I i) (I 1) (.int .i64 i) (ha.eval hx) (ha.eval hy) (kyI hi) (.lit (.int .i64 1)) [] (plI (by omega)) ?_
  intro w' h1 h2
  obtain ⟨c1, c2⟩ := turned_ch h2
  rw [← setD_snoc] at h1
  exact h w' c1 c2 h1 _ (ha.put_none _)
theorem TL_dirDel {D : List LkD} {s : List UInt8} (hm : ev l m = some (.map (some b))) (hx : ev l x = some (S s)) (hM : MD w b k D) (hs : s.length ≤ 9223372036854775807)
    (h : ∀ w', Ch (Iv b (b + 1)) w w' → w'.heap.size = w.heap.size → MD w' b k (dLess D s) → TL Tryz.prog L Q rest n l w') :
    TL Tryz.prog L Q (⟨none, .call { callee := .builtin .delete, args := #[m, x], argTypes := #[104, 9] }, ty, pos, af, none⟩ :: rest) n l w := by
  unfold TL at *
  intro a ha
  refine wpList_delete_own (H := Unit) w rfl m x _ _ rfl _ kStr mUnder (plainElem Tryz.prog 3) b k (toD D) (ha.eval hm) hM (S s) (.string s) (ha.eval hx) (kyS hs) ?_
  intro w' h1 h2
  obtain ⟨c1, c2⟩ := turned_ch h2
  rw [toD_del] at h1
  exact h w' c1 c2 h1 _ (ha.put_none _)
end
end Go.Proofs.YtggaghghclomkaaGreat
