/- The disk that is none, and nodes that a call owns of which one is put. No condition. -/
import Derived.Test.YtggaghghclomkaaGreatCopyD
namespace Go.Proofs.YtggaghghclomkaaGreat
open Go.RowKit
def noDk : DiskP := ⟨0, 0, 0, [], [], []⟩
theorem totD_no : totD noDk = 0 := by simp [totD, noDk, totNd, totLk, totTn]
theorem ODk.nil {w : World} {lo hi : Nat} (h : hi ≤ w.heap.size) : ODk w lo hi noDk (.slice none 0 0) (.slice none 0 0) (.slice none 0 0) :=
  ⟨h, [], rfl, ONx.empty w, (RowO.nil w 0 (Nat.zero_le _)).x, (RowO.nil w 0 (Nat.zero_le _)).x, by simp [bksN, blk], by simp [bksN, blk]⟩
theorem nodes_split {es : List Nd} {k : Nat} (hk : k < es.length) (x' : Nd) : es.set k x' = es.take k ++ x' :: es.drop (k + 1) := by
  rw [List.set_eq_take_append_cons_drop, if_pos hk]
theorem nodes_self {es : List Nd} {k : Nat} (hk : k < es.length) : es = es.take k ++ es[k] :: es.drop (k + 1) := by
  conv => lhs; rw [← List.take_append_drop k es, List.drop_eq_getElem_cons hk]
theorem cells_safe {es : List Nd} {k : Nat} (hk : k < es.length) {id : Int} {body safe s : List UInt8} {vb vs v : Value} (hx : es[k] = ⟨id, body, safe, vb, vs⟩) : (cellsL NdC es).set (k * 3 + 2) v = cellsL NdC (es.set k ⟨id, body, s, vb, v⟩) := by
  have hl : (cellsL NdC (es.take k)).length = k * 3 := by rw [cellsL_length NdC_len, List.length_take]; omega
  rw [nodes_split hk, cells_mid]
  conv => lhs; rw [nodes_self hk, hx, cells_mid]
  rw [List.set_append_right _ _ (by omega), hl, Nat.add_sub_cancel_left]
  rfl
theorem cells_body {es : List Nd} {k : Nat} (hk : k < es.length) {id : Int} {body safe s : List UInt8} {vb vs v : Value} (hx : es[k] = ⟨id, body, safe, vb, vs⟩) : (cellsL NdC es).set (k * 3 + 1) v = cellsL NdC (es.set k ⟨id, s, safe, v, vs⟩) := by
  have hl : (cellsL NdC (es.take k)).length = k * 3 := by rw [cellsL_length NdC_len, List.length_take]; omega
  rw [nodes_split hk, cells_mid]
  conv => lhs; rw [nodes_self hk, hx, cells_mid]
  rw [List.set_append_right _ _ (by omega), hl, Nat.add_sub_cancel_left]
  rfl
theorem cells_put {es : List Nd} {k : Nat} (hk : k < es.length) (x' : Nd) : setL (cellsL NdC es) (k * 3) (NdC x') = cellsL NdC (es.set k x') := by
  have hl : (cellsL NdC (es.take k)).length = k * 3 := by rw [cellsL_length NdC_len, List.length_take]; omega
  rw [nodes_split hk, cells_mid]
  conv => lhs; rw [nodes_self hk, cells_mid]
  rw [setL_app _ _ _ _ hl (by simp [NdC])]
  simp [NdC]
theorem ONx.set {w w' : World} {g n c lo hi k : Nat} {es : List Nd} {x' : Nd} (hk : k < es.length) (h : ONx w (.slice (some ⟨g, 0, none⟩) n c) es) (hch : Ch (Iv g (g + 1)) w w') (hrow : RowO NdC 98 3 w' lo hi (.slice (some ⟨g, 0, none⟩) n c) (es.set k x'))
    (hx : OBx w x'.vb x'.body ∧ OBx w x'.vs x'.safe) (hn : (bkd x').Nodup) (hap : ∀ b ∈ bkd x', b ∈ bkd es[k] ∨ b ∉ bksN (.slice (some ⟨g, 0, none⟩) n c) es) : ONx w' (.slice (some ⟨g, 0, none⟩) n c) (es.set k x') := by
  have hnd := h.nd
  have hself := nodes_self hk
  have hg : bksN (.slice (some ⟨g, 0, none⟩) n c) es = g :: es.flatMap bkd := rfl
  rw [hg] at hnd hap
  have hnd2 := hnd
  rw [hself, List.flatMap_append, List.flatMap_cons, List.nodup_cons, List.nodup_append, List.nodup_append] at hnd2
  obtain ⟨hgn, hM, ⟨hX, hD, hXD⟩, hMX⟩ := hnd2
  have hgm : ∀ d ∈ es, g ∉ bkd d := fun d hd hb => (List.nodup_cons.1 hnd).1 (List.mem_flatMap.2 ⟨d, hd, hb⟩)
  have hgx : g ∉ bkd x' := fun hb => by
    rcases hap g hb with h1 | h1
    · exact hgm _ (List.getElem_mem hk) h1
    · exact h1 (List.mem_cons_self ..)
  have hnot : ∀ b ∈ bkd x', b ∉ (es.take k).flatMap bkd ∧ b ∉ (es.drop (k + 1)).flatMap bkd := fun b hb => by
    rcases hap b hb with h1 | h1
    · exact ⟨fun h2 => hMX b h2 b (List.mem_append.2 (.inl h1)) rfl, fun h2 => hXD b h1 b h2 rfl⟩
    · have hsub : ∀ d ∈ es, b ∉ bkd d := fun d hd h2 => h1 (List.mem_cons_of_mem _ (List.mem_flatMap.2 ⟨d, hd, h2⟩))
      exact ⟨fun h2 => by obtain ⟨d, hd, h3⟩ := List.mem_flatMap.1 h2; exact hsub d (List.mem_of_mem_take hd) h3, fun h2 => by obtain ⟨d, hd, h3⟩ := List.mem_flatMap.1 h2; exact hsub d (List.mem_of_mem_drop hd) h3⟩
  have hiv : ∀ b, b ≠ g → ¬ Iv g (g + 1) b := fun b hb h => by simp only [Iv] at h; omega
  refine ⟨hrow.x, fun d hd => ?_, ?_⟩
  · rcases List.mem_or_eq_of_mem_set hd with hd | rfl
    · have hok := h.ok d hd
      have hgd := hgm d hd
      exact ⟨hok.1.ch hch (fun b hb => hiv b (fun e => hgd (e ▸ List.mem_append.2 (.inl hb)))), hok.2.ch hch (fun b hb => hiv b (fun e => hgd (e ▸ List.mem_append.2 (.inr hb))))⟩
    · exact ⟨hx.1.ch hch (fun b hb => hiv b (fun e => hgx (e ▸ List.mem_append.2 (.inl hb)))), hx.2.ch hch (fun b hb => hiv b (fun e => hgx (e ▸ List.mem_append.2 (.inr hb))))⟩
  · show (g :: (es.set k x').flatMap bkd).Nodup
    rw [nodes_split hk, List.flatMap_append, List.flatMap_cons, List.nodup_cons, List.nodup_append, List.nodup_append]
    refine ⟨fun hm => ?_, hM, ⟨hn, hD, fun a ha b hb e => (hnot a ha).2 (e ▸ hb)⟩, fun a ha b hb e => ?_⟩
    · rw [List.mem_append, List.mem_append] at hm
      rcases hm with hm | hm | hm
      · exact hgn (List.mem_append.2 (.inl hm))
      · exact hgx hm
      · exact hgn (List.mem_append.2 (.inr (List.mem_append.2 (.inr hm))))
    · subst e
      rcases List.mem_append.1 hb with hb | hb
      · exact (hnot a hb).1 ha
      · exact hMX a ha a (List.mem_append.2 (.inr hb)) rfl
/-- The blocks behind a put. -/
theorem bks_set {R : Nat → Prop} {v : Value} {es : List Nd} {k : Nat} {x' : Nd} (h : ∀ b ∈ bksN v es, R b) (hx : ∀ b ∈ bkd x', R b) : ∀ b ∈ bksN v (es.set k x'), R b := by
  intro b hb
  rcases List.mem_append.1 hb with hb | hb
  · exact h b (List.mem_append.2 (.inl hb))
  · obtain ⟨d, hd, hb2⟩ := List.mem_flatMap.1 hb
    rcases List.mem_or_eq_of_mem_set hd with hd | hd
    · exact h b (List.mem_append.2 (.inr (List.mem_flatMap.2 ⟨d, hd, hb2⟩)))
    · exact hx b (hd ▸ hb2)
theorem flatMap_sub (p : Nd → Bool) : ∀ ds : List Nd, ((ds.filter p).flatMap bkd).Sublist (ds.flatMap bkd)
  | [] => List.Sublist.refl _
  | d :: r => by
    rw [List.filter_cons]
    split
    · rw [List.flatMap_cons, List.flatMap_cons]; exact List.Sublist.append (List.Sublist.refl _) (flatMap_sub p r)
    · rw [List.flatMap_cons]; exact (flatMap_sub p r).trans (List.sublist_append_right _ _)
/-- Own nodes of which some are kept, in a new row. -/
theorem ONx.keep {w w' : World} {v v' : Value} {ds : List Nd} {p : Nd → Bool} {lo hi : Nat} {T : Nat → Prop} (h : ONx w v ds) (hr : RowO NdC 98 3 w' lo hi v' (ds.filter p)) (c : Ch T w w') (hT : ∀ b ∈ bksN v ds, ¬ T b) (hm : ∀ b ∈ bksN v ds, b < lo) : ONx w' v' (ds.filter p) := by
  have hnd := h.nd
  unfold bksN at hnd
  rw [List.nodup_append] at hnd
  have hsub := flatMap_sub p ds
  refine ⟨hr.x, fun d hd => ?_, ?_⟩
  · have hd' := (List.mem_filter.1 hd).1
    have hok := h.ok d hd'
    exact ⟨hok.1.ch c (fun b hb => hT b (List.mem_append.2 (.inr (List.mem_flatMap.2 ⟨d, hd', List.mem_append.2 (.inl hb)⟩)))), hok.2.ch c (fun b hb => hT b (List.mem_append.2 (.inr (List.mem_flatMap.2 ⟨d, hd', List.mem_append.2 (.inr hb)⟩))))⟩
  · unfold bksN
    rw [List.nodup_append]
    refine ⟨?_, hnd.2.1.sublist hsub, fun a ha b hb e => ?_⟩
    · obtain ⟨A, c, rfl, _⟩ := hr
      rcases A with _ | ad <;> simp [blk]
    · have h1 := hr.bin a ha
      have h2 := hm b (List.mem_append.2 (.inr (hsub.subset hb)))
      omega
theorem bks_keep {w' : World} {v v' : Value} {ds : List Nd} {p : Nd → Bool} {lo hi lo2 hi2 : Nat} (hr : RowO NdC 98 3 w' lo hi v' (ds.filter p)) (h : ∀ b ∈ bksN v ds, lo2 ≤ b ∧ b < hi2) : ∀ b ∈ bksN v' (ds.filter p), (lo ≤ b ∧ b < hi) ∨ (lo2 ≤ b ∧ b < hi2) := by
  intro b hb
  rcases List.mem_append.1 hb with hb | hb
  · exact .inl (hr.bin b hb)
  · exact .inr (h b (List.mem_append.2 (.inr ((flatMap_sub p ds).subset hb))))
/-- A disk of own nodes and own links, without turns. -/
theorem ODk.mk2 {w : World} {lo hi l1 l2 : Nat} {d : DiskP} {sn sk : Value} {es : List Nd} (hs : hi ≤ w.heap.size) (hm : es.map NdP = d.nodes) (hN : ONx w sn es) (hk : RowO LkC 162 2 w l1 l2 sk d.kept) (ht : d.turns = []) (hb : ∀ b ∈ bksN sn es, lo ≤ b ∧ b < hi ∧ b ∉ blk sk) (h1 : lo ≤ l1) (h2 : l2 ≤ hi) :
    ODk w lo hi d sn sk (.slice none 0 0) := by
  have hkb := hk.bin
  refine ⟨hs, es, hm, hN, hk.x, by rw [ht]; exact (RowO.nil w 0 (Nat.zero_le _)).x, ?_, fun b hb' => ?_⟩
  · rw [show blk (.slice none 0 0) = [] from rfl, List.append_nil, List.nodup_append]
    exact ⟨hN.nd, blk_nodup _, fun a ha b hb' e => (hb a ha).2.2 (e ▸ hb')⟩
  · rw [show blk (.slice none 0 0) = [] from rfl, List.append_nil] at hb'
    rcases List.mem_append.1 hb' with h | h
    · exact ⟨(hb b h).1, (hb b h).2.1⟩
    · have := hkb b h; omega
/-! ### one element after the other is turned -/
theorem upd_zero {α : Type} (f : Nat → α → α) (l : List α) : (l.take 0).mapIdx f ++ l.drop 0 = l := by simp
theorem upd_step {α : Type} (f : Nat → α → α) (l : List α) (k : Nat) (hk : k < l.length) : ((l.take k).mapIdx f ++ l.drop k).set k (f k l[k]) = (l.take (k + 1)).mapIdx f ++ l.drop (k + 1) := by
  have h1 : ((l.take k).mapIdx f).length = k := by rw [List.length_mapIdx, List.length_take]; omega
  have h2 : (l.take k).length = k := by rw [List.length_take]; omega
  rw [List.set_append_right _ _ (by omega), h1, Nat.sub_self, List.drop_eq_getElem_cons hk, List.set_cons_zero, List.take_succ_eq_append_getElem hk, List.mapIdx_append, h2]
  simp
theorem upd_get {α : Type} (f : Nat → α → α) (l : List α) (k : Nat) (hk : k < l.length) : ((l.take k).mapIdx f ++ l.drop k)[k]? = some l[k] := by
  have h1 : ((l.take k).mapIdx f).length = k := by rw [List.length_mapIdx, List.length_take]; omega
  rw [List.getElem?_append_right (by omega), h1, Nat.sub_self, List.drop_eq_getElem_cons hk]
  rfl
theorem upd_all {α : Type} (f : Nat → α → α) (l : List α) : (l.take l.length).mapIdx f ++ l.drop l.length = l.mapIdx f := by simp
end Go.Proofs.YtggaghghclomkaaGreat
