/- Texts of this proof laid together, in the order in which they build; what each proves stands ahead of it. No condition but those told there. -/
import Derived.Test.YtggaghghclomkaaGreatQFEOFT25g

/- Contracts: the nodes that a directory links. -/
namespace Go.Proofs.YtggaghghclomkaaGreat
open Go.RowKit
/-- A node's contents are slices. -/
def SlN (d : Nd) : Prop := (∃ A m c, d.vb = .slice A m c) ∧ ∃ A m c, d.vs = .slice A m c
theorem NdOk.sl {w : World} {lo hi : Nat} {d : Nd} (h : NdOk w lo hi d) : SlN d := by
  obtain ⟨⟨A, c, h1, _⟩, ⟨A', c', h2, _⟩⟩ := h
  exact ⟨⟨A, _, c, h1⟩, ⟨A', _, c', h2⟩⟩
theorem SlN.one {d : Nd} (h : SlN d) : ∀ u ∈ NdC d, u.oneCell' = true := by
  obtain ⟨⟨A, m, c, h1⟩, ⟨A', m', c', h2⟩⟩ := h
  intro u hu
  simp [NdC] at hu
  rcases hu with rfl | rfl | rfl
  · rfl
  · rw [h1]; rfl
  · rw [h2]; rfl
theorem nd_new {w1 : World} {g n : Nat} {d : Nd} {e : TypeId} {w : World} {us : List Value} (h : Own w1 g (g + 1) e 3 (some ⟨g, 0, none⟩) n n us) (hu : us = NdC d) (hn : n = 1) (hg : g = w.heap.size) (hz : w1.heap.size = g + 1) : RowO NdC e 3 w1 w.heap.size w1.heap.size (.slice (some ⟨g, 0, none⟩) n n) [d] :=
  RowO.new (by rw [hn]; rfl) (by rw [show cellsL NdC [d] = NdC d by simp [cellsL], ← hu]; exact h) hg hz
section
variable {α : Type} {f : α → List Value} {e : TypeId} {P : Program} {L : List Oper} {Q : Exit → Act → World → Prop} {n d : Nat} {l : Env} {w : World} {rest : List Oper} {ty : TypeId} {pos : String} {af : Array Edge} {v v2 : Value} {x y : Operand} {t : TypeId}
/-- Own records are appended to, by records of one cell each field. -/
theorem TL_appendRow1 {lo hi lo2 hi2 size bytes : Nat} {z : Value} {s s2 : List α} (ht : P.underlying t = some (.slice e)) (hi0 : (P.info? e).map (fun i => (i.zero, i.size, i.bytes)) = some (some z, size, bytes)) (hzs : z.cells.size = size) (hpos : Nat.blt 0 size = true) (hby : Nat.ble bytes 1024 = true)
    (hone : ∀ u ∈ cellsL f s2, u.oneCell' = true) (hx : ev l x = some v) (hy : ev l y = some v2) (ho : RowO f e size w lo hi v s) (hr : RowR f size w lo2 hi2 v2 s2)
    (hlo : lo ≤ w.heap.size) (hm : s.length + s2.length ≤ 1073741824) (hn : Nat.blt d n = true)
    (h : ∀ w' v', Ch (Iv lo hi) w w' → RowO f e size w' lo w'.heap.size v' (s ++ s2) → TL P L Q rest n ((d, v') :: l) w') :
    TL P L Q (⟨some d, .call { callee := .builtin .append, args := #[x, y], argTypes := #[t, t] }, ty, pos, af, none⟩ :: rest) n l w := by
  obtain ⟨A, c, rfl, ho⟩ := ho
  obtain ⟨A2, c2, rfl, _, hr⟩ := hr
  have hb : (s.length + s2.length) * bytes ≤ 140737488355328 := Nat.le_trans (Nat.mul_le_mul hm (Nat.le_of_ble_eq_true hby)) (by decide)
  refine TL_append ht hi0 hzs hpos hx hy ho hr hone hlo hb (by omega) hn ?_
  intro w1 hi1 A1 c1 hch h1 h2 h3 hown
  have hz := hch.size
  have hh := ho.hi_le
  exact h w1 _ hch ⟨A1, c1, by rw [List.length_append], (hown.wide (Nat.le_refl _) (by omega) (Nat.le_refl _)).cast (by rw [List.length_append]) (cellsL_append _ _).symm⟩
end
/-- The nodes whose numbers are in s. -/
def only (ds : List Nd) (s : List Int) : List Nd := ds.filter fun x => decide (x.id ∈ s)
def onlyP (l : List NodeP) (s : List Int) : List NodeP := l.filter fun p => decide (p.1 ∈ s)
theorem only_map (ds : List Nd) (s : List Int) : (only ds s).map NdP = onlyP (ds.map NdP) s := by
  unfold only onlyP
  rw [List.filter_map]
  rfl
theorem only_take (ds : List Nd) (s : List Int) (k : Nat) (h : k < ds.length) : only (ds.take (k + 1)) s = if ds[k].id ∈ s then only (ds.take k) s ++ [ds[k]] else only (ds.take k) s := by
  unfold only
  rw [List.take_succ_eq_append_getElem h, List.filter_append]
  by_cases e : ds[k].id ∈ s <;> simp [e]
theorem only_length (ds : List Nd) (s : List Int) : (only ds s).length ≤ ds.length := List.length_filter_le _ _
attribute [local irreducible] TL TC TN TX TR TQ TA Pu Ret
set_option maxRecDepth 100000 in
set_option maxHeartbeats 4000000 in
theorem only_c {w : World} {g lo hi lo2 hi2 c : Nat} {A : Option Addr} {d : DiskP} {ds : List Nd} {sk st vk : Value} {L : List LkD} (hb : Blk w g 33 (dskC d (.slice A ds.length c) sk st)) (hr : Rd w lo hi 3 A ds.length (cellsL NdC ds)) (hsl : ∀ x ∈ ds, SlN x)
    (hk : RowR LkC 2 w lo2 hi2 vk L) (hL : L.length ≤ 1000) (hn : ds.length ≤ 1000) (hid : ∀ x ∈ L, -9223372036854775808 ≤ x.id ∧ x.id ≤ 9223372036854775807) (hid2 : ∀ x ∈ ds, -9223372036854775808 ≤ x.id ∧ x.id ≤ 9223372036854775807) :
    Ret Tryz.prog 68 #[.pointer (some ⟨g, 0, none⟩), vk] w fun v w' => v = .tuple #[] ∧ Ch (Iv g (g + 1)) w w' ∧ ∃ vn, Blk w' g 33 (dskC d vn vk (.slice none 0 0)) ∧ RowO NdC 98 3 w' w.heap.size w'.heap.size vn (only ds (L.map (·.id))) := by
  obtain ⟨Ak, ck, rfl, hck, hrk⟩ := hk
  have hgl := hb.lt
  refine Ret_enter Tryz.func68 rfl rfl rfl ?_
  repeat' (first | apply Jbs | apply Jbt)
  refine TL_makeMap rfl ?_
  intro w1 e1 hz1 _ hM1
  obtain ⟨b, hbb⟩ : ∃ b, b = w.heap.size := ⟨_, rfl⟩
  rw [← hbb] at hM1 ⊢
  repeat' (first | apply Jbq | apply Jbr | apply Jbs | apply Jbt | apply Jby | (apply Jcg; (first | exact Jaa rfl | exact Jab rfl | exact Jac Us.h rfl); exact rfl))
  refine TC_loop (ι := Nat) (fun k => [(0, .pointer (some ⟨g, 0, none⟩)), (1, .slice Ak L.length ck), (4, .map (some b)), (11, .slice Ak L.length ck), (12, I L.length), (13, I k)]) (fun k w' => k ≤ L.length ∧ Ext w w' ∧ MS w' b k ((L.take k).map (·.id))) (fun k => L.length - k) 0 (subEnv_cons rfl (subEnv_cons rfl (subEnv_cons rfl (subEnv_cons rfl (subEnv_cons rfl (subEnv_cons rfl (subEnv_nil _))))))) ⟨Nat.zero_le _, e1, hM1⟩ ?_
  intro k w2 ⟨hk2, e2, hM2⟩
  have hbl := World.ownsMap.lt hM2
  repeat' (first | apply Jbq | apply Jbr | apply Jbs | apply Jbt | (apply Jcg; exact Jad rfl rfl; exact rfl))
  refine Jcx rfl (fun hlt0 => ?_) (fun hge => ?_)
  · have hlt : k < L.length := by omega
    obtain ⟨ad, rfl, hcell⟩ := Rd.elem LkC_len (hrk.ext e2) hlt
    repeat' (first | apply Jbq | apply Jbr | apply Jbs | apply Jbt | apply Jby | apply Jbz | (apply Jcg; (first | exact Jaa rfl | exact Jar Us.h Sz.h rfl rfl (by omega) | (apply Jbl; exact Us.h; exact rfl; exact Sz.h; exact rfl)); exact rfl) | refine Jcg (Pu_loadAgg (cs := LkC L[k]) Us.h rfl Sz.h rfl (fun _ e j u hu => by rw [e]; exact hcell j u hu)) rfl ?_ | (refine TL_alloc Zs.h rfl rfl ?_; intro w3 g3 e3 hg3 hz3 hb3) | (refine TL_storeAgg rfl rfl Sz.h rfl hb3 rfl ?_; intro w4 c4 hz4 hb4) | refine Jcg (Pu_load Fl.h rfl (fun _ e => by rw [e]; exact hb4.ld rfl)) rfl ?_)
    have hM4 := (hM2.ext e3).ch c4 (by simp only [Iv]; omega)
    refine TL_setPut rfl rfl rfl hM4 (hid _ (List.getElem_mem hlt)) (by omega) ?_
    intro w5 c5 hz5 hM5
    repeat' (first | apply Jbq | apply Jbr | apply Jbt | apply Jbx | (apply Jcg; (first | exact Jaa rfl | exact Jaf rfl rfl (by omega)); exact rfl))
    exact TN_round (k + 1) (subEnv_cons rfl (subEnv_cons rfl (subEnv_cons rfl (subEnv_cons rfl (subEnv_cons rfl (subEnv_cons rfl (subEnv_nil _))))))) ⟨hlt, Ext.then_iv (Ext.then_iv (e2.ext e3) c4 (by have := e2.size; omega)) c5 (by omega), by rw [List.take_succ_eq_append_getElem hlt, List.map_append]; exact hM5⟩ (by omega)
  · obtain rfl : k = L.length := by omega
    rw [List.take_length] at hM2
    have hb2 := hb.ext e2
    have hs2 := e2.size
    repeat' (first | apply Jbq | apply Jbr | apply Jbs | apply Jbt | apply Jby | apply Jca | apply Jcb | apply Jcc | (apply Jcg; (first | exact Jaa rfl | exact Jab rfl | exact Jac Us.h rfl | exact Jba rfl | (apply Jbl; exact Us.h; exact rfl; exact Sz.h; exact rfl)); exact rfl) | refine Jcg (Pu_load Fl.h rfl (fun _ e => by rw [e]; exact hb2.ld rfl)) rfl ?_)
    obtain ⟨z2, hz2⟩ : ∃ z, z = w2.heap.size := ⟨_, rfl⟩
    refine TC_loop (ι := Nat × Value) (fun x => [(0, .pointer (some ⟨g, 0, none⟩)), (1, .slice Ak L.length ck), (4, .map (some b)), (7, x.2), (24, .slice A ds.length c), (25, I ds.length), (26, I x.1)])
      (fun x w' => x.1 ≤ ds.length ∧ Ext w w' ∧ MS w' b L.length (L.map (·.id)) ∧ z2 ≤ w'.heap.size ∧ RowO NdC 98 3 w' z2 w'.heap.size x.2 (only (ds.take x.1) (L.map (·.id)))) (fun x => ds.length - x.1) (0, .slice none 0 0) (subEnv_cons rfl (subEnv_cons rfl (subEnv_cons rfl (subEnv_cons rfl (subEnv_cons rfl (subEnv_cons rfl (subEnv_cons rfl (subEnv_nil _)))))))) ⟨Nat.zero_le _, e2, hM2, by omega, by rw [hz2]; exact RowO.nil _ _ (Nat.le_refl _)⟩ ?_
    rintro ⟨k, vo⟩ w3 ⟨hk3, e3, hM3, hz3, ho3⟩
    simp only at hk3 ho3
    show TC _ _ _ _ [(0, .pointer (some ⟨g, 0, none⟩)), (1, .slice Ak L.length ck), (4, .map (some b)), (7, vo), (24, .slice A ds.length c), (25, I ds.length), (26, I (k : Int))] w3
    have hs3 := e3.size
    repeat' (first | apply Jbq | apply Jbr | apply Jbs | apply Jbt | (apply Jcg; exact Jad rfl rfl; exact rfl))
    refine Jcx rfl (fun hlt0 => ?_) (fun hge => ?_)
    · have hlt : k < ds.length := by omega
      obtain ⟨ad, rfl, hcell⟩ := Rd.elem NdC_len (hr.ext e3) hlt
      have hmem := List.getElem_mem hlt
      have hsx := hsl _ hmem
      have hix := hid2 _ hmem
      have htk := only_take ds (L.map (·.id)) k hlt
      have hol := only_length (ds.take k) (L.map (·.id))
      rw [List.length_take] at hol
      obtain ⟨x, hx⟩ : ∃ x, x = ds[k] := ⟨_, rfl⟩
      rw [← hx] at hcell hsx hix htk
      obtain ⟨id, body, safe, vb, vs⟩ := x
      obtain ⟨⟨A1, m1, c1, h1⟩, ⟨A2, m2, c2, h2⟩⟩ := hsx
      simp only at h1 h2 hix htk
      subst h1 h2
      replace hcell : ∀ j u, [I id, .slice A1 m1 c1, .slice A2 m2 c2][j]? = some u → w3.cell? ((ad.add (k * 3)).add j) = some u := hcell
      repeat' (first | apply Jbq | apply Jbr | apply Jbs | apply Jbt | apply Jby | apply Jbz | (apply Jcg; (first | exact Jaa rfl | exact Jar Us.h Sz.h rfl rfl (by omega) | (apply Jbl; exact Us.h; exact rfl; exact Sz.h; exact rfl)); exact rfl) | refine Jcg (Pu_loadAgg (cs := [I id, .slice A1 m1 c1, .slice A2 m2 c2]) Us.h rfl Sz.h rfl (fun _ e j u hu => by rw [e]; exact hcell j u hu)) rfl ?_ | (refine TL_alloc Zs.h rfl rfl ?_; intro w4 g4 e4 hg4 hz4 hb4) | (refine TL_storeAgg rfl rfl Sz.h rfl hb4 rfl ?_; intro w5 c5 hz5 hb5) | refine Jcg (Pu_load Fl.h rfl (fun _ e => by rw [e]; exact hb5.ld rfl)) rfl ?_)
      have hM5 := (hM3.ext e4).ch c5 (by simp only [Iv]; omega)
      have ho5 := (ho3.ext e4).ch c5 (by intro j _ _; simp only [Iv]; omega)
      have E5 : Ext w w5 := Ext.then_iv (e3.ext e4) c5 (by omega)
      repeat' (first | apply Jbq | apply Jbr | (apply Jcg; exact Jak rfl rfl; exact rfl) | refine Jcg (Pu_setLook rfl rfl hix (fun w' e => ⟨L.length, by rw [e]; exact hM5⟩)) rfl ?_)
      refine Jcx rfl (fun hc => ?_) (fun hc => ?_)
      · have hin : id ∈ L.map (·.id) := by
          by_cases h : id ∈ L.map (·.id)
          · exact h
          · rw [if_neg h] at hc; exact absurd hc (by decide)
        rw [if_pos hin] at htk
        repeat' (first | apply Jbt | (apply Jcg; exact Jaa rfl; exact rfl) | refine Jcg (Pu_loadAgg (cs := [I id, .slice A1 m1 c1, .slice A2 m2 c2]) Us.h rfl Sz.h rfl (fun _ e j u hu => by rw [e, add0, hb5.cell]; exact hu)) rfl ?_)
        refine TL_buildSlice Us.h Zi.h rfl rfl rfl rfl (fillN id A1 A2 m1 c1 m2 c2) rfl rfl ?_
        intro w6 g6 e6 hg6 hz6 hown6
        have hnew := nd_new (d := ⟨id, body, safe, .slice A1 m1 c1, .slice A2 m2 c2⟩) hown6 rfl rfl hg6 hz6
        skip
        refine TL_appendRow1 Us.h inf98 rfl rfl rfl (by intro u hu; simp [cellsL, NdC] at hu; rcases hu with rfl | rfl | rfl <;> rfl) rfl rfl (ho5.ext e6) hnew.rd (by omega) (by simp only [List.length_cons, List.length_nil]; omega) rfl ?_
        intro w7 v7 c7 ho7
        have hM7 := (hM5.ext e6).ch c7 (by simp only [Iv]; omega)
        have hs7 := c7.size
        repeat' (first | apply Jbq | apply Jbr | apply Jbt | apply Jbx | (apply Jcg; (first | exact Jaa rfl | exact Jab rfl | exact Jaf rfl rfl (by omega)); exact rfl))
        refine TN_round (k + 1, v7) (subEnv_cons rfl (subEnv_cons rfl (subEnv_cons rfl (subEnv_cons rfl (subEnv_cons rfl (subEnv_cons rfl (subEnv_cons rfl (subEnv_nil _)))))))) ⟨by simp only; omega, Ext.then_iv (E5.ext e6) c7 (by omega), hM7, by omega, ?_⟩ (by simp only; omega)
        simp only
        rw [htk]
        exact ho7
      · have hin : id ∉ L.map (·.id) := fun h => hc (by rw [if_pos h])
        rw [if_neg hin] at htk
        repeat' (first | apply Jbq | apply Jbr | apply Jbt | apply Jbx | apply Jbz | (apply Jcg; (first | exact Jaa rfl | exact Jaf rfl rfl (by omega)); exact rfl))
        refine TN_round (k + 1, vo) (subEnv_cons rfl (subEnv_cons rfl (subEnv_cons rfl (subEnv_cons rfl (subEnv_cons rfl (subEnv_cons rfl (subEnv_cons rfl (subEnv_nil _)))))))) ⟨by simp only; omega, E5, hM5, by omega, ?_⟩ (by simp only; omega)
        simp only
        rw [htk]
        exact ho5.wide (Nat.le_refl _) (by omega) (Nat.le_refl _)
    · obtain rfl : k = ds.length := by omega
      rw [List.take_length] at ho3
      have hb3 := hb.ext e3
      repeat' (first | apply Jbr | apply Jbt | apply Jca | apply Jcb | apply Jcc | (apply Jcg; (first | exact Jaa rfl | exact Jba rfl | (apply Jbl; exact Us.h; exact rfl; exact Sz.h; exact rfl)); exact rfl))
      refine TL_store rfl rfl Sz.h ho3.rd.one hb3 rfl ?_
      intro w4 c4 hz4 hb4
      repeat' ((apply Jcg; (first | exact Jba rfl | (apply Jbl; exact Us.h; exact rfl; exact Sz.h; exact rfl)); exact rfl))
      refine TL_store rfl rfl Sz.h rfl hb4 rfl ?_
      intro w5 c5 hz5 hb5
      repeat' ((apply Jcg; (first | exact Jba rfl | (apply Jbl; exact Us.h; exact rfl; exact Sz.h; exact rfl)); exact rfl))
      refine TL_store rfl rfl Sz.h rfl hb5 rfl ?_
      intro w6 c6 hz6 hb6
      repeat' (apply Jbq)
      refine TN_of (res0 rfl) ⟨rfl, (((Ch.mono e3 (fun _ t => t.elim)).then c4).then c5).then c6, vo, hb6, ?_⟩
      have ho6 := ((ho3.ch c4 (by intro j _ _; simp only [Iv]; omega)).ch c5 (by intro j _ _; simp only [Iv]; omega)).ch c6 (by intro j _ _; simp only [Iv]; omega)
      exact ho6.wide (by omega) (by omega) (Nat.le_refl _)
end Go.Proofs.YtggaghghclomkaaGreat

/- The disk that is none, and nodes that a call owns of which one is put. No condition. -/
namespace Go.Proofs.YtggaghghclomkaaGreat
open Go.RowKit
def noDk : DiskP := ⟨0, 0, 0, [], [], []⟩
theorem totD_no : totD noDk = 0 := by simp [totD, noDk, totNd, totLk, totTn]
theorem ODk.nil {w : World} {lo hi : Nat} (h : hi ≤ w.heap.size) : ODk w lo hi noDk (.slice none 0 0) (.slice none 0 0) (.slice none 0 0) :=
  ⟨h, [], rfl, ONx.empty w, (RowO.nil w 0 (Nat.zero_le _)).x, (RowO.nil w 0 (Nat.zero_le _)).x, by simp [bksN, blk], by simp [bksN, blk]⟩
theorem nodes_split {es : List Nd} {k : Nat} (hk : k < es.length) (x' : Nd) : es.set k x' = es.take k ++ x' :: es.drop (k + 1) := by
  rw [List.set_eq_take_append_cons_drop, if_pos hk]
theorem nodes_self {es : List Nd} {k : Nat} (hk : k < es.length) : es = es.take k ++ es[k] :: es.drop (k + 1) := by
  conv => lhs; rw [← List.take_append_drop k es, List.drop_eq_getElem_cons hk]
theorem cells_safe {es : List Nd} {k : Nat} (hk : k < es.length) {id : Int} {body safe s : List UInt8} {vb vs v : Value} (hx : es[k] = ⟨id, body, safe, vb, vs⟩) : (cellsL NdC es).set (k * 3 + 2) v = cellsL NdC (es.set k ⟨id, body, s, vb, v⟩) := by
  have hl : (cellsL NdC (es.take k)).length = k * 3 := by rw [cellsL_length NdC_len, List.length_take]; omega
  rw [nodes_split hk, cells_mid]
  conv => lhs; rw [nodes_self hk, hx, cells_mid]
  rw [List.set_append_right _ _ (by omega), hl, Nat.add_sub_cancel_left]
  rfl
theorem cells_body {es : List Nd} {k : Nat} (hk : k < es.length) {id : Int} {body safe s : List UInt8} {vb vs v : Value} (hx : es[k] = ⟨id, body, safe, vb, vs⟩) : (cellsL NdC es).set (k * 3 + 1) v = cellsL NdC (es.set k ⟨id, s, safe, v, vs⟩) := by
  have hl : (cellsL NdC (es.take k)).length = k * 3 := by rw [cellsL_length NdC_len, List.length_take]; omega
  rw [nodes_split hk, cells_mid]
  conv => lhs; rw [nodes_self hk, hx, cells_mid]
  rw [List.set_append_right _ _ (by omega), hl, Nat.add_sub_cancel_left]
  rfl
theorem cells_put {es : List Nd} {k : Nat} (hk : k < es.length) (x' : Nd) : setL (cellsL NdC es) (k * 3) (NdC x') = cellsL NdC (es.set k x') := by
  have hl : (cellsL NdC (es.take k)).length = k * 3 := by rw [cellsL_length NdC_len, List.length_take]; omega
  rw [nodes_split hk, cells_mid]
  conv => lhs; rw [nodes_self hk, cells_mid]
  rw [setL_app _ _ _ _ hl (by simp [NdC])]
  simp [NdC]
theorem ONx.set {w w' : World} {g n c lo hi k : Nat} {es : List Nd} {x' : Nd} (hk : k < es.length) (h : ONx w (.slice (some ⟨g, 0, none⟩) n c) es) (hch : Ch (Iv g (g + 1)) w w') (hrow : RowO NdC 98 3 w' lo hi (.slice (some ⟨g, 0, none⟩) n c) (es.set k x'))
    (hx : OBx w x'.vb x'.body ∧ OBx w x'.vs x'.safe) (hn : (bkd x').Nodup) (hap : ∀ b ∈ bkd x', b ∈ bkd es[k] ∨ b ∉ bksN (.slice (some ⟨g, 0, none⟩) n c) es) : ONx w' (.slice (some ⟨g, 0, none⟩) n c) (es.set k x') := by
  have hnd := h.nd
  have hself := nodes_self hk
  have hg : bksN (.slice (some ⟨g, 0, none⟩) n c) es = g :: es.flatMap bkd := rfl
  rw [hg] at hnd hap
  have hnd2 := hnd
  rw [hself, List.flatMap_append, List.flatMap_cons, List.nodup_cons, List.nodup_append, List.nodup_append] at hnd2
  obtain ⟨hgn, hM, ⟨hX, hD, hXD⟩, hMX⟩ := hnd2
  have hgm : ∀ d ∈ es, g ∉ bkd d := fun d hd hb => (List.nodup_cons.1 hnd).1 (List.mem_flatMap.2 ⟨d, hd, hb⟩)
  have hgx : g ∉ bkd x' := fun hb => by
    rcases hap g hb with h1 | h1
    · exact hgm _ (List.getElem_mem hk) h1
    · exact h1 (List.mem_cons_self ..)
  have hnot : ∀ b ∈ bkd x', b ∉ (es.take k).flatMap bkd ∧ b ∉ (es.drop (k + 1)).flatMap bkd := fun b hb => by
    rcases hap b hb with h1 | h1
    · exact ⟨fun h2 => hMX b h2 b (List.mem_append.2 (.inl h1)) rfl, fun h2 => hXD b h1 b h2 rfl⟩
    · have hsub : ∀ d ∈ es, b ∉ bkd d := fun d hd h2 => h1 (List.mem_cons_of_mem _ (List.mem_flatMap.2 ⟨d, hd, h2⟩))
      exact ⟨fun h2 => by obtain ⟨d, hd, h3⟩ := List.mem_flatMap.1 h2; exact hsub d (List.mem_of_mem_take hd) h3, fun h2 => by obtain ⟨d, hd, h3⟩ := List.mem_flatMap.1 h2; exact hsub d (List.mem_of_mem_drop hd) h3⟩
  have hiv : ∀ b, b ≠ g → ¬ Iv g (g + 1) b := fun b hb h => by simp only [Iv] at h; omega
  refine ⟨hrow.x, fun d hd => ?_, ?_⟩
  · rcases List.mem_or_eq_of_mem_set hd with hd | rfl
    · have hok := h.ok d hd
      have hgd := hgm d hd
      exact ⟨hok.1.ch hch (fun b hb => hiv b (fun e => hgd (e ▸ List.mem_append.2 (.inl hb)))), hok.2.ch hch (fun b hb => hiv b (fun e => hgd (e ▸ List.mem_append.2 (.inr hb))))⟩
    · exact ⟨hx.1.ch hch (fun b hb => hiv b (fun e => hgx (e ▸ List.mem_append.2 (.inl hb)))), hx.2.ch hch (fun b hb => hiv b (fun e => hgx (e ▸ List.mem_append.2 (.inr hb))))⟩
  · show (g :: (es.set k x').flatMap bkd).Nodup
    rw [nodes_split hk, List.flatMap_append, List.flatMap_cons, List.nodup_cons, List.nodup_append, List.nodup_append]
    refine ⟨fun hm => ?_, hM, ⟨hn, hD, fun a ha b hb e => (hnot a ha).2 (e ▸ hb)⟩, fun a ha b hb e => ?_⟩
    · rw [List.mem_append, List.mem_append] at hm
      rcases hm with hm | hm | hm
      · exact hgn (List.mem_append.2 (.inl hm))
      · exact hgx hm
      · exact hgn (List.mem_append.2 (.inr (List.mem_append.2 (.inr hm))))
    · subst e
      rcases List.mem_append.1 hb with hb | hb
      · exact (hnot a hb).1 ha
      · exact hMX a ha a (List.mem_append.2 (.inr hb)) rfl
/-- The blocks behind a put. -/
theorem bks_set {R : Nat → Prop} {v : Value} {es : List Nd} {k : Nat} {x' : Nd} (h : ∀ b ∈ bksN v es, R b) (hx : ∀ b ∈ bkd x', R b) : ∀ b ∈ bksN v (es.set k x'), R b := by
  intro b hb
  rcases List.mem_append.1 hb with hb | hb
  · exact h b (List.mem_append.2 (.inl hb))
  · obtain ⟨d, hd, hb2⟩ := List.mem_flatMap.1 hb
    rcases List.mem_or_eq_of_mem_set hd with hd | hd
    · exact h b (List.mem_append.2 (.inr (List.mem_flatMap.2 ⟨d, hd, hb2⟩)))
    · exact hx b (hd ▸ hb2)
theorem flatMap_sub (p : Nd → Bool) : ∀ ds : List Nd, ((ds.filter p).flatMap bkd).Sublist (ds.flatMap bkd)
  | [] => List.Sublist.refl _
  | d :: r => by
    rw [List.filter_cons]
    split
    · rw [List.flatMap_cons, List.flatMap_cons]; exact List.Sublist.append (List.Sublist.refl _) (flatMap_sub p r)
    · rw [List.flatMap_cons]; exact (flatMap_sub p r).trans (List.sublist_append_right _ _)
/-- Own nodes of which some are kept, in a new row. -/
theorem ONx.keep {w w' : World} {v v' : Value} {ds : List Nd} {p : Nd → Bool} {lo hi : Nat} {T : Nat → Prop} (h : ONx w v ds) (hr : RowO NdC 98 3 w' lo hi v' (ds.filter p)) (c : Ch T w w') (hT : ∀ b ∈ bksN v ds, ¬ T b) (hm : ∀ b ∈ bksN v ds, b < lo) : ONx w' v' (ds.filter p) := by
  have hnd := h.nd
  unfold bksN at hnd
  rw [List.nodup_append] at hnd
  have hsub := flatMap_sub p ds
  refine ⟨hr.x, fun d hd => ?_, ?_⟩
  · have hd' := (List.mem_filter.1 hd).1
    have hok := h.ok d hd'
    exact ⟨hok.1.ch c (fun b hb => hT b (List.mem_append.2 (.inr (List.mem_flatMap.2 ⟨d, hd', List.mem_append.2 (.inl hb)⟩)))), hok.2.ch c (fun b hb => hT b (List.mem_append.2 (.inr (List.mem_flatMap.2 ⟨d, hd', List.mem_append.2 (.inr hb)⟩))))⟩
  · unfold bksN
    rw [List.nodup_append]
    refine ⟨?_, hnd.2.1.sublist hsub, fun a ha b hb e => ?_⟩
    · obtain ⟨A, c, rfl, _⟩ := hr
      rcases A with _ | ad <;> simp [blk]
    · have h1 := hr.bin a ha
      have h2 := hm b (List.mem_append.2 (.inr (hsub.subset hb)))
      omega
theorem bks_keep {w' : World} {v v' : Value} {ds : List Nd} {p : Nd → Bool} {lo hi lo2 hi2 : Nat} (hr : RowO NdC 98 3 w' lo hi v' (ds.filter p)) (h : ∀ b ∈ bksN v ds, lo2 ≤ b ∧ b < hi2) : ∀ b ∈ bksN v' (ds.filter p), (lo ≤ b ∧ b < hi) ∨ (lo2 ≤ b ∧ b < hi2) := by
  intro b hb
  rcases List.mem_append.1 hb with hb | hb
  · exact .inl (hr.bin b hb)
  · exact .inr (h b (List.mem_append.2 (.inr ((flatMap_sub p ds).subset hb))))
/-- A disk of own nodes and own links, without turns. -/
theorem ODk.mk2 {w : World} {lo hi l1 l2 : Nat} {d : DiskP} {sn sk : Value} {es : List Nd} (hs : hi ≤ w.heap.size) (hm : es.map NdP = d.nodes) (hN : ONx w sn es) (hk : RowO LkC 162 2 w l1 l2 sk d.kept) (ht : d.turns = []) (hb : ∀ b ∈ bksN sn es, lo ≤ b ∧ b < hi ∧ b ∉ blk sk) (h1 : lo ≤ l1) (h2 : l2 ≤ hi) :
    ODk w lo hi d sn sk (.slice none 0 0) := by
  have hkb := hk.bin
  refine ⟨hs, es, hm, hN, hk.x, by rw [ht]; exact (RowO.nil w 0 (Nat.zero_le _)).x, ?_, fun b hb' => ?_⟩
  · rw [show blk (.slice none 0 0) = [] from rfl, List.append_nil, List.nodup_append]
    exact ⟨hN.nd, blk_nodup _, fun a ha b hb' e => (hb a ha).2.2 (e ▸ hb')⟩
  · rw [show blk (.slice none 0 0) = [] from rfl, List.append_nil] at hb'
    rcases List.mem_append.1 hb' with h | h
    · exact ⟨(hb b h).1, (hb b h).2.1⟩
    · have := hkb b h; omega
/-! ### one element after the other is turned -/
end Go.Proofs.YtggaghghclomkaaGreat

/- Contracts: everything is made safe, by the program. -/
namespace Go.Proofs.YtggaghghclomkaaGreat
open Go.RowKit
/-! ### the plain law -/
theorem DOk.idB {d : DiskP} (h : DOk d) : ∀ i ∈ nIds d.nodes, -9223372036854775808 ≤ i ∧ i ≤ 9223372036854775807 := by
  intro i hi
  obtain ⟨p, hp, rfl⟩ := List.mem_map.1 hi
  obtain ⟨j, hj, rfl⟩ := List.mem_iff_getElem.1 hp
  have h1 := h.node j hj
  have hB := h.base
  unfold dBase at hB
  omega
theorem ONx.open {w : World} {v : Value} {es : List Nd} {k : Nat} (h : ONx w v es) (hk : k < es.length) : ∃ g c lo hi, v = .slice (some ⟨g, 0, none⟩) es.length c ∧ Own w lo hi 98 3 (some ⟨g, 0, none⟩) es.length c (cellsL NdC es) := by
  obtain ⟨⟨lo, hi, ⟨A, c, rfl, ho⟩, _⟩, _, _⟩ := h
  rcases ho.head with rfl | ⟨g, rfl, _, _⟩
  · obtain ⟨ad, h, _⟩ := ho.rd.at_ (by omega); cases h
  · exact ⟨g, c, lo, hi, rfl, ho⟩
theorem OBx.sl {w : World} {v : Value} {s : List UInt8} (h : OBx w v s) : ∃ A c lo hi, v = .slice A s.length c ∧ Own w lo hi 5 1 A s.length c (u8s s) := by
  obtain ⟨lo, hi, ⟨A, c, rfl, ho⟩, _⟩ := h
  exact ⟨A, c, lo, hi, rfl, ho⟩
theorem bkd_in {v : Value} {es : List Nd} {k : Nat} (hk : k < es.length) : ∀ b ∈ bkd es[k], b ∈ bksN v es := fun _ hb => List.mem_append.2 (.inr (List.mem_flatMap.2 ⟨_, List.getElem_mem hk, hb⟩))
theorem onlyP_length (l : List NodeP) (s : List Int) : (onlyP l s).length ≤ l.length := List.length_filter_le _ _
theorem pUsed_only (s : List Int) : ∀ l : List NodeP, pUsed (onlyP l s) ≤ pUsed l
  | [] => Int.le_refl _
  | p :: r => by
    have h := pUsed_only s r
    have h0 : 0 ≤ NdM p := by unfold NdM; omega
    unfold onlyP at *
    rw [List.filter_cons]
    split
    · simp only [pUsed, List.map_cons, List.sum_cons] at *; omega
    · simp only [pUsed, List.map_cons, List.sum_cons] at *; omega
attribute [local irreducible] TL TC TN TX TR TQ TA Pu Ret
theorem pIds_flat (d : DiskP) (L : List LkD) : pIds { d with kept := L, turns := [] } = L.map (·.id) := by simp [pIds]
end Go.Proofs.YtggaghghclomkaaGreat

/- Operations on a disk: their values, the laws' helpers on them, whether they are right. -/
namespace Go.Proofs.YtggaghghclomkaaGreat
open Go.RowKit
attribute [local irreducible] TL TC TN TX TR TQ TA Pu Ret

structure OpD where
  kind : Int
  name : List UInt8
  to : List UInt8
  size : Int
  data : List UInt8
def opC (o : OpD) (v : Value) : List Value := [I o.kind, S o.name, S o.to, I o.size, v]
def OpD.fits (o : OpD) : Prop := (-9223372036854775808 ≤ o.kind ∧ o.kind ≤ 9223372036854775807) ∧ (-9223372036854775808 ≤ o.size ∧ o.size ≤ 9223372036854775807) ∧ o.name.length ≤ 9223372036854775807 ∧ o.to.length ≤ 9223372036854775807
def pOp (o : OpD) : Bool :=
  decide (1 ≤ o.kind ∧ o.kind ≤ 7) && (if o.kind = 7 then decide (o.name = []) else pName o.name) && (if o.kind = 5 then pName o.to else decide (o.to = [])) &&
    (if o.kind = 4 then decide (0 ≤ o.size ∧ o.size ≤ 60000) else decide (o.size = 0)) && decide (o.data.length ≤ 60000 ∧ (o.kind = 2 ∨ o.data.length = 0))
set_option maxRecDepth 100000 in
set_option maxHeartbeats 8000000 in
theorem specOpOk_c {w : World} {lo hi : Nat} {v : Value} {o : OpD} (h : RB w lo hi v o.data) (hf : o.fits) :
    Ret Tryz.prog 82 #[.agg (opC o v).toArray] w fun v' w' => v' = .bool (pOp o) ∧ Ext w w' := by
  obtain ⟨_, _, hn, ht⟩ := hf
  obtain ⟨kind, name, to, size, data⟩ := o
  simp only at hn ht h
  obtain ⟨A, c, rfl, _, _⟩ := h
  refine Ret_enter Tryz.func82 rfl rfl rfl ?_
  repeat' (first | apply Jbs | apply Jbt)
  refine TL_box (cs := opC ⟨kind, name, to, size, data⟩ (.slice A data.length c)) rfl rfl ?_
  intro w1 g e1 hg hz hbk
  clear hg hz
  repeat' (first | apply Jbq | apply Jbr | apply Jbs | apply Jbt | apply Jbu | apply Jbv | apply Jbz | (refine Jce rfl ?_) | (refine Jcf rfl ?_) | (apply Jcg; (first | exact Jaa rfl | exact Jab rfl | exact Jac Us.h rfl | exact Jad rfl rfl | exact Jah rfl rfl | exact Jai rfl rfl | exact Jaj rfl | exact Jak rfl rfl | exact Jal rfl rfl | exact Jam rfl rfl | exact Jan rfl rfl | exact Jat rfl rfl | (apply Jbl; exact Us.h; exact rfl; exact Sz.h; exact rfl)); exact rfl) | refine Jch rfl rfl rfl ?_ | refine Jci rfl rfl rfl rfl rfl ?_ | refine Jcj rfl rfl rfl rfl ?_ | refine Jcg (Pu_load Fl.h rfl (fun _ e => by rw [e]; exact hbk.ld rfl)) rfl ?_ | (refine TL_call rfl en131 (specNameOk_c _ _ (by assumption)) rfl rfl ?_; rintro _ _ ⟨rfl, rfl⟩) | (refine Jcs rfl rfl (fun hb => ?_) (fun hb => ?_) <;> (try (exfalso; omega))) | (refine Jct rfl rfl (fun hb => ?_) (fun hb => ?_) <;> (try (exfalso; omega))) | refine Jcr rfl rfl (fun hb => ?_) (fun hb => ?_) | (refine Jcx rfl (fun hb => ?_) (fun hb => ?_) <;> (try (exfalso; omega))) | (refine Jcy rfl (fun hb => ?_) (fun hb => ?_) <;> (try (exfalso; omega))) | refine Jcz rfl (fun hb => ?_) (fun hb => ?_))
  all_goals (refine TR_of (res1 rfl rfl) ⟨boolv ?_, e1⟩; clear hbk e1; simp only [pOp]; generalize data.length = n at *; simp_all; try omega)
set_option maxRecDepth 100000 in
set_option maxHeartbeats 8000000 in
theorem implOpOk_c {w : World} {lo hi : Nat} {v : Value} {o : OpD} (h : RB w lo hi v o.data) (hf : o.fits) :
    Ret Tryz.prog 92 #[.agg (opC o v).toArray] w fun v' w' => v' = .bool (pOp o) ∧ Ext w w' := by
  obtain ⟨_, _, hn, ht⟩ := hf
  obtain ⟨kind, name, to, size, data⟩ := o
  simp only at hn ht h
  obtain ⟨A, c, rfl, _, _⟩ := h
  refine Ret_enter Tryz.func92 rfl rfl rfl ?_
  repeat' (first | apply Jbs | apply Jbt)
  refine TL_box (cs := opC ⟨kind, name, to, size, data⟩ (.slice A data.length c)) rfl rfl ?_
  intro w1 g e1 hg hz hbk
  clear hg hz
  repeat' (first | apply Jbq | apply Jbr | apply Jbs | apply Jbt | apply Jbu | apply Jbv | apply Jbz | (refine Jce rfl ?_) | (refine Jcf rfl ?_) | (apply Jcg; (first | exact Jaa rfl | exact Jab rfl | exact Jac Us.h rfl | exact Jah rfl rfl | exact Jai rfl rfl | exact Jaj rfl | exact Jak rfl rfl | exact Jal rfl rfl | exact Jan rfl rfl | exact Jat rfl rfl | (apply Jbl; exact Us.h; exact rfl; exact Sz.h; exact rfl)); exact rfl) | refine Jch rfl rfl rfl ?_ | refine Jci rfl rfl rfl rfl rfl ?_ | refine Jcj rfl rfl rfl rfl ?_ | refine Jcg (Pu_load Fl.h rfl (fun _ e => by rw [e]; exact hbk.ld rfl)) rfl ?_ | (refine TL_call rfl en139 (implNameOk_c _ _ (by assumption)) rfl rfl ?_; rintro _ _ ⟨rfl, rfl⟩) | (refine TL_call rfl en101 (in_c _ _ _ _) rfl rfl ?_; rintro _ _ ⟨rfl, rfl⟩) | (refine Jcs rfl rfl (fun hb => ?_) (fun hb => ?_) <;> (try (exfalso; omega))) | (refine Jct rfl rfl (fun hb => ?_) (fun hb => ?_) <;> (try (exfalso; omega))) | refine Jcr rfl rfl (fun hb => ?_) (fun hb => ?_) | (refine Jcy rfl (fun hb => ?_) (fun hb => ?_) <;> (try (exfalso; omega))) | refine Jcz rfl (fun hb => ?_) (fun hb => ?_))
  all_goals (refine TR_of (res1 rfl rfl) ⟨boolv ?_, e1⟩; clear hbk e1; simp only [pOp]; generalize data.length = n at *; simp_all; try omega)
end Go.Proofs.YtggaghghclomkaaGreat

/- What an operation makes of a disk: the plain law. No condition. -/
namespace Go.Proofs.YtggaghghclomkaaGreat
open Go.RowKit
/-- Where the node of an operation's name stands. -/
def opAt (d : DiskP) (o : OpD) : Int := nAt d.nodes (dFind (pDir d) o.name)
def pCode (d : DiskP) (o : OpD) : Int :=
  if d.fuse = 0 then 2
  else if o.kind ≠ 7 ∧ dHas (pDir d) o.name = decide (o.kind = 1) then 3
  else if (o.kind = 1 ∧ (8 ≤ d.nodes.length ∨ 1000000 ≤ d.next)) ∨ ((o.kind = 1 ∨ o.kind = 5 ∨ o.kind = 6) ∧ 40 ≤ d.turns.length) then 4
  else if o.kind = 4 ∧ ((bodyAt d (opAt d o)).length : Int) < o.size then 6
  else if o.kind = 5 ∧ o.to = o.name then 6
  else 0
def fuseOf (d : DiskP) : Int := if 0 < d.fuse then d.fuse - 1 else d.fuse
def ndAt (d : DiskP) (o : OpD) : NodeP := d.nodes.getD (opAt d o).toNat (0, [], [])
def ndPut (d : DiskP) (o : OpD) (p : NodeP) : List NodeP := d.nodes.set (opAt d o).toNat p
/-- How many bytes still fit. -/
def fitsN (d : DiskP) (o : OpD) : Int := min (NdM (ndAt d o) + d.room - pUsed d.nodes - (ndAt d o).2.1.length) o.data.length
def doD (d : DiskP) (o : OpD) : DiskP :=
  if o.kind = 1 then { d with fuse := fuseOf d, next := d.next + 1, nodes := d.nodes ++ [(d.next, [], [])], turns := d.turns ++ [⟨1, o.name, [], d.next⟩] }
  else if o.kind = 2 then { d with fuse := fuseOf d, nodes := ndPut d o ((ndAt d o).1, (ndAt d o).2.1 ++ o.data.take (fitsN d o).toNat, (ndAt d o).2.2) }
  else if o.kind = 3 then { d with fuse := fuseOf d, nodes := ndPut d o ((ndAt d o).1, (ndAt d o).2.1, (ndAt d o).2.1) }
  else if o.kind = 4 then { d with fuse := fuseOf d, nodes := ndPut d o ((ndAt d o).1, (ndAt d o).2.1.take o.size.toNat, (ndAt d o).2.2) }
  else if o.kind = 7 then { d with fuse := fuseOf d, nodes := onlyP d.nodes ((pDir d).map (·.id)), kept := pDir d, turns := [] }
  else { d with fuse := fuseOf d, turns := d.turns ++ [⟨o.kind, o.name, o.to, 0⟩] }
def doC (d : DiskP) (o : OpD) : Int := if o.kind = 2 ∧ fitsN d o < o.data.length then 5 else 0
open Classical in
noncomputable def pDo (d : DiskP) (o : OpD) : DiskP × Int :=
  if DOk d ∧ pOp o = true then (if pCode d o = 0 then (doD d o, doC d o) else (d, pCode d o)) else (noDk, 1)
theorem pDo_no {d : DiskP} {o : OpD} (h : ¬ (DOk d ∧ pOp o = true)) : pDo d o = (noDk, 1) := by unfold pDo; exact if_neg h
theorem pDo_code {d : DiskP} {o : OpD} (h : DOk d) (h2 : pOp o = true) (h3 : pCode d o ≠ 0) : pDo d o = (d, pCode d o) := by unfold pDo; rw [if_pos ⟨h, h2⟩, if_neg h3]
theorem pDo_yes {d : DiskP} {o : OpD} (h : DOk d) (h2 : pOp o = true) (h3 : pCode d o = 0) : pDo d o = (doD d o, doC d o) := by unfold pDo; rw [if_pos ⟨h, h2⟩, if_pos h3]
theorem pOp_parts {o : OpD} (h : pOp o = true) : (1 ≤ o.kind ∧ o.kind ≤ 7) ∧ (o.kind = 7 → o.name = []) ∧ (o.kind ≠ 7 → pName o.name = true) ∧ (o.kind = 5 → pName o.to = true) ∧ (o.kind ≠ 5 → o.to = []) ∧ (o.kind = 4 → 0 ≤ o.size ∧ o.size ≤ 60000) ∧ (o.kind ≠ 4 → o.size = 0) ∧ o.data.length ≤ 60000 ∧ (o.kind ≠ 2 → o.data = []) := by
  unfold pOp at h
  simp only [Bool.and_eq_true, decide_eq_true_eq] at h
  obtain ⟨⟨⟨⟨h1, h2⟩, h3⟩, h4⟩, h5, h6⟩ := h
  refine ⟨h1, fun e => ?_, fun e => ?_, fun e => ?_, fun e => ?_, fun e => ?_, fun e => ?_, h5, fun e => ?_⟩
  · rw [if_pos e] at h2; simpa using h2
  · rw [if_neg e] at h2; exact h2
  · rw [if_pos e] at h3; exact h3
  · rw [if_neg e] at h3; simpa using h3
  · rw [if_pos e] at h4; simpa using h4
  · rw [if_neg e] at h4; simpa using h4
  · exact List.eq_nil_of_length_eq_zero (h6.resolve_left e)
/-- A directory has no nameless link. -/
theorem DOk.noName {d : DiskP} (h : DOk d) : dHas (pDir d) [] = false := by
  cases hh : dHas (pDir d) [] with
  | false => rfl
  | true =>
    obtain ⟨x, hx, he, _⟩ := dFind_mem hh
    have h1 := h.dirName d.turns.length (Nat.le_refl _)
    rw [List.take_length] at h1
    have h2 := h1 x hx
    rw [he] at h2
    cases h2
theorem DOk.at0 {d : DiskP} (h : DOk d) : nAt d.nodes 0 = -1 := nAt_none (fun hm => by have := nIds_pos h.node 0 hm; omega)
/-- Where there is a link there is its node. -/
theorem DOk.opNode {d : DiskP} (h : DOk d) {o : OpD} (hh : dHas (pDir d) o.name = true) : ∃ i, ∃ hi : i < d.nodes.length, opAt d o = (i : Int) ∧ ndAt d o = d.nodes[i] := by
  obtain ⟨i, hi, h1, _⟩ := h.dirAt hh
  refine ⟨i, hi, h1, ?_⟩
  unfold ndAt opAt
  rw [h1, Int.toNat_natCast, List.getD_eq_getElem?_getD, List.getElem?_eq_getElem hi]
  rfl
/-- Where the code is nought, just an operation of a known name has its link. -/
theorem pCode_has {d : DiskP} {o : OpD} (h : pCode d o = 0) : d.fuse ≠ 0 ∧ (o.kind ≠ 7 → dHas (pDir d) o.name = !decide (o.kind = 1)) ∧ (o.kind = 1 → d.nodes.length < 8 ∧ d.next < 1000000) ∧ ((o.kind = 1 ∨ o.kind = 5 ∨ o.kind = 6) → d.turns.length < 40) ∧ (o.kind = 4 → o.size ≤ ((bodyAt d (opAt d o)).length : Int)) ∧ (o.kind = 5 → o.to ≠ o.name) := by
  unfold pCode at h
  split at h
  · omega
  · rename_i h1
    split at h
    · omega
    · rename_i h2
      split at h
      · omega
      · rename_i h3
        split at h
        · omega
        · rename_i h4
          split at h
          · omega
          · rename_i h5
            refine ⟨h1, fun e => ?_, fun e => ?_, fun e => ?_, fun e => ?_, fun e e2 => h5 ⟨e, e2⟩⟩
            · cases hh : dHas (pDir d) o.name <;> by_cases e1 : o.kind = 1 <;> simp [hh, e1, e] at h2 ⊢
            · refine ⟨?_, ?_⟩
              · rcases Nat.lt_or_ge d.nodes.length 8 with h | h
                · exact h
                · exact absurd (.inl ⟨e, .inl h⟩) h3
              · rcases Int.lt_or_le d.next 1000000 with h | h
                · exact h
                · exact absurd (.inl ⟨e, .inr h⟩) h3
            · rcases Nat.lt_or_ge d.turns.length 40 with h | h
              · exact h
              · exact absurd (.inr ⟨e, h⟩) h3
            · rcases Int.lt_or_le ((bodyAt d (opAt d o)).length : Int) o.size with h | h
              · exact absurd ⟨e, h⟩ h4
              · exact h
/-! ### the code, kind by kind -/
section
variable {d : DiskP} {o : OpD}
theorem pCode_1 (h : o.kind = 1) : pCode d o = if d.fuse = 0 then 2 else if dHas (pDir d) o.name = true then 3 else if 8 ≤ d.nodes.length ∨ 1000000 ≤ d.next ∨ 40 ≤ d.turns.length then 4 else 0 := by
  unfold pCode
  simp only [h]
  cases dHas (pDir d) o.name <;> by_cases h1 : d.fuse = 0 <;> by_cases h2 : 8 ≤ d.nodes.length <;> by_cases h3 : 1000000 ≤ d.next <;> by_cases h4 : 40 ≤ d.turns.length <;> simp [h1, h2, h3, h4]
theorem pCode_23 (h : o.kind = 2 ∨ o.kind = 3) : pCode d o = if d.fuse = 0 then 2 else if dHas (pDir d) o.name = false then 3 else 0 := by
  unfold pCode
  rcases h with h | h <;> simp only [h] <;> cases dHas (pDir d) o.name <;> by_cases h1 : d.fuse = 0 <;> simp [h1]
theorem pCode_4 (h : o.kind = 4) : pCode d o = if d.fuse = 0 then 2 else if dHas (pDir d) o.name = false then 3 else if ((bodyAt d (opAt d o)).length : Int) < o.size then 6 else 0 := by
  unfold pCode
  simp only [h]
  cases dHas (pDir d) o.name <;> by_cases h1 : d.fuse = 0 <;> by_cases h2 : ((bodyAt d (opAt d o)).length : Int) < o.size <;> simp [h1, h2]
theorem pCode_5 (h : o.kind = 5) : pCode d o = if d.fuse = 0 then 2 else if dHas (pDir d) o.name = false then 3 else if 40 ≤ d.turns.length then 4 else if o.to = o.name then 6 else 0 := by
  unfold pCode
  simp only [h]
  cases dHas (pDir d) o.name <;> by_cases h1 : d.fuse = 0 <;> by_cases h4 : 40 ≤ d.turns.length <;> by_cases h2 : o.to = o.name <;> simp [h1, h2, h4]
theorem pCode_6 (h : o.kind = 6) : pCode d o = if d.fuse = 0 then 2 else if dHas (pDir d) o.name = false then 3 else if 40 ≤ d.turns.length then 4 else 0 := by
  unfold pCode
  simp only [h]
  cases dHas (pDir d) o.name <;> by_cases h1 : d.fuse = 0 <;> by_cases h4 : 40 ≤ d.turns.length <;> simp [h1, h4]
theorem pCode_7 (h : o.kind = 7) : pCode d o = if d.fuse = 0 then 2 else 0 := by
  unfold pCode
  simp only [h]
  by_cases h1 : d.fuse = 0 <;> simp [h1]
end
end Go.Proofs.YtggaghghclomkaaGreat

/- Contracts of the steps between two contents. -/
namespace Go.Proofs.YtggaghghclomkaaGreat
open Go.RowKit
attribute [local irreducible] TL TC TN TX TR TQ Pu Ret

/-- How long a beginning is shared. -/
def share : List UInt8 → List UInt8 → Nat
  | a :: x, b :: y => if a = b then share x y + 1 else 0
  | _, _ => 0
theorem share_le : ∀ s t : List UInt8, share s t ≤ s.length ∧ share s t ≤ t.length
  | [], t => by simp [share]
  | a :: x, [] => by simp [share]
  | a :: x, b :: y => by
    have := share_le x y
    simp only [share, List.length_cons]
    split <;> omega
def tearSteps (s t : List UInt8) : Int := s.length + t.length - 2 * (share s t : Int)
def tearK (s t : List UInt8) (k : Int) : Nat := (max 0 (min k (tearSteps s t))).toNat
def tear (s t : List UInt8) (k : Int) : List UInt8 :=
  if tearK s t k ≤ s.length - share s t then s.take (s.length - tearK s t k) else t.take (share s t + tearK s t k - (s.length - share s t))
theorem tear_len (s t : List UInt8) (k : Int) : (tear s t k).length = if tearK s t k ≤ s.length - share s t then s.length - tearK s t k else share s t + tearK s t k - (s.length - share s t) := by
  have h := share_le s t
  have h2 : tearK s t k ≤ s.length + t.length - 2 * share s t := by unfold tearK tearSteps; omega
  unfold tear
  split <;> simp <;> omega

end Go.Proofs.YtggaghghclomkaaGreat

/- Contracts of the small helpers, for numbers. -/
namespace Go.Proofs.YtggaghghclomkaaGreat
open Go.RowKit
attribute [local irreducible] TL TC TN TX TR TQ Pu Ret

def i64s (s : List Int) : List Value := s.map I
@[simp] theorem i64s_length (s : List Int) : (i64s s).length = s.length := by simp [i64s]
theorem i64s_get (s : List Int) {k : Nat} (h : k < s.length) : (i64s s).getD k undef = I (s.getD k 0) := by
  simp [i64s, List.getD_eq_getElem?_getD, List.getElem?_eq_getElem h]

/-- The marks of bytes: k, k + 1, .. -/
def mkI (k : Int) (n : Nat) : List Int := (List.range n).map fun (i : Nat) => k + (i : Int)
@[simp] theorem mkI_length (k : Int) (n : Nat) : (mkI k n).length = n := by simp [mkI]
end Go.Proofs.YtggaghghclomkaaGreat

/- Numbers that go from call to call: what reads so, what a call owns, what bears marks; the laws' helpers in these words. No condition. -/
namespace Go.Proofs.YtggaghghclomkaaGreat
open Go.RowKit
attribute [local irreducible] TL TC TN TX TR TQ Pu Ret

/-- The slice v reads as the bytes s. -/
def RI (w : World) (lo hi : Nat) (v : Value) (s : List Int) : Prop := ∃ A c, v = .slice A s.length c ∧ s.length ≤ c ∧ Rd w lo hi 1 A s.length (i64s s)
/-- The slice v is the call's own and holds the bytes s. -/
def OI (w : World) (lo hi : Nat) (v : Value) (s : List Int) : Prop := ∃ A c, v = .slice A s.length c ∧ Own w lo hi 3 1 A s.length c (i64s s)
/-- The slice v is the call's own and bears the marks k, k + 1, .. -/
def MI (w : World) (lo hi : Nat) (v : Value) (k : Int) (s : List Int) : Prop := OI w lo hi v (mkI k s.length)
section
variable {w w' : World} {lo hi : Nat} {v : Value} {s : List Int} {k : Int} {T : Nat → Prop}
theorem RI.ch (h : RI w lo hi v s) (c : Ch T w w') (hd : ∀ k, lo ≤ k → k < hi → ¬ T k) : RI w' lo hi v s := by
  obtain ⟨A, cc, h1, h2, h3⟩ := h; exact ⟨A, cc, h1, h2, h3.ch c hd⟩
theorem RI.ext (h : RI w lo hi v s) (c : Ext w w') : RI w' lo hi v s := h.ch c (fun _ _ _ t => t)
theorem OI.ch (h : OI w lo hi v s) (c : Ch T w w') (hd : ∀ k, lo ≤ k → k < hi → ¬ T k) : OI w' lo hi v s := by
  obtain ⟨A, cc, h1, h3⟩ := h; exact ⟨A, cc, h1, h3.ch c hd⟩
theorem OI.ext (h : OI w lo hi v s) (c : Ext w w') : OI w' lo hi v s := h.ch c (fun _ _ _ t => t)
theorem MI.ch (h : MI w lo hi v k s) (c : Ch T w w') (hd : ∀ k, lo ≤ k → k < hi → ¬ T k) : MI w' lo hi v k s := OI.ch h c hd
theorem MI.ext (h : MI w lo hi v k s) (c : Ext w w') : MI w' lo hi v k s := OI.ext h c
theorem OI.rd (h : OI w lo hi v s) : RI w lo hi v s := by obtain ⟨A, cc, h1, h3⟩ := h; exact ⟨A, cc, h1, h3.cap.1, h3.rd⟩
theorem OI.hi_le (h : OI w lo hi v s) : hi ≤ w.heap.size := by obtain ⟨A, cc, h1, h3⟩ := h; exact h3.hi_le
end
theorem OI.nil (w : World) (k : Nat) (_h : k ≤ w.heap.size) : OI w k w.heap.size (.slice none 0 0) [] := ⟨none, 0, rfl, Own.nil _ _ _ _ _ (Nat.le_refl _)⟩
section
variable {P : Program} {L : List Oper} {Q : Exit → Act → World → Prop} {n d : Nat} {l : Env} {w : World} {rest : List Oper} {ty : TypeId} {pos : String} {af : Array Edge} {v v2 : Value} {x y : Operand} {t : TypeId}
end
end Go.Proofs.YtggaghghclomkaaGreat

/- Contracts: a disk behind a loss of power. -/
namespace Go.Proofs.YtggaghghclomkaaGreat
open Go.RowKit
/-! ### the plain law -/
def cutAt (cuts : List Int) (i : Nat) : Int := if cuts.length = 0 then 0 else cuts.getD (i % cuts.length) 0
def crashP (cuts : List Int) (i : Nat) (p : NodeP) : NodeP := (p.1, tear p.2.2 p.2.1 (cutAt cuts i), tear p.2.2 p.2.1 (cutAt cuts i))
/-- How many turns are safe. -/
def tnN (d : DiskP) (t : Int) : Nat := (max 0 (min t (d.turns.length : Int))).toNat
def crashD (d : DiskP) (t : Int) (cuts : List Int) : DiskP :=
  { d with fuse := -1, nodes := (onlyP d.nodes ((runT d.kept (d.turns.take (tnN d t))).map (·.id))).mapIdx (crashP cuts), kept := runT d.kept (d.turns.take (tnN d t)), turns := [] }
theorem tnN_le (d : DiskP) (t : Int) : tnN d t ≤ d.turns.length := by unfold tnN; omega
theorem tear_le (s t : List UInt8) (k : Int) : (tear s t k).length ≤ max s.length t.length := by
  have h1 := tear_len s t k
  have h2 := share_le s t
  have h3 : (tearK s t k : Int) ≤ s.length + t.length - 2 * (share s t : Int) := by unfold tearK tearSteps; omega
  rw [h1]
  split <;> omega
theorem RowR.head {α : Type} {f : α → List Value} {s lo hi m c : Nat} {w : World} {A : Option Addr} {l : List α} (hf : ∀ a, (f a).length = s) (h : RowR f s w lo hi (.slice A l.length c) l) (hm : m ≤ l.length) : Rd w lo hi s (cutA A c 0 s) (l.take m).length (cellsL f (l.take m)) := by
  obtain ⟨A', c', hv, hc, hr⟩ := h
  injection hv with h1 h2 h3
  subst h1 h3
  have h4 := hr.cut (a := 0) (b := m) (c := c) (Nat.zero_le _) hm hc
  rw [Nat.zero_mul, List.drop_zero, Nat.sub_zero, cellsL_take hf] at h4
  have : (l.take m).length = m := by rw [List.length_take]; omega
  rw [this]
  exact h4
attribute [local irreducible] TL TC TN TX TR TQ TA Pu Ret
end Go.Proofs.YtggaghghclomkaaGreat

/- A disk stays right whatever is done to it, and behind a loss of power: the plain law. No condition. -/
namespace Go.Proofs.YtggaghghclomkaaGreat
open Go.RowKit
/-! ### nodes and links, all at once -/
def NAll (l : List NodeP) (n : Int) : Prop := (∀ p ∈ l, 1 ≤ p.1 ∧ p.1 < n) ∧ l.Pairwise (fun a b => a.1 < b.1)
theorem nall_iff (d : DiskP) : (∀ i, nStep d i) ↔ NAll d.nodes d.next := by
  constructor
  · intro h
    refine ⟨fun p hp => ?_, ?_⟩
    · obtain ⟨i, hi, rfl⟩ := List.mem_iff_getElem.1 hp
      exact ⟨(h i hi).1, (h i hi).2.1⟩
    · rw [List.pairwise_iff_getElem]
      intro i j hi hj hij
      exact nodes_rise h j i hij hj
  · intro h i hi
    refine ⟨(h.1 _ (List.getElem_mem hi)).1, (h.1 _ (List.getElem_mem hi)).2, fun h0 => ?_⟩
    exact List.pairwise_iff_getElem.1 h.2 (i - 1) i (by omega) hi (by omega)
def KAll (l : List LkD) : Prop := (∀ x ∈ l, pName x.name = true) ∧ Asc l
theorem kall_iff (d : DiskP) : (∀ i, kStep d i) ↔ KAll d.kept := by
  constructor
  · intro h
    refine ⟨fun p hp => ?_, kept_asc h⟩
    obtain ⟨i, hi, rfl⟩ := List.mem_iff_getElem.1 hp
    exact (h i hi).1
  · intro h i hi
    refine ⟨h.1 _ (List.getElem_mem hi), fun h0 => ?_⟩
    exact List.pairwise_iff_getElem.1 h.2 (i - 1) i (by omega) hi (by omega)
/-! ### the Ids of a directory -/
theorem dIns_perm (x : LkD) : ∀ L : List LkD, (dIns x L).Perm (x :: L)
  | [] => List.Perm.refl _
  | y :: r => by
    unfold dIns
    split
    · exact List.Perm.refl _
    · exact ((dIns_perm x r).cons y).trans (List.Perm.swap x y r)
theorem id_inj : ∀ {L : List LkD}, (L.map (·.id)).Nodup → ∀ x ∈ L, ∀ y ∈ L, x.id = y.id → x = y
  | [], _, x, hx, _, _, _ => by cases hx
  | z :: r, h, x, hx, y, hy, e => by
    rw [List.map_cons, List.nodup_cons] at h
    rcases List.mem_cons.1 hx with rfl | hx
    · rcases List.mem_cons.1 hy with rfl | hy
      · rfl
      · exact absurd (show x.id ∈ r.map (·.id) from List.mem_map.2 ⟨y, hy, e.symm⟩) h.1
    · rcases List.mem_cons.1 hy with rfl | hy
      · exact absurd (show y.id ∈ r.map (·.id) from List.mem_map.2 ⟨x, by assumption, e⟩) h.1
      · exact id_inj h.2 x hx y hy e
theorem dLess_sub (L : List LkD) (s : List UInt8) : (dLess L s).Sublist L := List.filter_sublist
theorem turn_ids {L : List LkD} {t : TnD} {S : List Int} (h : (L.map (·.id) ++ ((if t.kind = 1 then [t.id] else []) ++ S)).Nodup) (ha : aOk L t) : ((pTurn L t).map (·.id) ++ S).Nodup := by
  unfold pTurn
  rcases ha with ⟨h1, _⟩ | ⟨h5, hh, _⟩ | ⟨h6, _⟩
  · rw [if_pos h1] at h ⊢
    have hp1 : ((dIns ⟨t.name, t.id⟩ L).map (·.id) ++ S).Perm (t.id :: (L.map (·.id) ++ S)) := ((dIns_perm ⟨t.name, t.id⟩ L).map (fun x : LkD => x.id)).append_right S
    have hp : ((dIns ⟨t.name, t.id⟩ L).map (·.id) ++ S).Perm (L.map (·.id) ++ ([t.id] ++ S)) :=
      hp1.trans (List.perm_middle (a := t.id) (l₁ := L.map (fun x : LkD => x.id)) (l₂ := S)).symm
    exact hp.nodup_iff.2 h
  · have h1 : ¬ t.kind = 1 := by omega
    rw [if_neg h1] at h ⊢
    rw [if_pos h5]
    rw [List.nil_append] at h
    obtain ⟨x, hx, hn, hi⟩ := dFind_mem hh
    have hs : ((dLess (dLess L t.name) t.to).map (·.id)).Sublist (L.map (·.id)) := List.Sublist.map _ ((dLess_sub _ _).trans (dLess_sub _ _))
    have hp : ((dIns ⟨t.to, dFind L t.name⟩ (dLess (dLess L t.name) t.to)).map (·.id) ++ S).Perm (dFind L t.name :: ((dLess (dLess L t.name) t.to).map (·.id) ++ S)) :=
      ((dIns_perm _ _).map (fun x : LkD => x.id)).append_right S
    refine hp.nodup_iff.2 (List.nodup_cons.2 ⟨fun hm => ?_, h.sublist (hs.append_right S)⟩)
    rw [List.nodup_append] at h
    rw [← hi] at hm
    rcases List.mem_append.1 hm with hm | hm
    · obtain ⟨y, hy, he⟩ := List.mem_map.1 hm
      have hy1 := mem_dLess hy
      have := id_inj h.1 y (mem_dLess hy1) x hx he
      subst this
      exact dHas_none (dHas_dLess L t.name) y hy1 hn
    · exact h.2.2 x.id (List.mem_map.2 ⟨x, hx, rfl⟩) x.id hm rfl
  · have h1 : ¬ t.kind = 1 := by omega
    rw [if_neg h1] at h ⊢
    rw [if_neg (by omega)]
    rw [List.nil_append] at h
    exact h.sublist ((List.Sublist.map _ (dLess_sub _ _)).append_right S)
theorem crs_drop {ts : List TnD} {k : Nat} (h : k < ts.length) : ((ts.drop k).filter (fun t => decide (t.kind = 1))).map (·.id) = (if ts[k].kind = 1 then [ts[k].id] else []) ++ ((ts.drop (k + 1)).filter (fun t => decide (t.kind = 1))).map (·.id) := by
  rw [List.drop_eq_getElem_cons h, List.filter_cons]
  split
  · rename_i h1; rw [if_pos (by simpa using h1)]; rfl
  · rename_i h1; rw [if_neg (by simpa using h1)]; rfl
theorem DOk.dirNd {d : DiskP} (h : DOk d) (k : Nat) (hk : k ≤ d.turns.length) : ((runT d.kept (d.turns.take k)).map (·.id) ++ ((d.turns.drop k).filter (fun t => decide (t.kind = 1))).map (·.id)).Nodup := by
  have h2 := (dok_iff d).1 h
  induction k with
  | zero => simpa [runT, pIds] using h2.nodup
  | succ k ih =>
    have hlt : k < d.turns.length := by omega
    have h3 := ih (by omega)
    rw [crs_drop hlt] at h3
    rw [runT_take hlt]
    exact turn_ids h3 (h2.turn k hlt)
theorem DOk.dirNodup {d : DiskP} (h : DOk d) (k : Nat) (hk : k ≤ d.turns.length) : ((runT d.kept (d.turns.take k)).map (·.id)).Nodup := ((List.nodup_append.1 (h.dirNd k hk)).1)
theorem nIds_only (l : List NodeP) (s : List Int) : nIds (onlyP l s) = (nIds l).filter (fun i => decide (i ∈ s)) := by
  unfold nIds onlyP
  rw [List.filter_map]
  rfl
theorem mapIdx_ids (f : Nat → NodeP → NodeP) (hf : ∀ i p, (f i p).1 = p.1) (l : List NodeP) : nIds (l.mapIdx f) = nIds l := by
  unfold nIds
  apply List.ext_getElem
  · simp
  · intro i h1 h2
    simp [hf]
theorem pUsed_mapIdx : ∀ (l : List NodeP) (f : Nat → NodeP → NodeP), (∀ i p, NdM (f i p) ≤ NdM p) → pUsed (l.mapIdx f) ≤ pUsed l
  | [], _, _ => by simp [pUsed]
  | p :: r, f, h => by
    have h1 := pUsed_mapIdx r (fun i => f (i + 1)) (fun i p => h (i + 1) p)
    have h2 := h 0 p
    rw [List.mapIdx_cons]
    simp only [pUsed, List.map_cons, List.sum_cons] at *
    omega
theorem NAll_of {l l' : List NodeP} {n n' : Int} (h : NAll l n) (hs : (nIds l').Sublist (nIds l)) (hn : n ≤ n') : NAll l' n' := by
  have h1 : (nIds l).Pairwise (· < ·) := by unfold nIds; rw [List.pairwise_map]; exact h.2
  have h2 : (nIds l').Pairwise (· < ·) := h1.sublist hs
  refine ⟨fun p hp => ?_, ?_⟩
  · obtain ⟨q, hq, he⟩ := List.mem_map.1 (hs.subset (List.mem_map.2 ⟨p, hp, rfl⟩))
    have := h.1 q hq
    omega
  · unfold nIds at h2; rw [List.pairwise_map] at h2; exact h2
/-- A disk whose turns were settled, the first m of them. -/
theorem DOk.turned {d : DiskP} (h : DOk d) {m : Nat} (hm : m ≤ d.turns.length) {f : Nat → NodeP → NodeP} (h1 : ∀ i p, (f i p).1 = p.1) (h2 : ∀ i p, NdM (f i p) ≤ NdM p) {L : List LkD} (hL : L = runT d.kept (d.turns.take m)) {fu : Int} (hfu : -1 ≤ fu ∧ fu ≤ 1000) :
    DOk { d with fuse := fu, nodes := (onlyP d.nodes (L.map (·.id))).mapIdx f, kept := L, turns := [] } := by
  subst hL
  have hI := (dok_iff d).1 h
  have hB := h.base
  unfold dBase at hB
  have hlen := h.dirLe m hm
  have hids := h.dirIds m hm
  have hnd := h.dirNodup m hm
  obtain ⟨L, hL⟩ : ∃ L, L = runT d.kept (d.turns.take m) := ⟨_, rfl⟩
  have hname := h.dirName m hm
  have hasc := h.asc m hm
  rw [← hL] at hlen hids hnd hname hasc ⊢
  have hon := onlyP_length d.nodes (L.map (·.id))
  have hnn := nIds_nodup h.node
  have hidl : nIds ((onlyP d.nodes (L.map (·.id))).mapIdx f) = (nIds d.nodes).filter (fun i => decide (i ∈ L.map (·.id))) := by rw [mapIdx_ids f h1, nIds_only]
  have hN := (nall_iff d).1 h.node
  rw [dok_iff]
  refine ⟨?_, (nall_iff _).2 ?_, (kall_iff _).2 ⟨hname, hasc⟩, fun j hj => absurd hj (by simp), fun j hj => absurd hj (by simp), ?_, ?_, ?_, ?_⟩
  · unfold dBase
    simp only [List.length_mapIdx, List.length_nil]
    omega
  · exact NAll_of hN (by rw [hidl]; exact List.filter_sublist) (Int.le_refl _)
  · unfold pIds
    simpa using hnd
  · have e1 : (L.map (·.id)).length ≤ ((nIds d.nodes).filter (fun i => decide (i ∈ L.map (·.id)))).length := nodup_sub_length hnd (fun x hx => List.mem_filter.2 ⟨by obtain ⟨y, hy, rfl⟩ := List.mem_map.1 hx; exact hids y hy, by simpa using hx⟩)
    have e2 : ((nIds d.nodes).filter (fun i => decide (i ∈ L.map (·.id)))).length ≤ (L.map (·.id)).length := nodup_sub_length (List.Pairwise.filter _ hnn) (fun x hx => by simpa using (List.mem_filter.1 hx).2)
    have e3 := congrArg List.length hidl
    unfold nIds at e3
    unfold pIds
    simp only [List.length_map, List.filter_nil, List.map_nil, List.append_nil] at e1 e2 e3 ⊢
    unfold nIds at e1 e2
    omega
  · intro p hp
    have : p.1 ∈ nIds ((onlyP d.nodes (L.map (·.id))).mapIdx f) := List.mem_map.2 ⟨p, hp, rfl⟩
    rw [hidl] at this
    unfold pIds
    simpa using (List.mem_filter.1 this).2
  · have := pUsed_mapIdx (onlyP d.nodes (L.map (·.id))) f h2
    have := pUsed_only (L.map (·.id)) d.nodes
    have := h.used
    simp only
    omega
theorem crashP_le (cuts : List Int) (i : Nat) (p : NodeP) : NdM (crashP cuts i p) ≤ NdM p := by
  have := tear_le p.2.2 p.2.1 (cutAt cuts i)
  unfold crashP NdM; simp only; omega
theorem DOk.crash {d : DiskP} (h : DOk d) (t : Int) (cuts : List Int) : DOk (crashD d t cuts) :=
  h.turned (f := crashP cuts) (fu := -1) (tnN_le d t) (fun _ _ => rfl) (crashP_le cuts) rfl (by omega)
/-! ### one node put -/
theorem ids_set {l : List NodeP} {i : Nat} {p : NodeP} (hi : i < l.length) (h : p.1 = l[i].1) : nIds (l.set i p) = nIds l := by
  unfold nIds
  rw [List.map_set, h]
  apply List.ext_getElem
  · simp
  · intro j h1 h2
    rw [List.getElem_set]
    split
    · rename_i e; subst e; simp
    · rfl
theorem pUsed_set : ∀ {l : List NodeP} {i : Nat} {p : NodeP} (hi : i < l.length), pUsed (l.set i p) = pUsed l - NdM l[i] + NdM p
  | [], i, p, hi => absurd hi (by simp)
  | q :: r, 0, p, hi => by simp only [List.set_cons_zero, pUsed, List.map_cons, List.sum_cons, List.getElem_cons_zero]; omega
  | q :: r, i + 1, p, hi => by
    have := pUsed_set (l := r) (i := i) (p := p) (by simpa using hi)
    simp only [List.set_cons_succ, pUsed, List.map_cons, List.sum_cons, List.getElem_cons_succ] at *
    omega
theorem DOk.put {d : DiskP} (h : DOk d) {i : Nat} (hi : i < d.nodes.length) {p : NodeP} (h1 : p.1 = d.nodes[i].1) (h2 : NdM p + pUsed d.nodes ≤ d.room + NdM d.nodes[i]) {fu : Int} (hfu : -1 ≤ fu ∧ fu ≤ 1000) : DOk { d with fuse := fu, nodes := d.nodes.set i p } := by
  have hI := (dok_iff d).1 h
  have hB := h.base
  unfold dBase at hB
  have he := ids_set hi h1
  rw [dok_iff]
  refine ⟨?_, (nall_iff _).2 (NAll_of ((nall_iff d).1 h.node) (by simp only; rw [he]; exact List.Sublist.refl _) (Int.le_refl _)), (kall_iff _).2 ((kall_iff d).1 hI.link), hI.turn0, hI.turn, hI.nodup, by simp only [List.length_set]; exact hI.len, ?_, ?_⟩
  · unfold dBase; simp only [List.length_set]; omega
  · intro q hq
    have : q.1 ∈ nIds (d.nodes.set i p) := List.mem_map.2 ⟨q, hq, rfl⟩
    rw [he] at this
    obtain ⟨r, hr, e⟩ := List.mem_map.1 this
    have := hI.ids r hr
    rw [e] at this
    exact this
  · simp only; rw [pUsed_set hi]; omega
theorem DOk.turnOn {d : DiskP} (h : DOk d) {t : TnD} (h0 : tOk0 t) (ha : aOk (pDir d) t) (hk : t.kind ≠ 1) (hl : d.turns.length < 40) {fu : Int} (hfu : -1 ≤ fu ∧ fu ≤ 1000) : DOk { d with fuse := fu, turns := d.turns ++ [t] } := by
  have hI := (dok_iff d).1 h
  have hB := h.base
  unfold dBase at hB
  have hp : pIds { d with fuse := fu, turns := d.turns ++ [t] } = pIds d := by unfold pIds; simp only [List.filter_append]; simp [hk]
  rw [dok_iff]
  refine ⟨?_, (nall_iff _).2 ((nall_iff d).1 h.node), (kall_iff _).2 ((kall_iff d).1 hI.link), ?_, ?_, by rw [hp]; exact hI.nodup, by rw [hp]; exact hI.len, by rw [hp]; exact hI.ids, hI.used⟩
  · unfold dBase; simp only [List.length_append, List.length_cons, List.length_nil]; omega
  · intro j hj
    simp only [List.length_append, List.length_cons, List.length_nil] at hj
    by_cases e : j < d.turns.length
    · simp only [List.getElem_append_left e]; exact hI.turn0 j e
    · simp only [List.getElem_append_right (Nat.le_of_not_lt e)]; simpa using h0
  · intro j hj
    simp only [List.length_append, List.length_cons, List.length_nil] at hj
    by_cases e : j < d.turns.length
    · simp only [List.getElem_append_left e, List.take_append_of_le_length (Nat.le_of_lt e)]; exact hI.turn j e
    · obtain rfl : j = d.turns.length := by omega
      simp only [List.getElem_append_right (Nat.le_refl _), List.take_append_of_le_length (Nat.le_refl _), List.take_length, Nat.sub_self, List.getElem_cons_zero]
      exact ha
theorem DOk.make {d : DiskP} (h : DOk d) {s : List UInt8} (hs : pName s = true) (hh : dHas (pDir d) s = false) (h8 : d.nodes.length < 8) (hn : d.next < 1000000) (hl : d.turns.length < 40) {fu : Int} (hfu : -1 ≤ fu ∧ fu ≤ 1000) :
    DOk { d with fuse := fu, next := d.next + 1, nodes := d.nodes ++ [(d.next, [], [])], turns := d.turns ++ [⟨1, s, [], d.next⟩] } := by
  have hI := (dok_iff d).1 h
  have hB := h.base
  unfold dBase at hB
  have hN := (nall_iff d).1 h.node
  have hp : (pIds { d with fuse := fu, next := d.next + 1, nodes := d.nodes ++ [(d.next, [], [])], turns := d.turns ++ [⟨1, s, [], d.next⟩] }) = pIds d ++ [d.next] := by
    unfold pIds; simp only [List.filter_append, List.map_append, List.append_assoc]; rfl
  have hlt : ∀ x ∈ pIds d, x < d.next := fun x hx => by
    obtain ⟨j, hj, rfl⟩ := List.mem_iff_getElem.1 hx
    obtain ⟨p, hp, e⟩ := List.mem_map.1 (h.ids j hj).2
    have := hN.1 p hp
    omega
  rw [dok_iff]
  refine ⟨?_, (nall_iff _).2 ⟨fun p hp => ?_, ?_⟩, (kall_iff _).2 ((kall_iff d).1 hI.link), ?_, ?_, ?_, ?_, ?_, ?_⟩
  · unfold dBase; simp only [List.length_append, List.length_cons, List.length_nil]; omega
  · rcases List.mem_append.1 hp with hp | hp
    · have := hN.1 p hp; simp only; omega
    · obtain rfl := List.mem_singleton.1 hp; simp only; omega
  · refine List.pairwise_append.2 ⟨hN.2, List.pairwise_singleton _ _, fun a ha b hb => ?_⟩
    obtain rfl := List.mem_singleton.1 hb
    exact (hN.1 a ha).2
  · intro j hj
    simp only [List.length_append, List.length_cons, List.length_nil] at hj
    by_cases e : j < d.turns.length
    · simp only [List.getElem_append_left e]; exact hI.turn0 j e
    · simp only [List.getElem_append_right (Nat.le_of_not_lt e)]
      obtain rfl : j = d.turns.length := by omega
      simp only [Nat.sub_self, List.getElem_cons_zero]
      exact ⟨hs, .inl ⟨rfl, rfl⟩⟩
  · intro j hj
    simp only [List.length_append, List.length_cons, List.length_nil] at hj
    by_cases e : j < d.turns.length
    · simp only [List.getElem_append_left e, List.take_append_of_le_length (Nat.le_of_lt e)]; exact hI.turn j e
    · obtain rfl : j = d.turns.length := by omega
      simp only [List.getElem_append_right (Nat.le_refl _), List.take_append_of_le_length (Nat.le_refl _), List.take_length, Nat.sub_self, List.getElem_cons_zero]
      exact .inl ⟨rfl, hh⟩
  · rw [hp]
    refine List.nodup_append.2 ⟨hI.nodup, List.nodup_cons.2 ⟨by simp, List.nodup_nil⟩, fun a ha b hb e => ?_⟩
    obtain rfl := List.mem_singleton.1 hb
    have := hlt a ha
    omega
  · rw [hp]; have := hI.len; simp only [List.length_append, List.length_cons, List.length_nil] at *; omega
  · intro p hp'
    rw [hp]
    rcases List.mem_append.1 hp' with hp' | hp'
    · exact List.mem_append.2 (.inl (hI.ids p hp'))
    · obtain rfl := List.mem_singleton.1 hp'; exact List.mem_append.2 (.inr (List.mem_singleton.2 rfl))
  · have := hI.used
    unfold pUsed at *
    simp only [List.map_append, List.sum_append, List.map_cons, List.map_nil, List.sum_cons, List.sum_nil, NdM, List.length_nil]
    omega
theorem fuseOf_in {d : DiskP} (h : DOk d) : -1 ≤ fuseOf d ∧ fuseOf d ≤ 1000 := by
  have hB := h.base
  unfold dBase at hB
  unfold fuseOf
  split <;> omega
theorem fuseOf_step {d : DiskP} (_h : DOk d) (_h0 : d.fuse ≠ 0) : (0 < d.fuse → fuseOf d = d.fuse - 1) ∧ (d.fuse = -1 → fuseOf d = -1) := by
  unfold fuseOf
  constructor
  · intro h; rw [if_pos h]
  · intro h; rw [if_neg (by omega)]; exact h
/-- A right disk stays right. -/
theorem DOk.do_ {d : DiskP} (h : DOk d) {o : OpD} (ho : pOp o = true) (hc : pCode d o = 0) : DOk (doD d o) := by
  obtain ⟨p1, p2, p3, p4, p5, p6, p7, p8, p9⟩ := pOp_parts ho
  obtain ⟨_, hch, hc1, hct, hc4, hc5⟩ := pCode_has hc
  have hfu := fuseOf_in h
  have hB := h.base
  unfold dBase at hB
  have hk : o.kind = 1 ∨ o.kind = 2 ∨ o.kind = 3 ∨ o.kind = 4 ∨ o.kind = 5 ∨ o.kind = 6 ∨ o.kind = 7 := by omega
  have hnode : o.kind ≠ 1 → o.kind ≠ 7 → ∃ i, ∃ hi : i < d.nodes.length, opAt d o = (i : Int) ∧ ndAt d o = d.nodes[i] := fun h1 h7 => h.opNode (by rw [hch h7]; simp [h1])
  unfold doD
  rcases hk with e | e | e | e | e | e | e
  · rw [if_pos e]
    exact h.make (p3 (by omega)) (by have := hch (by omega); rw [this]; simp [e]) (hc1 e).1 (hc1 e).2 (hct (.inl e)) hfu
  · rw [if_neg (by omega), if_pos e]
    obtain ⟨i, hi, h1, h2⟩ := hnode (by omega) (by omega)
    unfold ndPut
    rw [h1, Int.toNat_natCast]
    refine h.put hi (by rw [h2]) ?_ hfu
    have hu := h.used
    have hf : fitsN d o ≤ NdM (ndAt d o) + d.room - pUsed d.nodes - (ndAt d o).2.1.length := by unfold fitsN; omega
    have hl : ((o.data.take (fitsN d o).toNat).length : Int) ≤ max 0 (fitsN d o) := by rw [List.length_take]; omega
    rw [h2] at hf ⊢
    unfold NdM at *
    simp only [List.length_append]
    omega
  · rw [if_neg (by omega), if_neg (by omega), if_pos e]
    obtain ⟨i, hi, h1, h2⟩ := hnode (by omega) (by omega)
    unfold ndPut
    rw [h1, Int.toNat_natCast]
    refine h.put hi (by rw [h2]) ?_ hfu
    have hu := h.used
    rw [h2]
    unfold NdM
    simp only
    omega
  · rw [if_neg (by omega), if_neg (by omega), if_neg (by omega), if_pos e]
    obtain ⟨i, hi, h1, h2⟩ := hnode (by omega) (by omega)
    unfold ndPut
    rw [h1, Int.toNat_natCast]
    refine h.put hi (by rw [h2]) ?_ hfu
    have hu := h.used
    rw [h2]
    unfold NdM
    simp only [List.length_take]
    omega
  · rw [if_neg (by omega), if_neg (by omega), if_neg (by omega), if_neg (by omega), if_neg (by omega)]
    exact h.turnOn ⟨p3 (by omega), .inr (.inl ⟨e, p4 e, rfl⟩)⟩ (.inr (.inl ⟨e, by rw [hch (by omega)]; simp [e], hc5 e⟩)) (by simp only; omega) (hct (by omega)) hfu
  · rw [if_neg (by omega), if_neg (by omega), if_neg (by omega), if_neg (by omega), if_neg (by omega)]
    exact h.turnOn ⟨p3 (by omega), .inr (.inr ⟨e, p5 (by omega), rfl⟩)⟩ (.inr (.inr ⟨e, by rw [hch (by omega)]; simp [e]⟩)) (by simp only; omega) (hct (by omega)) hfu
  · rw [if_neg (by omega), if_neg (by omega), if_neg (by omega), if_neg (by omega), if_pos e]
    have h1 := h.turned (m := d.turns.length) (Nat.le_refl _) (f := fun _ p => p) (fun _ _ => rfl) (fun _ p => Int.le_refl _) (L := pDir d) (by rw [List.take_length]; rfl) hfu
    have h2 : (onlyP d.nodes ((pDir d).map (·.id))).mapIdx (fun _ p => p) = onlyP d.nodes ((pDir d).map (·.id)) := by
      apply List.ext_getElem
      · simp
      · intro i h1 h2; simp
    rw [h2] at h1
    exact h1
theorem DOk.pDo {d : DiskP} (h : DOk d) {o : OpD} (ho : pOp o = true) : DOk (pDo d o).1 := by
  by_cases hc : pCode d o = 0
  · rw [pDo_yes h ho hc]; exact h.do_ ho hc
  · rw [pDo_code h ho hc]; exact h
/-! ### a right disk is small -/
theorem DOk.fitsD {d : DiskP} (h : DOk d) : d.fits := by
  have hI := (dok_iff d).1 h
  have hB := h.base
  have hN := (nall_iff d).1 h.node
  have hK := (kall_iff d).1 h.link
  have hu := h.used
  unfold dBase at hB
  have hb : ∀ x ∈ pIds d, 1 ≤ x ∧ x < 1000000 := fun x hx => by
    obtain ⟨j, hj, rfl⟩ := List.mem_iff_getElem.1 hx
    obtain ⟨p, hp, e⟩ := List.mem_map.1 (h.ids j hj).2
    have := hN.1 p hp
    omega
  refine ⟨by omega, by omega, by omega, ⟨by omega, fun p hp => ?_⟩, ⟨by omega, fun x hx => ?_⟩, by omega, fun t ht => ?_⟩
  · have h1 : NdM p ≤ pUsed d.nodes := by
      clear hB hN hu hI hb
      generalize d.nodes = l at hp
      induction l with
      | nil => cases hp
      | cons a r ih =>
        have h0 := (pUsed_le r).1
        have h0' : 0 ≤ NdM a := by unfold NdM; omega
        simp only [pUsed, List.map_cons, List.sum_cons] at *
        rcases List.mem_cons.1 hp with rfl | hp
        · omega
        · have := ih hp; omega
    unfold NdM at h1
    unfold NdFit
    omega
  · have h1 := pName_len (hK.1 x hx)
    have h2 := hb _ (kept_mem hx)
    unfold LkFit
    omega
  · obtain ⟨j, hj, rfl⟩ := List.mem_iff_getElem.1 ht
    have h1 := hI.turn0 j hj
    have h2 := pName_len h1.1
    unfold TnFit
    rcases h1.2 with ⟨a, b⟩ | ⟨a, b, c⟩ | ⟨a, b, c⟩
    · have h3 := hb _ (creates_mem (List.getElem_mem hj) a)
      rw [b]; simp only [List.length_nil]; omega
    · have := pName_len b; omega
    · rw [b]; simp only [List.length_nil]; omega
theorem totNd_used : ∀ l : List NodeP, totNd l ≤ 2 * pUsed l
  | [] => by simp [totNd, pUsed]
  | p :: r => by
    have := totNd_used r
    simp only [totNd, pUsed, List.map_cons, List.sum_cons, NdW, NdM] at *
    omega
theorem totTn_le : ∀ {l : List TnD}, (∀ t ∈ l, TnW t ≤ 24) → totTn l ≤ 24 * l.length
  | [], _ => by simp [totTn]
  | x :: r, h => by
    have h1 := totTn_le (l := r) (fun y hy => h y (by simp [hy]))
    have h2 := h x (by simp)
    unfold totTn at *
    simp only [List.map_cons, List.sum_cons, List.length_cons] at *
    omega
theorem DOk.totD {d : DiskP} (h : DOk d) : totD d ≤ 200000 := by
  have hI := (dok_iff d).1 h
  have hB := h.base
  have hK := (kall_iff d).1 h.link
  have hu := h.used
  unfold dBase at hB
  have h1 := totNd_used d.nodes
  have h2 := totLk_names hK.1
  have h3 : totTn d.turns ≤ 24 * d.turns.length := totTn_le (fun t ht => by
    obtain ⟨j, hj, rfl⟩ := List.mem_iff_getElem.1 ht
    have h1 := hI.turn0 j hj
    have h2 := pName_len h1.1
    unfold TnW
    rcases h1.2 with ⟨a, b⟩ | ⟨a, b, c⟩ | ⟨a, b, c⟩
    · rw [b]; simp only [List.length_nil]; omega
    · have := pName_len b; omega
    · rw [b]; simp only [List.length_nil]; omega)
  unfold Go.Proofs.YtggaghghclomkaaGreat.totD
  omega
end Go.Proofs.YtggaghghclomkaaGreat

/- The steps between two contents: what the law asks of them. No condition. -/
namespace Go.Proofs.YtggaghghclomkaaGreat
open Go.RowKit

theorem share_self : ∀ s : List UInt8, share s s = s.length
  | [] => rfl
  | a :: x => by simp [share, share_self x]
theorem tear_self (s : List UInt8) (k : Int) : tear s s k = s := by
  have h : tearK s s k = 0 := by unfold tearK tearSteps; rw [share_self]; omega
  unfold tear
  rw [h, if_pos (by omega)]
  simp
end Go.Proofs.YtggaghghclomkaaGreat

/- What a name reads as on a disk, before and behind an operation and a loss of power: the plain law. No condition. -/
namespace Go.Proofs.YtggaghghclomkaaGreat
open Go.RowKit
theorem node_inj {d : DiskP} (h : DOk d) {p q : NodeP} (hp : p ∈ d.nodes) (hq : q ∈ d.nodes) (e : p.1 = q.1) : p = q := by
  obtain ⟨i, hi, rfl⟩ := List.mem_iff_getElem.1 hp
  obtain ⟨j, hj, rfl⟩ := List.mem_iff_getElem.1 hq
  have h1 := ((nall_iff d).1 h.node).2
  rw [List.pairwise_iff_getElem] at h1
  rcases Nat.lt_trichotomy i j with h2 | h2 | h2
  · have := h1 i j hi hj h2; omega
  · subst h2; rfl
  · have := h1 j i hj hi h2; omega
/-- A name is linked to a node, in a directory. -/
structure HasL (L : List LkD) (l : List NodeP) (s : List UInt8) (p : NodeP) : Prop where
  there : dHas L s = true
  mem : p ∈ l
  id : p.1 = dFind L s
abbrev Has (d : DiskP) (s : List UInt8) (p : NodeP) : Prop := HasL (pDir d) d.nodes s p
section
variable {d : DiskP} {s t : List UInt8} {p q p' : NodeP} {fu : Int}
theorem DOk.has (h : DOk d) (hh : dHas (pDir d) s = true) : ∃ p, Has d s p := by
  obtain ⟨i, hi, _, h2⟩ := h.dirAt hh
  exact ⟨d.nodes[i], hh, List.getElem_mem hi, h2⟩
theorem Has.at_ (h : DOk d) (H : Has d s p) : ∃ i, ∃ hi : i < d.nodes.length, nAt d.nodes (dFind (pDir d) s) = (i : Int) ∧ d.nodes[i] = p := by
  obtain ⟨i, hi, h1, h2⟩ := h.dirAt H.there
  exact ⟨i, hi, h1, node_inj h (List.getElem_mem hi) H.mem (h2.trans H.id.symm)⟩
theorem Has.read (h : DOk d) (H : Has d s p) : pRead d s = (p.2.1, true) := by
  obtain ⟨i, hi, h1, h2⟩ := H.at_ h
  rw [pRead_yes h H.there, h1, bodyAt_nat hi, h2]
theorem read_none (hh : dHas (pDir d) s = false) : pRead d s = ([], false) := pRead_no (fun h => by rw [hh] at h; exact absurd h.2 (by decide))
theorem read_iff (h : DOk d) : (pRead d s).2 = dHas (pDir d) s := by
  cases hh : dHas (pDir d) s with
  | true => obtain ⟨p, hp⟩ := h.has hh; rw [hp.read h]
  | false => rw [read_none hh]
/-- One node is put. -/
def putN (d : DiskP) (s : List UInt8) (p' : NodeP) : DiskP := { d with fuse := fuseOf d, nodes := d.nodes.set (nAt d.nodes (dFind (pDir d) s)).toNat p' }
theorem Has.put (h : DOk d) (H : Has d s p) (e : p'.1 = p.1) : Has (putN d s p') s p' := by
  obtain ⟨i, hi, h1, h2⟩ := H.at_ h
  refine ⟨H.there, ?_, e.trans H.id⟩
  unfold putN
  simp only
  rw [h1, Int.toNat_natCast]
  exact List.mem_set hi p'
theorem Has.put_other (h : DOk d) (H : Has d s p) {L : List LkD} (K : HasL L d.nodes t q) (hne : q.1 ≠ p.1) : HasL L (putN d s p').nodes t q := by
  obtain ⟨i, hi, h1, h2⟩ := H.at_ h
  refine ⟨K.there, ?_, K.id⟩
  unfold putN
  simp only
  rw [h1, Int.toNat_natCast]
  obtain ⟨j, hj, hq⟩ := List.mem_iff_getElem.1 K.mem
  have hij : i ≠ j := fun e => by subst e; rw [h2] at hq; exact hne (by rw [hq])
  exact List.mem_iff_getElem.2 ⟨j, by rw [List.length_set]; exact hj, by rw [List.getElem_set, if_neg hij]; exact hq⟩
/-! ### the operations -/
abbrev oMk (s : List UInt8) : OpD := ⟨1, s, [], 0, []⟩
abbrev oSync (s : List UInt8) : OpD := ⟨3, s, [], 0, []⟩
abbrev oCut (s : List UInt8) (n : Int) : OpD := ⟨4, s, [], n, []⟩
abbrev oRm (s : List UInt8) : OpD := ⟨6, s, [], 0, []⟩
abbrev oDir : OpD := ⟨7, [], [], 0, []⟩
def newD (d : DiskP) (s : List UInt8) : DiskP := { d with fuse := fuseOf d, next := d.next + 1, nodes := d.nodes ++ [(d.next, [], [])], turns := d.turns ++ [⟨1, s, [], d.next⟩] }
def turnD (d : DiskP) (t : TnD) : DiskP := { d with fuse := fuseOf d, turns := d.turns ++ [t] }
def dirD (d : DiskP) : DiskP := { d with fuse := fuseOf d, nodes := onlyP d.nodes ((pDir d).map (·.id)), kept := pDir d, turns := [] }
theorem op_at (h : DOk d) (H : Has d s p) {o : OpD} (e : o.name = s) : ndAt d o = p := by
  subst e
  obtain ⟨i, hi, h1, h2⟩ := H.at_ h
  unfold ndAt opAt
  rw [h1, Int.toNat_natCast, List.getD_eq_getElem?_getD, List.getElem?_eq_getElem hi, h2]
  rfl
theorem pDo_sync (h : DOk d) (h0 : d.fuse ≠ 0) (H : Has d s p) (hs : pName s = true) : pDo d (oSync s) = (putN d s (p.1, p.2.1, p.2.1), 0) := by
  have ho : pOp (oSync s) = true := by unfold pOp; simp [hs]
  have hc : pCode d (oSync s) = 0 := by unfold pCode; simp [h0, H.there]
  have hn := op_at h H (o := oSync s) rfl
  rw [pDo_yes h ho hc]
  unfold doD doC ndPut
  rw [hn, if_neg (by simp), if_neg (by simp), if_pos rfl, if_neg (by simp)]
  rfl
theorem pDo_cut (h : DOk d) (h0 : d.fuse ≠ 0) (H : Has d s p) (hs : pName s = true) {n : Nat} (hn1 : n ≤ p.2.1.length) (hn2 : n ≤ 60000) : pDo d (oCut s n) = (putN d s (p.1, p.2.1.take n, p.2.2), 0) := by
  have ho : pOp (oCut s n) = true := by unfold pOp; simp [hs]; omega
  have hb : ((bodyAt d (opAt d (oCut s n))).length : Int) = p.2.1.length := by
    obtain ⟨i, hi, h1, h2⟩ := H.at_ h
    unfold opAt
    simp only
    rw [h1, bodyAt_nat hi, h2]
  have hc : pCode d (oCut s n) = 0 := by
    rw [pCode_4 rfl, if_neg h0, hb]
    simp only [H.there]
    rw [if_neg (by simp), if_neg (by omega)]
  have hn := op_at h H (o := oCut s n) rfl
  rw [pDo_yes h ho hc]
  unfold doD doC ndPut
  rw [hn, if_neg (by simp), if_neg (by simp), if_neg (by simp), if_pos rfl, if_neg (by simp)]
  simp only [Int.toNat_natCast]
  rfl
theorem pDo_rm (h : DOk d) (h0 : d.fuse ≠ 0) (H : Has d s p) (hs : pName s = true) (hl : d.turns.length < 40) : pDo d (oRm s) = (turnD d ⟨6, s, [], 0⟩, 0) := by
  have ho : pOp (oRm s) = true := by unfold pOp; simp [hs]
  have hc : pCode d (oRm s) = 0 := by rw [pCode_6 rfl, if_neg h0]; simp only [H.there]; rw [if_neg (by simp), if_neg (by omega)]
  rw [pDo_yes h ho hc]
  unfold doD doC
  rw [if_neg (by simp), if_neg (by simp), if_neg (by simp), if_neg (by simp), if_neg (by simp), if_neg (by simp)]
  rfl
theorem pDo_dir (h : DOk d) (h0 : d.fuse ≠ 0) : pDo d oDir = (dirD d, 0) := by
  have ho : pOp oDir = true := by unfold pOp; simp
  have hc : pCode d oDir = 0 := by rw [pCode_7 rfl, if_neg h0]
  rw [pDo_yes h ho hc]
  unfold doD doC
  rw [if_neg (by simp), if_neg (by simp), if_neg (by simp), if_neg (by simp), if_pos rfl, if_neg (by simp)]
  rfl
theorem pDo_mk (h : DOk d) (h0 : d.fuse ≠ 0) (hh : dHas (pDir d) s = false) (hs : pName s = true) (hl : d.turns.length < 40) :
    (8 ≤ d.nodes.length ∨ 1000000 ≤ d.next) ∧ pDo d (oMk s) = (d, 4) ∨ ¬ (8 ≤ d.nodes.length ∨ 1000000 ≤ d.next) ∧ pDo d (oMk s) = (newD d s, 0) := by
  have ho : pOp (oMk s) = true := by unfold pOp; simp [hs]
  by_cases hx : 8 ≤ d.nodes.length ∨ 1000000 ≤ d.next
  · left
    have hc : pCode d (oMk s) = 4 := by rw [pCode_1 rfl, if_neg h0]; simp only [hh]; rw [if_neg (by simp), if_pos (by omega)]
    rw [pDo_code h ho (by rw [hc]; decide), hc]
    exact ⟨hx, rfl⟩
  · right
    have hc : pCode d (oMk s) = 0 := by rw [pCode_1 rfl, if_neg h0]; simp only [hh]; rw [if_neg (by simp), if_neg (by omega)]
    rw [pDo_yes h ho hc]
    refine ⟨hx, ?_⟩
    unfold doD doC
    rw [if_pos rfl, if_neg (by simp)]
    rfl
/-! ### directories -/
theorem dHas_mem {L : List LkD} {x : LkD} (h : x ∈ L) : dHas L x.name = true := by unfold dHas; rw [List.any_eq_true]; exact ⟨x, h, by simp⟩
theorem dHas_iff {L : List LkD} {s : List UInt8} : dHas L s = true ↔ ∃ x ∈ L, x.name = s := by unfold dHas; rw [List.any_eq_true]; simp
theorem dFind_of {L : List LkD} (ha : Asc L) {x : LkD} (hx : x ∈ L) : dFind L x.name = x.id := by
  obtain ⟨y, hy, hn, hi⟩ := dFind_mem (dHas_mem hx)
  rw [← hi]
  have h1 := ha
  unfold Asc at h1
  rw [List.pairwise_iff_getElem] at h1
  obtain ⟨i, hi1, rfl⟩ := List.mem_iff_getElem.1 hx
  obtain ⟨j, hj1, rfl⟩ := List.mem_iff_getElem.1 hy
  rcases Nat.lt_trichotomy i j with h2 | h2 | h2
  · have := h1 i j hi1 hj1 h2; rw [hn, bb_irrefl] at this; cases this
  · subst h2; rfl
  · have := h1 j i hj1 hi1 h2; rw [hn, bb_irrefl] at this; cases this
theorem ins_has (x : LkD) (L : List LkD) (s : List UInt8) : dHas (dIns x L) s = (decide (x.name = s) || dHas L s) := by
  rw [Bool.eq_iff_iff]
  simp only [Bool.or_eq_true, decide_eq_true_eq, dHas_iff, mem_dIns]
  constructor
  · rintro ⟨y, rfl | hy, h⟩
    · exact .inl h
    · exact .inr ⟨y, hy, h⟩
  · rintro (h | ⟨y, hy, h⟩)
    · exact ⟨x, .inl rfl, h⟩
    · exact ⟨y, .inr hy, h⟩
theorem less_has (L : List LkD) (s t : List UInt8) : dHas (dLess L t) s = (!decide (s = t) && dHas L s) := by
  rw [Bool.eq_iff_iff]
  simp only [Bool.and_eq_true, Bool.not_eq_true', decide_eq_false_iff_not, dHas_iff, dLess, List.mem_filter]
  constructor
  · rintro ⟨y, ⟨hy, h1⟩, rfl⟩
    exact ⟨by simpa using h1, y, hy, rfl⟩
  · rintro ⟨h1, y, hy, rfl⟩
    exact ⟨y, ⟨hy, by simpa using h1⟩, rfl⟩
theorem ins_find {x : LkD} {L : List LkD} (ha : Asc L) (hx : dHas L x.name = false) (s : List UInt8) : dFind (dIns x L) s = if x.name = s then x.id else dFind L s := by
  have ha2 := asc_dIns ha hx
  split
  · rename_i e; subst e; exact dFind_of ha2 ((mem_dIns L).2 (.inl rfl))
  · rename_i e
    cases hh : dHas L s with
    | true =>
      obtain ⟨y, hy, rfl, hi⟩ := dFind_mem hh
      rw [dFind_of ha2 ((mem_dIns L).2 (.inr hy)), hi]
    | false =>
      rw [dFind_none hh, dFind_none (by rw [ins_has, hh]; simp [e])]
theorem less_find {L : List LkD} (ha : Asc L) {s t : List UInt8} (h : s ≠ t) : dFind (dLess L t) s = dFind L s := by
  have ha2 := asc_dLess ha t
  cases hh : dHas L s with
  | true =>
    obtain ⟨y, hy, rfl, hi⟩ := dFind_mem hh
    rw [← hi]
    exact dFind_of ha2 (List.mem_filter.2 ⟨hy, by simpa using h⟩)
  | false => rw [dFind_none hh, dFind_none (by rw [less_has, hh]; simp)]
theorem DOk.ascD (h : DOk d) : Asc (pDir d) := by have := h.asc d.turns.length (Nat.le_refl _); rw [List.take_length] at this; exact this
theorem runT_snoc (L : List LkD) (ts : List TnD) (t : TnD) : runT L (ts ++ [t]) = pTurn (runT L ts) t := by unfold runT; rw [List.foldl_append]; rfl
theorem turnD_dir (t : TnD) : pDir (turnD d t) = pTurn (pDir d) t := runT_snoc _ _ _
theorem newD_dir : pDir (newD d s) = dIns ⟨s, d.next⟩ (pDir d) := by unfold newD pDir; simp only; rw [runT_snoc]; unfold pTurn; rw [if_pos rfl]
theorem dirD_dir : pDir (dirD d) = pDir d := rfl
theorem rm_dir : pDir (turnD d ⟨6, s, [], 0⟩) = dLess (pDir d) s := by rw [turnD_dir]; unfold pTurn; rw [if_neg (by simp), if_neg (by simp)]
theorem Has.dir (H : Has d s p) : Has (dirD d) s p := by
  refine ⟨H.there, List.mem_filter.2 ⟨H.mem, ?_⟩, H.id⟩
  obtain ⟨x, hx, _, hi⟩ := dFind_mem H.there
  rw [H.id, ← hi]
  simpa using ⟨x, hx, rfl⟩
theorem Has.rm (h : DOk d) (H : Has d s p) (hne : s ≠ t) : Has (turnD d ⟨6, t, [], 0⟩) s p := by
  refine ⟨?_, H.mem, ?_⟩
  · rw [rm_dir, less_has, H.there]; simp [hne]
  · rw [rm_dir, less_find h.ascD hne]; exact H.id
theorem Has.newOld (h : DOk d) (H : Has d s p) (hn : dHas (pDir d) t = false) : Has (newD d t) s p := by
  have hne : t ≠ s := fun e => by subst e; rw [H.there] at hn; cases hn
  refine ⟨?_, List.mem_append.2 (.inl H.mem), ?_⟩
  · rw [newD_dir, ins_has, H.there]; simp
  · rw [newD_dir, ins_find h.ascD hn]; simp only [hne, if_false]; exact H.id
theorem Has.newNew (h : DOk d) (hn : dHas (pDir d) t = false) : Has (newD d t) t (d.next, [], []) := by
  refine ⟨?_, List.mem_append.2 (.inr (List.mem_singleton.2 rfl)), ?_⟩
  · rw [newD_dir, ins_has]; simp
  · rw [newD_dir, ins_find h.ascD hn]; simp
/-! ### behind a loss of power -/
theorem HasL.crash (_h : DOk d) {tn : Int} {cuts : List Int} (H : HasL (runT d.kept (d.turns.take (tnN d tn))) d.nodes s p) : ∃ i, Has (crashD d tn cuts) s (crashP cuts i p) := by
  have hin : p ∈ onlyP d.nodes ((runT d.kept (d.turns.take (tnN d tn))).map (·.id)) := by
    refine List.mem_filter.2 ⟨H.mem, ?_⟩
    obtain ⟨x, hx, _, hi⟩ := dFind_mem H.there
    rw [H.id, ← hi]
    simpa using ⟨x, hx, rfl⟩
  obtain ⟨i, hi, he⟩ := List.mem_iff_getElem.1 hin
  refine ⟨i, H.there, ?_, H.id⟩
  exact List.mem_iff_getElem.2 ⟨i, by unfold crashD; simpa using hi, by unfold crashD; simp [he]⟩
end
end Go.Proofs.YtggaghghclomkaaGreat

/- Contracts of the laws' own helpers on lists of entries. -/
namespace Go.Proofs.YtggaghghclomkaaGreat
open Go.RowKit
attribute [local irreducible] TL TC TN TX TR TQ TA Pu Ret

abbrev Ent := Int × List UInt8
theorem entC_len (d : Ent) : (entC d).length = 2 := rfl
theorem entC_one (d : Ent) : ∀ u ∈ entC d, u.oneCell' = true := by
  intro u hu
  simp only [entC, List.mem_cons, List.not_mem_nil, or_false] at hu
  rcases hu with rfl | rfl <;> rfl
def ents (l : List Ent) : List Value := cellsL entC l
theorem ents_length (l : List Ent) : (ents l).length = l.length * 2 := cellsL_length entC_len l
def RE (w : World) (lo hi : Nat) (v : Value) (l : List Ent) : Prop := ∃ A c, v = .slice A l.length c ∧ l.length ≤ c ∧ Rd w lo hi 2 A l.length (ents l)
def OE (w : World) (lo hi : Nat) (v : Value) (l : List Ent) : Prop := ∃ A c, v = .slice A l.length c ∧ Own w lo hi 82 2 A l.length c (ents l)
section
variable {w w' : World} {lo hi : Nat} {v : Value} {l : List Ent} {k : Int} {T : Nat → Prop}
theorem RE.ch (h : RE w lo hi v l) (c : Ch T w w') (hd : ∀ k, lo ≤ k → k < hi → ¬ T k) : RE w' lo hi v l := by
  obtain ⟨A, cc, h1, h2, h3⟩ := h; exact ⟨A, cc, h1, h2, h3.ch c hd⟩
theorem RE.ext (h : RE w lo hi v l) (c : Ext w w') : RE w' lo hi v l := h.ch c (fun _ _ _ t => t)
theorem OE.ch (h : OE w lo hi v l) (c : Ch T w w') (hd : ∀ k, lo ≤ k → k < hi → ¬ T k) : OE w' lo hi v l := by
  obtain ⟨A, cc, h1, h3⟩ := h; exact ⟨A, cc, h1, h3.ch c hd⟩
theorem OE.ext (h : OE w lo hi v l) (c : Ext w w') : OE w' lo hi v l := h.ch c (fun _ _ _ t => t)
theorem OE.rd (h : OE w lo hi v l) : RE w lo hi v l := by obtain ⟨A, cc, h1, h3⟩ := h; exact ⟨A, cc, h1, h3.cap.1, h3.rd⟩
theorem OE.hi_le (h : OE w lo hi v l) : hi ≤ w.heap.size := by obtain ⟨A, cc, h1, h3⟩ := h; exact h3.hi_le
theorem OE.nil (w : World) (k : Nat) (_h : k ≤ w.heap.size) : OE w k w.heap.size (.slice none 0 0) [] := ⟨none, 0, rfl, Own.nil _ _ _ _ _ (Nat.le_refl _)⟩
end
/-- What the entries of a list count for. -/
def totE (l : List Ent) : Int := (l.map fun d => (d.2.length : Int)).sum
theorem totE_nn (l : List Ent) : 0 ≤ totE l := by
  induction l with
  | nil => simp [totE]
  | cons a l ih => simp only [totE, List.map_cons, List.sum_cons] at *; omega
theorem agg_at {w : World} {ad : Addr} {cs : List Value} (h : ∀ j u, cs[j]? = some u → w.cell? (ad.add j) = some u) : ∀ w', Ext w w' → ∀ j u, cs[j]? = some u → w'.cell? (ad.add j) = some u := fun _ e j u hu => Ext.cell e (h j u hu)
theorem eqEntry_c (d : Ent) (w : World) : Ret Tryz.prog 168 #[.agg (entC d).toArray, .agg (entC d).toArray] w fun v w' => v = .bool true ∧ Ext w w' := by
  refine Ret_enter Tryz.func168 rfl rfl rfl ?_
  repeat' (first | apply Jbs | apply Jbt)
  refine TL_box (cs := entC d) rfl rfl ?_
  intro w1 g1 e1 hg1 hz1 hb1
  skip
  refine TL_box (cs := entC d) rfl rfl ?_
  intro w2 g2 e2 hg2 hz2 hb2
  replace hb1 := hb1.ext e2
  repeat' (first | apply Jbq | apply Jbr | apply Jbs | apply Jbt | apply Jbu | apply Jbz | (refine Jcf rfl ?_) | (apply Jcg; (first | exact Jbm rfl rfl | exact Jbo rfl rfl | exact Jab rfl | (apply Jbl; exact Us.h; exact rfl; exact Sz.h; exact rfl)); exact rfl) | refine Jcg (Pu_load Fl.h rfl (fun _ e => by rw [e]; exact hb1.ld rfl)) rfl ?_ | refine Jcg (Pu_load Fl.h rfl (fun _ e => by rw [e]; exact hb2.ld rfl)) rfl ?_)
  exact TR_of (res1 rfl rfl) ⟨rfl, e1.ext e2⟩
set_option maxHeartbeats 1000000 in
theorem eqEntryS_c {lo hi c lo2 hi2 c2 : Nat} {A A2 : Option Addr} {l : List Ent} {w : World} (hr : Rd w lo hi 2 A l.length (ents l)) (hr2 : Rd w lo2 hi2 2 A2 l.length (ents l)) (hl : l.length ≤ 1099511627776) :
    Ret Tryz.prog 125 #[.slice A l.length c, .slice A2 l.length c2] w fun v w' => v = .bool true ∧ Ext w w' := by
  refine Ret_enter Tryz.func125 rfl rfl rfl ?_
  repeat' (first | apply Jbq | apply Jbr | apply Jbs | apply Jbt | apply Jby | apply Jbz | (refine Jcf rfl ?_) | (apply Jcg; (first | exact Jbm rfl rfl | exact Jaa rfl | exact Jab rfl | exact Jac Us.h rfl); exact rfl))
  refine TC_loop (ι := Nat) (fun k => [(0, .slice A l.length c), (1, .slice A2 l.length c2), (5, I k)]) (fun k w' => k ≤ l.length ∧ Ext w w') (fun k => l.length - k) 0 (subEnv_cons rfl (subEnv_cons rfl (subEnv_cons rfl (subEnv_nil _)))) ⟨Nat.zero_le _, Ch.refl _ _⟩ ?_
  intro k w2 ⟨hk, e2⟩
  repeat' (first | apply Jbq | apply Jbr | apply Jbs | apply Jbt | (apply Jcg; (first | exact Jaa rfl | exact Jac Us.h rfl | exact Jad rfl rfl); exact rfl))
  refine Jcx rfl (fun hlt => ?_) (fun hge => ?_)
  · have hlt : k < l.length := by omega
    obtain ⟨ad, rfl, hc⟩ := Rd.elem entC_len (hr.ext e2) hlt
    obtain ⟨ad2, rfl, hc2⟩ := Rd.elem entC_len (hr2.ext e2) hlt
    repeat' (first | apply Jbr | apply Jbs | apply Jby | apply Jbz)
    refine TC_any mixed rfl ?_
    intro w3 hE hz3
    (refine Jco 0 rfl (by kernel_rfl) (by kernel_rfl) (by kernel_rfl) (fun _ _ _ h => h) hE (by exact Jaa rfl) rfl ?_; refine Jco 1 rfl (by kernel_rfl) (by kernel_rfl) (by kernel_rfl) (fun _ _ _ h => h) hE (by exact Jaa rfl) rfl ?_; refine Jco 2 rfl (by kernel_rfl) (by kernel_rfl) (by kernel_rfl) (fun _ _ _ h => h) hE (by exact Jar Us.h Sz.h rfl rfl (by omega)) rfl ?_; refine Jco 3 rfl (by kernel_rfl) (by kernel_rfl) (by kernel_rfl) (fun _ _ _ h => h) hE (by exact Pu_loadAgg (cs := entC l[k]) Us.h rfl Sz.h rfl (agg_at hc)) rfl ?_; refine Jco 4 rfl (by kernel_rfl) (by kernel_rfl) (by kernel_rfl) (fun _ _ _ h => h) hE (by exact Jaa rfl) rfl ?_; refine Jco 5 rfl (by kernel_rfl) (by kernel_rfl) (by kernel_rfl) (fun _ _ _ h => h) hE (by exact Jaa rfl) rfl ?_; refine Jco 6 rfl (by kernel_rfl) (by kernel_rfl) (by kernel_rfl) (fun _ _ _ h => h) hE (by exact Jar Us.h Sz.h rfl rfl (by omega)) rfl ?_; refine Jco 7 rfl (by kernel_rfl) (by kernel_rfl) (by kernel_rfl) (fun _ _ _ h => h) hE (by exact Pu_loadAgg (cs := entC l[k]) Us.h rfl Sz.h rfl (agg_at hc2)) rfl ?_)
    refine TA_one 8 (by kernel_rfl) rfl ?_
    refine TL_call rfl en168 (eqEntry_c _ _) rfl rfl ?_
    rintro _ w4 ⟨rfl, e4⟩
    replace hE := hE.ext e4
    refine Jbq (TN_any hE ?_)
    (refine Jco 9 rfl (by kernel_rfl) (by kernel_rfl) (by kernel_rfl) (fun _ _ _ h => h) hE (by exact Jaj rfl) rfl ?_)
    refine TA_done (by kernel_rfl) ?_
    repeat' (first | apply Jbq | apply Jbr | apply Jbt | apply Jbx | apply Jbz | (refine Jcf rfl ?_) | (apply Jcg; (first | exact Jaa rfl | exact Jab rfl | exact Jaf rfl rfl (by omega)); exact rfl))
    exact TN_round (k + 1) (subEnv_cons rfl (subEnv_cons rfl (subEnv_cons rfl (subEnv_nil _)))) ⟨hlt, e2.ext hE⟩ (by omega)
  · obtain rfl : k = l.length := by omega
    repeat' (first | apply Jbq | apply Jbr | apply Jbs | apply Jbt | apply Jbu | apply Jca | apply Jcb | apply Jcc | (apply Jcg; exact Jab rfl; exact rfl))
    exact TR_of (res1 rfl rfl) ⟨rfl, e2⟩
end Go.Proofs.YtggaghghclomkaaGreat

/- Contracts of the laws' own helpers on lists of entries: marks. -/
namespace Go.Proofs.YtggaghghclomkaaGreat
open Go.RowKit
attribute [local irreducible] TL TC TN TX TR TQ TA Pu Ret

/-- The marks of entries. -/
def mkE (k : Int) (n : Nat) : List Ent := (List.range n).map fun (i : Nat) => (k + 2 * (i : Int), markT (k + 2 * (i : Int) + 1).toNat)
@[simp] theorem mkE_length (k : Int) (n : Nat) : (mkE k n).length = n := by simp [mkE]
theorem mkE_get (k : Int) (n i : Nat) (h : i < (mkE k n).length) : (mkE k n)[i] = (k + 2 * (i : Int), markT (k + 2 * (i : Int) + 1).toNat) := by simp [mkE]
def ME (w : World) (lo hi : Nat) (v : Value) (k : Int) (l : List Ent) : Prop := OE w lo hi v (mkE k l.length)
theorem ME.ch {w w' : World} {lo hi : Nat} {v : Value} {l : List Ent} {k : Int} {T : Nat → Prop} (h : ME w lo hi v k l) (c : Ch T w w') (hd : ∀ k, lo ≤ k → k < hi → ¬ T k) : ME w' lo hi v k l := OE.ch h c hd
theorem ME.ext {w w' : World} {lo hi : Nat} {v : Value} {l : List Ent} {k : Int} (h : ME w lo hi v k l) (c : Ext w w') : ME w' lo hi v k l := OE.ext h c
theorem add_lit2 (g a b : Nat) : ((⟨g, 0, none⟩ : Addr).add a).add b = ⟨g, a + b, none⟩ := by rw [add_of_add, add0]
set_option maxHeartbeats 1000000 in
theorem markEntryS_c {lo hi n c : Nat} {A : Option Addr} {xs : List Value} {k : Int} {w : World} (ho : Own w lo hi 82 2 A n c xs) (hl : n ≤ 1099511627776) (hk0 : 0 ≤ k) (hk1 : k ≤ 1099511627776) :
    Ret Tryz.prog 126 #[.slice A n c, I k] w fun v w' => v = I (k + 2 * n) ∧ Ch (fun j => Iv lo hi j) w w' ∧ w.heap.size ≤ w'.heap.size ∧ Own w' lo hi 82 2 A n c (ents (mkE k n)) := by
  have hlen := ho.len
  have hel : (ents (mkE k n)).length = n * 2 := by rw [ents_length, mkE_length]
  have hhi := ho.hi_le
  refine Ret_enter Tryz.func126 rfl rfl rfl ?_
  repeat' (first | apply Jbq | apply Jbr | apply Jbs | apply Jbt | apply Jby | (apply Jcg; exact Jab rfl; exact rfl))
  refine TC_loop (ι := Nat) (fun i => [(0, .slice A n c), (1, I (k + 2 * (i : Int))), (5, I i)]) (fun i w' => i ≤ n ∧ Ch (fun j => Iv lo hi j) w w' ∧ Own w' lo hi 82 2 A n c (overTo (ents (mkE k n)) xs (i * 2))) (fun i => n - i) 0
    (subEnv_cons rfl (subEnv_cons (congrArg (fun z => some (I z)) (by omega)) (subEnv_cons rfl (subEnv_nil _)))) ⟨Nat.zero_le _, Ch.refl _ _, by rw [Nat.zero_mul, overTo_zero]; exact ho⟩ ?_
  intro i w2 ⟨hi2, c2, ho2⟩
  repeat' (first | apply Jbq | apply Jbr | apply Jbs | apply Jbt | (apply Jcg; (first | exact Jaa rfl | exact Jac Us.h rfl | exact Jad rfl rfl); exact rfl))
  refine Jcx rfl (fun hlt => ?_) (fun hge => ?_)
  · have hlt : i < n := by omega
    rcases ho2.head with rfl | ⟨g, rfl, hg1, hg2⟩
    · obtain ⟨ad, h, _⟩ := ho2.rd.at_ (by omega)
      cases h
    · have hcell0 : (ents (mkE k n))[i * 2 + 0]? = some (I (k + 2 * (i : Int))) := by unfold ents; rw [cellsL_at entC_len (mkE k n) i 0 (by simpa using hlt) (by omega), mkE_get]; rfl
      have hcell1 : (ents (mkE k n))[i * 2 + 1]? = some (S (markT (k + 2 * (i : Int) + 1).toNat)) := by unfold ents; rw [cellsL_at entC_len (mkE k n) i 1 (by simpa using hlt) (by omega), mkE_get]; rfl
      rw [Nat.add_zero] at hcell0
      repeat' (first | apply Jbr | apply Jbs | apply Jbt | apply Jby | apply Jbz | (apply Jcg; (first | exact Jaa rfl | exact Jar Us.h Sz.h rfl rfl (by omega) | (apply Jbl; exact Us.h; exact rfl; exact Sz.h; exact rfl)); exact rfl))
      refine TL_storeOwn rfl (add_lit2 g (i * 2) 0) rfl Sz.h rfl ho2 (by omega) ?_
      intro w3 c3 hz3 ho3
      rw [Nat.add_zero, show I (k + 2 * (i : Int)) = (ents (mkE k n)).getD (i * 2) undef from by rw [List.getD_eq_getElem?_getD, hcell0]; rfl, overTo_set _ _ _ (by omega) (by omega)] at ho3
      repeat' (first | apply Jbq | apply Jbr | apply Jbs | apply Jbt | (apply Jcg; (first | exact Jaa rfl | exact Jab rfl | exact Jaf rfl rfl (by omega)); exact rfl))
      obtain ⟨m, hm⟩ : ∃ m : Nat, k + 2 * (i : Int) + 1 = (m : Int) := ⟨(k + 2 * (i : Int) + 1).toNat, by omega⟩
      rw [hm]
      refine TL_call rfl en98 (markText_c m _ (by omega) (by omega)) rfl rfl ?_
      rintro _ w4 ⟨rfl, e4⟩
      repeat' ((apply Jcg; (first | exact Jar Us.h Sz.h rfl rfl (by omega) | (apply Jbl; exact Us.h; exact rfl; exact Sz.h; exact rfl)); exact rfl))
      refine TL_storeOwn rfl (add_lit2 g (i * 2) 1) rfl Sz.h rfl (ho3.ext e4) (by omega) ?_
      intro w5 c5 hz5 ho5
      rw [show S (markT m) = (ents (mkE k n)).getD (i * 2 + 1) undef from by rw [List.getD_eq_getElem?_getD, hcell1, hm]; rfl, overTo_set _ _ _ (by omega) (by omega)] at ho5
      have c3' : Ch (fun j => Iv lo hi j) w2 w3 := c3.mono (fun j hj => by simp only [Iv] at *; omega)
      have c5' : Ch (fun j => Iv lo hi j) w4 w5 := c5.mono (fun j hj => by simp only [Iv] at *; omega)
      have e4' : Ch (fun j => Iv lo hi j) w3 w4 := e4.mono (fun j hj => by cases hj)
      repeat' (first | apply Jbq | apply Jbr | apply Jbt | apply Jbx | (apply Jcg; (first | exact Jaa rfl | exact Jab rfl | exact Jaf rfl rfl (by omega)); exact rfl))
      exact TN_round (i + 1) (subEnv_cons rfl (subEnv_cons (congrArg (fun z => some (I z)) (by omega)) (subEnv_cons rfl (subEnv_nil _)))) ⟨hlt, ((c2.then c3').then e4').then c5', by rw [Nat.succ_mul]; exact ho5⟩ (by omega)
  · obtain rfl : i = n := by omega
    rw [show i * 2 = xs.length from hlen.symm, overTo_all _ _ (by omega)] at ho2
    repeat' (first | apply Jbq | apply Jbr | apply Jbs | apply Jbt | apply Jbu | apply Jca | apply Jcb | apply Jcc | (apply Jcg; (first | exact Jaa rfl | exact Jab rfl); exact rfl))
    exact TR_of (res1 rfl rfl) ⟨rfl, c2, c2.size, ho2⟩
set_option maxHeartbeats 1000000 in
theorem heldEntryS_c {lo hi n c : Nat} {A : Option Addr} {k : Int} {w : World} (hr : Rd w lo hi 2 A n (ents (mkE k n))) (hl : n ≤ 1099511627776) (hk0 : 0 ≤ k) (hk1 : k ≤ 1099511627776) :
    Ret Tryz.prog 127 #[.slice A n c, I k] w fun v w' => v = I (k + 2 * n) ∧ Ext w w' := by
  refine Ret_enter Tryz.func127 rfl rfl rfl ?_
  repeat' (first | apply Jbq | apply Jbr | apply Jbs | apply Jbt | apply Jby | (apply Jcg; exact Jab rfl; exact rfl))
  refine TC_loop (ι := Nat) (fun i => [(0, .slice A n c), (1, I (k + 2 * (i : Int))), (5, I i)]) (fun i w' => i ≤ n ∧ Ext w w') (fun i => n - i) 0
    (subEnv_cons rfl (subEnv_cons (congrArg (fun z => some (I z)) (by omega)) (subEnv_cons rfl (subEnv_nil _)))) ⟨Nat.zero_le _, Ch.refl _ _⟩ ?_
  intro i w2 ⟨hi2, e2⟩
  repeat' (first | apply Jbq | apply Jbr | apply Jbs | apply Jbt | (apply Jcg; (first | exact Jaa rfl | exact Jac Us.h rfl | exact Jad rfl rfl); exact rfl))
  refine Jcx rfl (fun hlt => ?_) (fun hge => ?_)
  · have hlt : i < n := by omega
    have hr' : Rd w2 lo hi 2 A (mkE k n).length (ents (mkE k n)) := by rw [mkE_length]; exact hr.ext e2
    obtain ⟨ad, rfl, hc⟩ := Rd.elem entC_len hr' (k := i) (by simpa using hlt)
    rw [mkE_get] at hc
    have h0 := hc 0 _ rfl
    have h1 := hc 1 _ rfl
    obtain ⟨m, hm⟩ : ∃ m : Nat, k + 2 * (i : Int) + 1 = (m : Int) := ⟨(k + 2 * (i : Int) + 1).toNat, by omega⟩
    rw [hm, Int.toNat_natCast] at h1
    repeat' (first | apply Jbq | apply Jbr | apply Jbs | apply Jbt | apply Jby | apply Jbz | (apply Jcg; (first | exact Jaa rfl | exact Jal rfl rfl | exact Jar Us.h Sz.h rfl rfl (by omega) | (apply Jbl; exact Us.h; exact rfl; exact Sz.h; exact rfl)); exact rfl) | refine Jcg (Pu_load Fl.h rfl (fun _ e => by rw [e]; exact h0)) rfl ?_)
    refine Jcf (by rw [show (!decide (k + 2 * (i : Int) = k + 2 * (i : Int))) = false from by simp]; rfl) ?_
    repeat' (first | apply Jbq | apply Jbr | apply Jbs | apply Jbt | apply Jbz | (apply Jcg; (first | exact Jaa rfl | exact Jab rfl | exact Jaf rfl rfl (by omega)); exact rfl))
    rw [hm]
    refine TC_any mixed rfl ?_
    intro w3 hE hz3
    (refine Jco 0 rfl (by kernel_rfl) (by kernel_rfl) (by kernel_rfl) (fun _ _ _ h => h) hE (by exact Jaa rfl) rfl ?_; refine Jco 1 rfl (by kernel_rfl) (by kernel_rfl) (by kernel_rfl) (fun _ _ _ h => h) hE (by exact Jaa rfl) rfl ?_; refine Jco 2 rfl (by kernel_rfl) (by kernel_rfl) (by kernel_rfl) (fun _ _ _ h => h) hE (by exact Jar Us.h Sz.h rfl rfl (by omega)) rfl ?_; refine Jco 3 rfl (by kernel_rfl) (by kernel_rfl) (by kernel_rfl) (fun _ _ _ h => h) hE (by (apply Jbl; exact Us.h; exact rfl; exact Sz.h; exact rfl)) rfl ?_; refine Jco 4 rfl (by kernel_rfl) (by kernel_rfl) (by kernel_rfl) (fun _ _ _ h => h) hE (by exact Pu_load Fl.h rfl (fun _ e => Ext.cell e h1)) rfl ?_; refine Jco 5 rfl (by kernel_rfl) (by kernel_rfl) (by kernel_rfl) (fun _ _ _ h => h) hE (by exact Jaa rfl) rfl ?_)
    refine TA_one 6 (by kernel_rfl) rfl ?_
    refine TL_call rfl en98 (markText_c m _ (by omega) (by omega)) rfl rfl ?_
    rintro _ w4 ⟨rfl, e4⟩
    replace hE := hE.ext e4
    refine Jbq (TN_any hE ?_)
    refine Jco 7 rfl (by kernel_rfl) (by kernel_rfl) (by kernel_rfl) (fun _ _ _ h => h) hE (Jbo rfl rfl) rfl ?_
    refine TA_done (by kernel_rfl) ?_
    repeat' (first | apply Jbq | apply Jbr | apply Jbt | apply Jbx | apply Jbz | (refine Jcf rfl ?_) | (apply Jcg; (first | exact Jaa rfl | exact Jab rfl | exact Jaf rfl rfl (by omega)); exact rfl))
    exact TN_round (i + 1) (subEnv_cons rfl (subEnv_cons (congrArg (fun z => some (I z)) (by omega)) (subEnv_cons rfl (subEnv_nil _)))) ⟨hlt, e2.ext hE⟩ (by omega)
  · obtain rfl : i = n := by omega
    repeat' (first | apply Jbq | apply Jbr | apply Jbs | apply Jbt | apply Jbu | apply Jca | apply Jcb | apply Jcc | (apply Jcg; (first | exact Jaa rfl | exact Jab rfl); exact rfl))
    exact TR_of (res1 rfl rfl) ⟨rfl, e2⟩
end Go.Proofs.YtggaghghclomkaaGreat

/- The laws' helpers on lists of entries, in the words of lists. No condition. -/
namespace Go.Proofs.YtggaghghclomkaaGreat
open Go.RowKit
attribute [local irreducible] TL TC TN TX TR TQ TA Pu Ret
theorem eqE_k {w : World} {lo hi lo2 hi2 : Nat} {v v2 : Value} {l : List Ent} (h : RE w lo hi v l) (h2 : RE w lo2 hi2 v2 l) (hl : l.length ≤ 1099511627776) : Ret Tryz.prog 125 #[v, v2] w fun v' w' => v' = .bool true ∧ Ext w w' := by
  obtain ⟨A, c, rfl, _, hr⟩ := h
  obtain ⟨A2, c2, rfl, _, hr2⟩ := h2
  exact eqEntryS_c hr hr2 hl
theorem markE_k {w : World} {lo hi : Nat} {v : Value} {l : List Ent} {k : Int} (h : OE w lo hi v l) (hl : l.length ≤ 1099511627776) (hk0 : 0 ≤ k) (hk1 : k ≤ 1099511627776) :
    Ret Tryz.prog 126 #[v, I k] w fun v' w' => v' = I (k + 2 * l.length) ∧ Ch (Iv lo hi) w w' ∧ w.heap.size ≤ w'.heap.size ∧ ME w' lo hi v k l := by
  obtain ⟨A, c, rfl, ho⟩ := h
  exact (markEntryS_c ho hl hk0 hk1).mono fun v' w' ⟨hv, e, hz, ho'⟩ => ⟨hv, e, hz, A, c, by rw [mkE_length], by rw [mkE_length]; exact ho'⟩
theorem heldE_k {w : World} {lo hi : Nat} {v : Value} {l : List Ent} {k : Int} (h : ME w lo hi v k l) (hl : l.length ≤ 1099511627776) (hk0 : 0 ≤ k) (hk1 : k ≤ 1099511627776) :
    Ret Tryz.prog 127 #[v, I k] w fun v' w' => v' = I (k + 2 * l.length) ∧ Ext w w' := by
  obtain ⟨A, c, hv, ho⟩ := h
  rw [mkE_length] at hv ho
  subst hv
  exact heldEntryS_c ho.rd hl hk0 hk1
end Go.Proofs.YtggaghghclomkaaGreat

/- Lists of entries: the plain law. No condition. -/
namespace Go.Proofs.YtggaghghclomkaaGreat
open Go.RowKit
theorem pEntry_iff {e : Int × List UInt8} : pEntry e.1 e.2 = true ↔ 1 ≤ e.1 ∧ e.1 ≤ 1000000000 ∧ 1 ≤ (e.2.length : Int) ∧ (e.2.length : Int) ≤ 1000 := by
  simp [pEntry]; omega
/-! entries -/
def entsOkTo (l : List (Int × List UInt8)) (k : Nat) : Prop := (∀ i, (h : i < l.length) → i < k → pEntry l[i].1 l[i].2 = true) ∧ ∀ i, (h : i + 1 < l.length) → i + 1 < k → l[i].1 + 1 = l[i + 1].1
noncomputable def pEntries (l : List (Int × List UInt8)) : Bool := by classical exact decide (entsOkTo l l.length)
theorem pEntries_iff {l : List (Int × List UInt8)} : pEntries l = true ↔ entsOkTo l l.length := by simp [pEntries]
theorem pEntries_not {l : List (Int × List UInt8)} (h : ¬ entsOkTo l l.length) : pEntries l = false := by simp [pEntries, h]
theorem entsOkTo_zero (l : List (Int × List UInt8)) : entsOkTo l 0 := ⟨fun i _ h => by omega, fun i _ h => by omega⟩
theorem entsOkTo_succ {l : List (Int × List UInt8)} {k : Nat} (h : entsOkTo l k) (hk : k < l.length) (h1 : pEntry l[k].1 l[k].2 = true) (h2 : ∀ (_ : 0 < k), l[k - 1].1 + 1 = l[k].1) : entsOkTo l (k + 1) := by
  refine ⟨fun i hi hik => ?_, fun i hi hik => ?_⟩
  · by_cases e : i = k
    · subst e; exact h1
    · exact h.1 i hi (by omega)
  · by_cases e : i + 1 = k
    · subst e; exact h2 (by omega)
    · exact h.2 i hi (by omega)
end Go.Proofs.YtggaghghclomkaaGreat

/- Records: the plain law. No condition. -/
namespace Go.Proofs.YtggaghghclomkaaGreat
open Go.RowKit

def headF (e : Int × List UInt8) : List UInt8 := putR e.2.length 2 ++ putR e.1 4
theorem headF_length (e : Int × List UInt8) : (headF e).length = 6 := by simp [headF]
def frame (e : Int × List UInt8) : List UInt8 := headF e ++ putR (crc (headF e ++ e.2)) 4 ++ e.2
theorem frame_length (e : Int × List UInt8) : (frame e).length = 10 + e.2.length := by simp [frame, headF_length]; omega
def pFrame (e : Int × List UInt8) : List UInt8 × Bool := if pEntry e.1 e.2 = true then (frame e, true) else ([], false)
def noE : Int × List UInt8 := (0, [])
/-- The text of the record at a. -/
def textAt (b : List UInt8) (a n : Nat) : List UInt8 := (b.drop (a + 10)).take n
def pReadF (b : List UInt8) (i : Int) : (Int × List UInt8) × Int × Int :=
  if i < 0 ∨ b.length < i then (noE, 0, 1) else
  let a := i.toNat
  if b.length < a + 10 then (noE, 0, 2) else
  let n := getF b a 2
  if n < 1 ∨ 1000 < n then (noE, 0, 3) else
  if (b.length : Int) < a + 10 + n then (noE, 0, 4) else
  let num := getF b (a + 2) 4
  if num < 1 ∨ 1000000000 < num then (noE, 0, 5) else
  if getF b (a + 6) 4 ≠ crc ((b.drop a).take 6 ++ textAt b a n.toNat) then (noE, 0, 6) else
  ((num, textAt b a n.toNat), i + 10 + n, 0)
theorem cut3 (b : List UInt8) (a p q : Nat) : (b.drop a).take (p + q) = (b.drop a).take p ++ (b.drop (a + p)).take q := by
  rw [List.take_add, List.drop_drop]
/-- The bytes of the record read at a are the record's just if the sum is right. -/
theorem frame_is {b : List UInt8} {a n : Nat} (h : a + 10 + n ≤ b.length) (hn : getF b a 2 = n) :
    (frame (getF b (a + 2) 4, textAt b a n) = (b.drop a).take (10 + n)) ↔ getF b (a + 6) 4 = crc ((b.drop a).take 6 ++ textAt b a n) := by
  have ht : (textAt b a n).length = n := by unfold textAt; rw [List.length_take, List.length_drop]; omega
  have e1 : (b.drop a).take (10 + n) = (b.drop a).take 2 ++ (b.drop (a + 2)).take 4 ++ (b.drop (a + 6)).take 4 ++ textAt b a n := by
    rw [cut3, show 10 = 6 + 4 from rfl, cut3, show (6 : Nat) = 2 + 4 from rfl, cut3]; rfl
  have e2 : (b.drop a).take 6 = (b.drop a).take 2 ++ (b.drop (a + 2)).take 4 := cut3 b a 2 4
  have hh : headF (getF b (a + 2) 4, textAt b a n) = (b.drop a).take 6 := by
    unfold headF
    simp only [ht]
    rw [e2, ← hn, getF_putR (by omega), getF_putR (by omega)]
  have hf : frame (getF b (a + 2) 4, textAt b a n) = (b.drop a).take 6 ++ putR (crc ((b.drop a).take 6 ++ textAt b a n)) 4 ++ textAt b a n := by unfold frame; rw [hh]
  rw [hf, e1, ← e2]
  have hc := crc_lt ((b.drop a).take 6 ++ textAt b a n)
  constructor
  · intro h2
    have h3 := List.append_cancel_right h2
    have h4 := List.append_cancel_left h3
    rw [getF_val b _ 4 (by omega), ← h4, val_putR 4 (by omega) (by omega)]
  · intro h2
    rw [← h2, getF_putR (by omega)]
end Go.Proofs.YtggaghghclomkaaGreat
