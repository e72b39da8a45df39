/- Contracts: the nodes that a directory links. -/
import Derived.Test.YtggaghghclomkaaGreatDirK
import Derived.Test.YtggaghghclomkaaGreatCopyD
namespace Go.Proofs.YtggaghghclomkaaGreat
open Go.RowKit
/-- A node's contents are slices. -/
def SlN (d : Nd) : Prop := (∃ A m c, d.vb = .slice A m c) ∧ ∃ A m c, d.vs = .slice A m c
theorem NdOk.sl {w : World} {lo hi : Nat} {d : Nd} (h : NdOk w lo hi d) : SlN d := by
  obtain ⟨⟨A, c, h1, _⟩, ⟨A', c', h2, _⟩⟩ := h
  exact ⟨⟨A, _, c, h1⟩, ⟨A', _, c', h2⟩⟩
theorem SlN.one {d : Nd} (h : SlN d) : ∀ u ∈ NdC d, u.oneCell' = true := by
  obtain ⟨⟨A, m, c, h1⟩, ⟨A', m', c', h2⟩⟩ := h
  intro u hu
  simp [NdC] at hu
  rcases hu with rfl | rfl | rfl
  · rfl
  · rw [h1]; rfl
  · rw [h2]; rfl
theorem nd_new {w1 : World} {g n : Nat} {d : Nd} {e : TypeId} {w : World} {us : List Value} (h : Own w1 g (g + 1) e 3 (some ⟨g, 0, none⟩) n n us) (hu : us = NdC d) (hn : n = 1) (hg : g = w.heap.size) (hz : w1.heap.size = g + 1) : RowO NdC e 3 w1 w.heap.size w1.heap.size (.slice (some ⟨g, 0, none⟩) n n) [d] :=
  RowO.new (by rw [hn]; rfl) (by rw [show cellsL NdC [d] = NdC d by simp [cellsL], ← hu]; exact h) hg hz
section
variable {α : Type} {f : α → List Value} {e : TypeId} {P : Program} {L : List Oper} {Q : Exit → Act → World → Prop} {n d : Nat} {l : Env} {w : World} {rest : List Oper} {ty : TypeId} {pos : String} {af : Array Edge} {v v2 : Value} {x y : Operand} {t : TypeId}
/-- Own records are appended to, by records of one cell each field. -/
theorem TL_appendRow1 {lo hi lo2 hi2 size bytes : Nat} {z : Value} {s s2 : List α} (ht : P.underlying t = some (.slice e)) (hi0 : (P.info? e).map (fun i => (i.zero, i.size, i.bytes)) = some (some z, size, bytes)) (hzs : z.cells.size = size) (hpos : Nat.blt 0 size = true) (hby : Nat.ble bytes 1024 = true)
    (hone : ∀ u ∈ cellsL f s2, u.oneCell' = true) (hx : ev l x = some v) (hy : ev l y = some v2) (ho : RowO f e size w lo hi v s) (hr : RowR f size w lo2 hi2 v2 s2)
    (hlo : lo ≤ w.heap.size) (hm : s.length + s2.length ≤ 1073741824) (hn : Nat.blt d n = true)
    (h : ∀ w' v', Ch (Iv lo hi) w w' → RowO f e size w' lo w'.heap.size v' (s ++ s2) → TL P L Q rest n ((d, v') :: l) w') :
    TL P L Q (⟨some d, .call { callee := .builtin .append, args := #[x, y], argTypes := #[t, t] }, ty, pos, af, none⟩ :: rest) n l w := by
  obtain ⟨A, c, rfl, ho⟩ := ho
  obtain ⟨A2, c2, rfl, _, hr⟩ := hr
  have hb : (s.length + s2.length) * bytes ≤ 140737488355328 := Nat.le_trans (Nat.mul_le_mul hm (Nat.le_of_ble_eq_true hby)) (by decide)
  refine TL_append ht hi0 hzs hpos hx hy ho hr hone hlo hb (by omega) hn ?_
  intro w1 hi1 A1 c1 hch h1 h2 h3 hown
  have hz := hch.size
  have hh := ho.hi_le
  exact h w1 _ hch ⟨A1, c1, by rw [List.length_append], (hown.wide (Nat.le_refl _) (by omega) (Nat.le_refl _)).cast (by rw [List.length_append]) (cellsL_append _ _).symm⟩
end
/-- The nodes whose numbers are in s. -/
def only (ds : List Nd) (s : List Int) : List Nd := ds.filter fun x => decide (x.id ∈ s)
def onlyP (l : List NodeP) (s : List Int) : List NodeP := l.filter fun p => decide (p.1 ∈ s)
theorem only_map (ds : List Nd) (s : List Int) : (only ds s).map NdP = onlyP (ds.map NdP) s := by
  unfold only onlyP
  rw [List.filter_map]
  rfl
theorem only_take (ds : List Nd) (s : List Int) (k : Nat) (h : k < ds.length) : only (ds.take (k + 1)) s = if ds[k].id ∈ s then only (ds.take k) s ++ [ds[k]] else only (ds.take k) s := by
  unfold only
  rw [List.take_succ_eq_append_getElem h, List.filter_append]
  by_cases e : ds[k].id ∈ s <;> simp [e]
theorem only_length (ds : List Nd) (s : List Int) : (only ds s).length ≤ ds.length := List.length_filter_le _ _
theorem only_mem {ds : List Nd} {s : List Int} {x : Nd} (h : x ∈ only ds s) : x ∈ ds := (List.mem_filter.1 h).1
attribute [local irreducible] TL TC TN TX TR TQ TA Pu Ret
set_option maxRecDepth 100000 in
set_option maxHeartbeats 4000000 in
theorem only_c {w : World} {g lo hi lo2 hi2 c : Nat} {A : Option Addr} {d : DiskP} {ds : List Nd} {sk st vk : Value} {L : List LkD} (hb : Blk w g 33 (dskC d (.slice A ds.length c) sk st)) (hr : Rd w lo hi 3 A ds.length (cellsL NdC ds)) (hsl : ∀ x ∈ ds, SlN x)
    (hk : RowR LkC 2 w lo2 hi2 vk L) (hL : L.length ≤ 1000) (hn : ds.length ≤ 1000) (hid : ∀ x ∈ L, -9223372036854775808 ≤ x.id ∧ x.id ≤ 9223372036854775807) (hid2 : ∀ x ∈ ds, -9223372036854775808 ≤ x.id ∧ x.id ≤ 9223372036854775807) :
    Ret Tryz.prog 68 #[.pointer (some ⟨g, 0, none⟩), vk] w fun v w' => v = .tuple #[] ∧ Ch (Iv g (g + 1)) w w' ∧ ∃ vn, Blk w' g 33 (dskC d vn vk (.slice none 0 0)) ∧ RowO NdC 98 3 w' w.heap.size w'.heap.size vn (only ds (L.map (·.id))) := by
  obtain ⟨Ak, ck, rfl, hck, hrk⟩ := hk
  have hgl := hb.lt
  refine Ret_enter Tryz.func68 rfl rfl rfl ?_
  repeat' (first | apply Jbs | apply Jbt)
  refine TL_makeMap rfl ?_
  intro w1 e1 hz1 _ hM1
  obtain ⟨b, hbb⟩ : ∃ b, b = w.heap.size := ⟨_, rfl⟩
  rw [← hbb] at hM1 ⊢
  repeat' (first | apply Jbq | apply Jbr | apply Jbs | apply Jbt | apply Jby | (apply Jcg; (first | exact Jaa rfl | exact Jab rfl | exact Jac Us.h rfl); exact rfl))
  refine TC_loop (ι := Nat) (fun k => [(0, .pointer (some ⟨g, 0, none⟩)), (1, .slice Ak L.length ck), (4, .map (some b)), (11, .slice Ak L.length ck), (12, I L.length), (13, I k)]) (fun k w' => k ≤ L.length ∧ Ext w w' ∧ MS w' b k ((L.take k).map (·.id))) (fun k => L.length - k) 0 (subEnv_cons rfl (subEnv_cons rfl (subEnv_cons rfl (subEnv_cons rfl (subEnv_cons rfl (subEnv_cons rfl (subEnv_nil _))))))) ⟨Nat.zero_le _, e1, hM1⟩ ?_
  intro k w2 ⟨hk2, e2, hM2⟩
  have hbl := World.ownsMap.lt hM2
  repeat' (first | apply Jbq | apply Jbr | apply Jbs | apply Jbt | (apply Jcg; exact Jad rfl rfl; exact rfl))
  refine Jcx rfl (fun hlt0 => ?_) (fun hge => ?_)
  · have hlt : k < L.length := by omega
    obtain ⟨ad, rfl, hcell⟩ := Rd.elem LkC_len (hrk.ext e2) hlt
    repeat' (first | apply Jbq | apply Jbr | apply Jbs | apply Jbt | apply Jby | apply Jbz | (apply Jcg; (first | exact Jaa rfl | exact Jar Us.h Sz.h rfl rfl (by omega) | (apply Jbl; exact Us.h; exact rfl; exact Sz.h; exact rfl)); exact rfl) | refine Jcg (Pu_loadAgg (cs := LkC L[k]) Us.h rfl Sz.h rfl (fun _ e j u hu => by rw [e]; exact hcell j u hu)) rfl ?_ | (refine TL_alloc Zs.h rfl rfl ?_; intro w3 g3 e3 hg3 hz3 hb3) | (refine TL_storeAgg rfl rfl Sz.h rfl hb3 rfl ?_; intro w4 c4 hz4 hb4) | refine Jcg (Pu_load Fl.h rfl (fun _ e => by rw [e]; exact hb4.ld rfl)) rfl ?_)
    have hM4 := (hM2.ext e3).ch c4 (by simp only [Iv]; omega)
    refine TL_setPut rfl rfl rfl hM4 (hid _ (List.getElem_mem hlt)) (by omega) ?_
    intro w5 c5 hz5 hM5
    repeat' (first | apply Jbq | apply Jbr | apply Jbt | apply Jbx | (apply Jcg; (first | exact Jaa rfl | exact Jaf rfl rfl (by omega)); exact rfl))
    exact TN_round (k + 1) (subEnv_cons rfl (subEnv_cons rfl (subEnv_cons rfl (subEnv_cons rfl (subEnv_cons rfl (subEnv_cons rfl (subEnv_nil _))))))) ⟨hlt, Ext.then_iv (Ext.then_iv (e2.ext e3) c4 (by have := e2.size; omega)) c5 (by omega), by rw [List.take_succ_eq_append_getElem hlt, List.map_append]; exact hM5⟩ (by omega)
  · obtain rfl : k = L.length := by omega
    rw [List.take_length] at hM2
    have hb2 := hb.ext e2
    have hs2 := e2.size
    repeat' (first | apply Jbq | apply Jbr | apply Jbs | apply Jbt | apply Jby | apply Jca | apply Jcb | apply Jcc | (apply Jcg; (first | exact Jaa rfl | exact Jab rfl | exact Jac Us.h rfl | exact Jba rfl | (apply Jbl; exact Us.h; exact rfl; exact Sz.h; exact rfl)); exact rfl) | refine Jcg (Pu_load Fl.h rfl (fun _ e => by rw [e]; exact hb2.ld rfl)) rfl ?_)
    obtain ⟨z2, hz2⟩ : ∃ z, z = w2.heap.size := ⟨_, rfl⟩
    refine TC_loop (ι := Nat × Value) (fun x => [(0, .pointer (some ⟨g, 0, none⟩)), (1, .slice Ak L.length ck), (4, .map (some b)), (7, x.2), (24, .slice A ds.length c), (25, I ds.length), (26, I x.1)])
      (fun x w' => x.1 ≤ ds.length ∧ Ext w w' ∧ MS w' b L.length (L.map (·.id)) ∧ z2 ≤ w'.heap.size ∧ RowO NdC 98 3 w' z2 w'.heap.size x.2 (only (ds.take x.1) (L.map (·.id)))) (fun x => ds.length - x.1) (0, .slice none 0 0) (subEnv_cons rfl (subEnv_cons rfl (subEnv_cons rfl (subEnv_cons rfl (subEnv_cons rfl (subEnv_cons rfl (subEnv_cons rfl (subEnv_nil _)))))))) ⟨Nat.zero_le _, e2, hM2, by omega, by rw [hz2]; exact RowO.nil _ _ (Nat.le_refl _)⟩ ?_
    rintro ⟨k, vo⟩ w3 ⟨hk3, e3, hM3, hz3, ho3⟩
    simp only at hk3 ho3
    show TC _ _ _ _ [(0, .pointer (some ⟨g, 0, none⟩)), (1, .slice Ak L.length ck), (4, .map (some b)), (7, vo), (24, .slice A ds.length c), (25, I ds.length), (26, I (k : Int))] w3
    have hs3 := e3.size
    repeat' (first | apply Jbq | apply Jbr | apply Jbs | apply Jbt | (apply Jcg; exact Jad rfl rfl; exact rfl))
    refine Jcx rfl (fun hlt0 => ?_) (fun hge => ?_)
    · have hlt : k < ds.length := by omega
      obtain ⟨ad, rfl, hcell⟩ := Rd.elem NdC_len (hr.ext e3) hlt
      have hmem := List.getElem_mem hlt
      have hsx := hsl _ hmem
      have hix := hid2 _ hmem
      have htk := only_take ds (L.map (·.id)) k hlt
      have hol := only_length (ds.take k) (L.map (·.id))
      rw [List.length_take] at hol
      obtain ⟨x, hx⟩ : ∃ x, x = ds[k] := ⟨_, rfl⟩
      rw [← hx] at hcell hsx hix htk
      obtain ⟨id, body, safe, vb, vs⟩ := x
      obtain ⟨⟨A1, m1, c1, h1⟩, ⟨A2, m2, c2, h2⟩⟩ := hsx
      simp only at h1 h2 hix htk
      subst h1 h2
      replace hcell : ∀ j u, [I id, .slice A1 m1 c1, .slice A2 m2 c2][j]? = some u → w3.cell? ((ad.add (k * 3)).add j) = some u := hcell
      repeat' (first | apply Jbq | apply Jbr | apply Jbs | apply Jbt | apply Jby | apply Jbz | (apply Jcg; (first | exact Jaa rfl | exact Jar Us.h Sz.h rfl rfl (by omega) | (apply Jbl; exact Us.h; exact rfl; exact Sz.h; exact rfl)); exact rfl) | refine Jcg (Pu_loadAgg (cs := [I id, .slice A1 m1 c1, .slice A2 m2 c2]) Us.h rfl Sz.h rfl (fun _ e j u hu => by rw [e]; exact hcell j u hu)) rfl ?_ | (refine TL_alloc Zs.h rfl rfl ?_; intro w4 g4 e4 hg4 hz4 hb4) | (refine TL_storeAgg rfl rfl Sz.h rfl hb4 rfl ?_; intro w5 c5 hz5 hb5) | refine Jcg (Pu_load Fl.h rfl (fun _ e => by rw [e]; exact hb5.ld rfl)) rfl ?_)
      have hM5 := (hM3.ext e4).ch c5 (by simp only [Iv]; omega)
      have ho5 := (ho3.ext e4).ch c5 (by intro j _ _; simp only [Iv]; omega)
      have E5 : Ext w w5 := Ext.then_iv (e3.ext e4) c5 (by omega)
      repeat' (first | apply Jbq | apply Jbr | (apply Jcg; exact Jak rfl rfl; exact rfl) | refine Jcg (Pu_setLook rfl rfl hix (fun w' e => ⟨L.length, by rw [e]; exact hM5⟩)) rfl ?_)
      refine Jcx rfl (fun hc => ?_) (fun hc => ?_)
      · have hin : id ∈ L.map (·.id) := by
          by_cases h : id ∈ L.map (·.id)
          · exact h
          · rw [if_neg h] at hc; exact absurd hc (by decide)
        rw [if_pos hin] at htk
        repeat' (first | apply Jbt | (apply Jcg; exact Jaa rfl; exact rfl) | refine Jcg (Pu_loadAgg (cs := [I id, .slice A1 m1 c1, .slice A2 m2 c2]) Us.h rfl Sz.h rfl (fun _ e j u hu => by rw [e, add0, hb5.cell]; exact hu)) rfl ?_)
        refine TL_buildSlice Us.h Zi.h rfl rfl rfl rfl (fillN id A1 A2 m1 c1 m2 c2) rfl rfl ?_
        intro w6 g6 e6 hg6 hz6 hown6
        have hnew := nd_new (d := ⟨id, body, safe, .slice A1 m1 c1, .slice A2 m2 c2⟩) hown6 rfl rfl hg6 hz6
        skip
        refine TL_appendRow1 Us.h inf98 rfl rfl rfl (by intro u hu; simp [cellsL, NdC] at hu; rcases hu with rfl | rfl | rfl <;> rfl) rfl rfl (ho5.ext e6) hnew.rd (by omega) (by simp only [List.length_cons, List.length_nil]; omega) rfl ?_
        intro w7 v7 c7 ho7
        have hM7 := (hM5.ext e6).ch c7 (by simp only [Iv]; omega)
        have hs7 := c7.size
        repeat' (first | apply Jbq | apply Jbr | apply Jbt | apply Jbx | (apply Jcg; (first | exact Jaa rfl | exact Jab rfl | exact Jaf rfl rfl (by omega)); exact rfl))
        refine TN_round (k + 1, v7) (subEnv_cons rfl (subEnv_cons rfl (subEnv_cons rfl (subEnv_cons rfl (subEnv_cons rfl (subEnv_cons rfl (subEnv_cons rfl (subEnv_nil _)))))))) ⟨by simp only; omega, Ext.then_iv (E5.ext e6) c7 (by omega), hM7, by omega, ?_⟩ (by simp only; omega)
        simp only
        rw [htk]
        exact ho7
      · have hin : id ∉ L.map (·.id) := fun h => hc (by rw [if_pos h])
        rw [if_neg hin] at htk
        repeat' (first | apply Jbq | apply Jbr | apply Jbt | apply Jbx | apply Jbz | (apply Jcg; (first | exact Jaa rfl | exact Jaf rfl rfl (by omega)); exact rfl))
        refine TN_round (k + 1, vo) (subEnv_cons rfl (subEnv_cons rfl (subEnv_cons rfl (subEnv_cons rfl (subEnv_cons rfl (subEnv_cons rfl (subEnv_cons rfl (subEnv_nil _)))))))) ⟨by simp only; omega, E5, hM5, by omega, ?_⟩ (by simp only; omega)
        simp only
        rw [htk]
        exact ho5.wide (Nat.le_refl _) (by omega) (Nat.le_refl _)
    · obtain rfl : k = ds.length := by omega
      rw [List.take_length] at ho3
      have hb3 := hb.ext e3
      repeat' (first | apply Jbr | apply Jbt | apply Jca | apply Jcb | apply Jcc | (apply Jcg; (first | exact Jaa rfl | exact Jba rfl | (apply Jbl; exact Us.h; exact rfl; exact Sz.h; exact rfl)); exact rfl))
      refine TL_store rfl rfl Sz.h ho3.rd.one hb3 rfl ?_
      intro w4 c4 hz4 hb4
      repeat' ((apply Jcg; (first | exact Jba rfl | (apply Jbl; exact Us.h; exact rfl; exact Sz.h; exact rfl)); exact rfl))
      refine TL_store rfl rfl Sz.h rfl hb4 rfl ?_
      intro w5 c5 hz5 hb5
      repeat' ((apply Jcg; (first | exact Jba rfl | (apply Jbl; exact Us.h; exact rfl; exact Sz.h; exact rfl)); exact rfl))
      refine TL_store rfl rfl Sz.h rfl hb5 rfl ?_
      intro w6 c6 hz6 hb6
      repeat' (apply Jbq)
      refine TN_of (res0 rfl) ⟨rfl, (((Ch.mono e3 (fun _ t => t.elim)).then c4).then c5).then c6, vo, hb6, ?_⟩
      have ho6 := ((ho3.ch c4 (by intro j _ _; simp only [Iv]; omega)).ch c5 (by intro j _ _; simp only [Iv]; omega)).ch c6 (by intro j _ _; simp only [Iv]; omega)
      exact ho6.wide (by omega) (by omega) (Nat.le_refl _)
set_option maxRecDepth 100000 in
set_option maxHeartbeats 4000000 in
theorem l04Only_c {w : World} {lo hi lo2 hi2 c : Nat} {A : Option Addr} {d : DiskP} {ds : List Nd} {sk st : Value} (h : RDk w lo hi d (.slice A ds.length c) sk st) (hr : Rd w lo2 hi2 3 A ds.length (cellsL NdC ds)) (hsl : ∀ x ∈ ds, SlN x)
    (hk : d.kept.length ≤ 1000) (ht : d.turns.length ≤ 1000) (hn : ds.length ≤ 1000) :
    Ret Tryz.prog 60 #[.agg (dskC d (.slice A ds.length c) sk st).toArray] w fun v w' => ∃ vn, v = .agg (dskC d vn sk st).toArray ∧ Ext w w' ∧ RowO NdC 98 3 w' w.heap.size w'.heap.size vn (only ds (pIds d)) := by
  have hip : (pIds d).length ≤ 1048576 := by
    unfold pIds
    rw [List.length_append, List.length_map, List.length_map]
    have := List.length_filter_le (fun t => decide (t.kind = 1)) d.turns
    omega
  have hsk := h.2.1.row.one
  have hst := h.2.2.row.one
  refine Ret_enter Tryz.func60 rfl rfl rfl ?_
  repeat' (first | apply Jbs | apply Jbt)
  refine TL_box (cs := dskC d (.slice A ds.length c) sk st) rfl rfl ?_
  intro w1 g1 e1 hg1 hz1 hb1
  skip
  refine TL_alloc Zs.h rfl rfl ?_
  intro w2 g2 e2 hg2 hz2 hb2
  replace hb1 := hb1.ext e2
  have E2 : Ext w w2 := e1.ext e2
  repeat' (first | apply Jbq | apply Jbr | apply Jbs | apply Jbt)
  refine TL_buildSlice0 Us.h Sz.h rfl ?_
  intro w3 g3 e3 hg3 hz3 hown3
  have hb13 := hb1.ext e3
  repeat' (first | apply Jbq | apply Jbr | apply Jbs | apply Jbt | apply Jby | (apply Jcg; (first | exact Jaa rfl | exact Jab rfl | exact Jac Us.h rfl | (apply Jbl; exact Us.h; exact rfl; exact Sz.h; exact rfl)); exact rfl) | refine Jcg (Pu_load Fl.h rfl (fun _ e => by rw [e]; exact hb13.ld rfl)) rfl ?_)
  refine TC_loop (ι := Nat × Value) (fun x => [(1, .pointer (some ⟨g1, 0, none⟩)), (2, .pointer (some ⟨g2, 0, none⟩)), (3, x.2), (8, .slice A ds.length c), (9, I ds.length), (10, I x.1)])
    (fun x w' => x.1 ≤ ds.length ∧ Ext w2 w' ∧ RowO NdC 98 3 w' g3 w'.heap.size x.2 (only (ds.take x.1) (pIds d))) (fun x => ds.length - x.1) (0, .slice (some ⟨g3, 0, none⟩) 0 0) (subEnv_cons rfl (subEnv_cons rfl (subEnv_cons rfl (subEnv_cons rfl (subEnv_cons rfl (subEnv_cons rfl (subEnv_nil _))))))) ⟨Nat.zero_le _, e3, (RowO.new (l := []) rfl hown3 hg3 hz3).wide (by omega) (Nat.le_refl _) (Nat.le_refl _)⟩ ?_
  rintro ⟨k, vo⟩ w4 ⟨hk4, e4, ho4⟩
  simp only at hk4 ho4
  show TC _ _ _ _ [(1, .pointer (some ⟨g1, 0, none⟩)), (2, .pointer (some ⟨g2, 0, none⟩)), (3, vo), (8, .slice A ds.length c), (9, I ds.length), (10, I (k : Int))] w4
  have hs4 := e4.size
  have hb14 := hb1.ext e4
  have hb24 := hb2.ext e4
  repeat' (first | apply Jbq | apply Jbr | apply Jbs | apply Jbt | (apply Jcg; exact Jad rfl rfl; exact rfl))
  refine Jcx rfl (fun hlt0 => ?_) (fun hge => ?_)
  · have hlt : k < ds.length := by omega
    obtain ⟨ad, rfl, hcell⟩ := Rd.elem NdC_len (hr.ext (E2.ext e4)) hlt
    have hmem := List.getElem_mem hlt
    have hsx := hsl _ hmem
    have htk := only_take ds (pIds d) k hlt
    have hol := only_length (ds.take k) (pIds d)
    rw [List.length_take] at hol
    obtain ⟨x, hx⟩ : ∃ x, x = ds[k] := ⟨_, rfl⟩
    rw [← hx] at hcell hsx htk
    obtain ⟨id, body, safe, vb, vs⟩ := x
    obtain ⟨⟨A1, m1, c1, h1⟩, ⟨A2, m2, c2, h2⟩⟩ := hsx
    simp only at h1 h2 htk
    subst h1 h2
    replace hcell : ∀ j u, [I id, .slice A1 m1 c1, .slice A2 m2 c2][j]? = some u → w4.cell? ((ad.add (k * 3)).add j) = some u := hcell
    repeat' (first | apply Jbq | apply Jbr | apply Jbs | apply Jbt | apply Jby | apply Jbz | (apply Jcg; exact Jar Us.h Sz.h rfl rfl (by omega); exact rfl) | refine Jcg (Pu_loadAgg (cs := [I id, .slice A1 m1 c1, .slice A2 m2 c2]) Us.h rfl Sz.h rfl (fun _ e j u hu => by rw [e]; exact hcell j u hu)) rfl ?_ | (refine TL_alloc Zs.h rfl rfl ?_; intro w5 g5 e5 hg5 hz5 hb5) | (refine TL_storeAgg rfl rfl Sz.h rfl hb5 rfl ?_; intro w6 c6 hz6 hb6))
    have ho6 := (ho4.ext e5).ch c6 (by intro j _ _; simp only [Iv]; omega)
    have hb16 := (hb14.ext e5).ch c6 (by simp only [Iv]; omega)
    have E6 : Ext w2 w6 := Ext.then_iv (e4.ext e5) c6 (by omega)
    clear hb5
    refine TC_any mixed rfl ?_
    intro w7 hE hz7
    (refine Jco 0 rfl (by kernel_rfl) (by kernel_rfl) (by kernel_rfl) (fun _ _ _ h => h) hE (by exact Pu_loadAgg (cs := dskC d (.slice (some ad) ds.length c) sk st) Us.h rfl Sz.h rfl (fun _ e j u hu => Ext.cell e (by rw [add0, hb16.cell]; exact hu))) rfl ?_; refine Jco 2 rfl (by kernel_rfl) (by kernel_rfl) (by kernel_rfl) (fun _ _ _ h => h) hE (by (apply Jbl; exact Us.h; exact rfl; exact Sz.h; exact rfl)) rfl ?_; refine Jco 3 rfl (by kernel_rfl) (by kernel_rfl) (by kernel_rfl) (fun _ _ _ h => h) hE (by exact Pu_load Fl.h rfl (fun _ e => Ext.cell e (hb6.ld rfl))) rfl ?_)
    refine TA_one 1 (by kernel_rfl) rfl ?_
    refine TL_call rfl en90 (l03Ids_c (h.ext ((E2.ext E6).ext hE)) (by omega) (by omega)) rfl rfl ?_
    rintro vi w8 ⟨e8, hoi⟩
    have hE8 := hE.ext e8
    clear hE
    have hE := hE8
    refine Jbq (TN_any hE ?_)
    refine TA_one 4 (by kernel_rfl) rfl ?_
    refine TL_call rfl en89 (l03HasInt_c hoi.rd hip) rfl rfl ?_
    rintro _ w9 ⟨rfl, e9⟩
    have hE9 := hE.ext e9
    clear hE hE8
    have hE := hE9
    refine Jbq (TN_any hE ?_)
    refine TA_done (by kernel_rfl) ?_
    replace hb6 := hb6.ext hE
    replace ho6 := ho6.ext hE
    have E9 := E6.ext hE
    have hs9 := hE.size
    clear hE hE9
    repeat' (apply Jbr)
    refine Jcx rfl (fun hin => ?_) (fun hin => ?_)
    · rw [if_pos hin] at htk
      repeat' (first | apply Jbt | (apply Jcg; exact Jaa rfl; exact rfl) | refine Jcg (Pu_loadAgg (cs := [I id, .slice A1 m1 c1, .slice A2 m2 c2]) Us.h rfl Sz.h rfl (fun _ e j u hu => by rw [e, add0, hb6.cell]; exact hu)) rfl ?_)
      refine TL_buildSlice Us.h Zi.h rfl rfl rfl rfl (fillN id A1 A2 m1 c1 m2 c2) rfl rfl ?_
      intro w10 g10 e10 hg10 hz10 hown10
      have hnew := nd_new (d := ⟨id, body, safe, .slice A1 m1 c1, .slice A2 m2 c2⟩) hown10 rfl rfl hg10 hz10
      skip
      refine TL_appendRow1 Us.h inf98 rfl rfl rfl (by intro u hu; simp [cellsL, NdC] at hu; rcases hu with rfl | rfl | rfl <;> rfl) rfl rfl (ho6.ext e10) hnew.rd (by omega) (by simp only [List.length_cons, List.length_nil]; omega) rfl ?_
      intro w11 v11 c11 ho11
      repeat' (first | apply Jbq | apply Jbr | apply Jbt | apply Jbx | (apply Jcg; (first | exact Jaa rfl | exact Jab rfl | exact Jaf rfl rfl (by omega)); exact rfl))
      refine TN_round (k + 1, v11) (subEnv_cons rfl (subEnv_cons rfl (subEnv_cons rfl (subEnv_cons rfl (subEnv_cons rfl (subEnv_cons rfl (subEnv_nil _))))))) ⟨by simp only; omega, Ext.then_iv (E9.ext e10) c11 (by omega), ?_⟩ (by simp only; omega)
      simp only
      rw [htk]
      exact ho11
    · rw [if_neg hin] at htk
      repeat' (first | apply Jbq | apply Jbr | apply Jbt | apply Jbx | apply Jbz | (apply Jcg; (first | exact Jaa rfl | exact Jaf rfl rfl (by omega)); exact rfl))
      refine TN_round (k + 1, vo) (subEnv_cons rfl (subEnv_cons rfl (subEnv_cons rfl (subEnv_cons rfl (subEnv_cons rfl (subEnv_cons rfl (subEnv_nil _))))))) ⟨by simp only; omega, E9, ?_⟩ (by simp only; omega)
      simp only
      rw [htk]
      exact ho6.wide (Nat.le_refl _) (by omega) (Nat.le_refl _)
  · obtain rfl : k = ds.length := by omega
    rw [List.take_length] at ho4
    repeat' (first | apply Jbr | apply Jbs | apply Jbt | apply Jca | apply Jcb | apply Jcc | (apply Jcg; (first | exact Jaa rfl | (apply Jbl; exact Us.h; exact rfl; exact Sz.h; exact rfl)); exact rfl))
    refine TL_store rfl rfl Sz.h ho4.rd.one hb14 rfl ?_
    intro w5 c5 hz5 hb5
    replace hb5 : Blk w5 g1 33 (dskC d vo sk st) := hb5
    replace hb24 := hb24.ch c5 (by simp only [Iv]; omega)
    have ho5 := ho4.ch c5 (by intro j _ _; simp only [Iv]; omega)
    repeat' (first | apply Jbq | apply Jbr | apply Jbs | apply Jbt | refine Jcg (Pu_loadAgg (cs := dskC d vo sk st) Us.h rfl Sz.h rfl (fun _ e j u hu => by rw [e, add0, hb5.cell]; exact hu)) rfl ?_)
    refine TL_storeAgg rfl rfl Sz.h (by show ((dskC d vo sk st).all (·.oneCell')) = true; simp only [dskC, List.all_cons, List.all_nil, ho4.rd.one, hsk, hst]; rfl) hb24 rfl ?_
    intro w6 c6 hz6 hb6
    repeat' (first | apply Jbq | apply Jbr | apply Jbu)
    exact TR_of (resA rfl rfl hb6 Us.h rfl Sz.h) ⟨vo, rfl, Ext.then_iv (Ext.then_iv (E2.ext e4) c5 (by omega)) c6 (by omega), (ho5.ch c6 (by intro j _ _; simp only [Iv]; omega)).wide (by omega) (by omega) (Nat.le_refl _)⟩
end Go.Proofs.YtggaghghclomkaaGreat
