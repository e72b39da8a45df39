/- Texts of this proof laid together, in the order in which they build; what each proves stands ahead of it. No condition but those told there. -/
import Derived.Test.YtggaghghclomkaaGreatQFEOFT25f

/- Nodes, links, turns and disks are copied by the laws into memory that the call owns; their marks. -/
namespace Go.Proofs.YtggaghghclomkaaGreat
open Go.RowKit
theorem blk_nodup (v : Value) : (blk v).Nodup := by
  unfold blk
  split <;> simp
theorem bk2 {a c : Value} {lo m : Nat} (h1 : ∀ b ∈ blk a, lo ≤ b ∧ b < m) (h2 : ∀ b ∈ blk c, m ≤ b) : (blk a ++ blk c).Nodup := by
  rw [List.nodup_append]
  exact ⟨blk_nodup a, blk_nodup c, fun x hx y hy => by have := h1 x hx; have := h2 y hy; omega⟩
def NdOwn (w : World) (lo hi : Nat) (d : Nd) : Prop := OB w lo hi d.vb d.body ∧ OB w lo hi d.vs d.safe ∧ (bkd d).Nodup
theorem NdOwn.ch {w w' : World} {lo hi : Nat} {d : Nd} {T : Nat → Prop} (h : NdOwn w lo hi d) (c : Ch T w w') (hd : ∀ k, lo ≤ k → k < hi → ¬ T k) : NdOwn w' lo hi d := ⟨h.1.ch c hd, h.2.1.ch c hd, h.2.2⟩
theorem NdOwn.wide {w : World} {lo hi lo' hi' : Nat} {d : Nd} (h : NdOwn w lo hi d) (h1 : lo' ≤ lo) (h2 : hi ≤ hi') (h3 : hi' ≤ w.heap.size) : NdOwn w lo' hi' d := ⟨h.1.wide h1 h2 h3, h.2.1.wide h1 h2 h3, h.2.2⟩
theorem NdOwn.bin {w : World} {lo hi : Nat} {d : Nd} (h : NdOwn w lo hi d) : ∀ b ∈ bkd d, lo ≤ b ∧ b < hi := fun b hb => by
  rcases List.mem_append.1 hb with hb | hb
  · exact h.1.bin b hb
  · exact h.2.1.bin b hb
theorem NdOwn.ok {w : World} {lo hi : Nat} {d : Nd} (h : NdOwn w lo hi d) : NdOk w lo hi d := ⟨h.1.rd, h.2.1.rd⟩
theorem NdOwn.one {w : World} {lo hi : Nat} {d : Nd} (h : NdOwn w lo hi d) : (NdC d).all (·.oneCell') = true := h.ok.one
/-- Nodes that a call owns between lo and hi. -/
def ONr (w : World) (lo hi : Nat) (v : Value) (l : List NodeP) : Prop := ∃ ds : List Nd, ds.map NdP = l ∧ ONx w v ds ∧ ∀ b ∈ bksN v ds, lo ≤ b ∧ b < hi
theorem ONr.ch {w w' : World} {lo hi : Nat} {v : Value} {l : List NodeP} {T : Nat → Prop} (h : ONr w lo hi v l) (c : Ch T w w') (hd : ∀ k, lo ≤ k → k < hi → ¬ T k) : ONr w' lo hi v l := by
  obtain ⟨ds, h1, h2, h3⟩ := h
  exact ⟨ds, h1, h2.ch c (fun b hb => hd b (h3 b hb).1 (h3 b hb).2), h3⟩
theorem ONr.ext {w w' : World} {lo hi : Nat} {v : Value} {l : List NodeP} (h : ONr w lo hi v l) (c : Ext w w') : ONr w' lo hi v l := h.ch c (fun _ _ _ t => t)
theorem ONr.one {w : World} {lo hi : Nat} {v : Value} {l : List NodeP} (h : ONr w lo hi v l) : v.oneCell' = true := by obtain ⟨ds, _, h2, _⟩ := h; exact h2.row.one
theorem RowO.one {α : Type} {f : α → List Value} {e : TypeId} {s : Nat} {w : World} {lo hi : Nat} {v : Value} {l : List α} (h : RowO f e s w lo hi v l) : v.oneCell' = true := h.rd.one
/-- Parts that lie one behind the other make a disk. -/
theorem ODk.of {w : World} {lo m1 m1' m2 m2' hi : Nat} {d : DiskP} {sn sk st : Value} (h1 : ONr w lo m1 sn d.nodes) (h2 : RowO LkC 162 2 w m1' m2 sk d.kept) (h3 : RowO TnC 121 4 w m2' hi st d.turns) (a : m1 ≤ m1') (b : m2 ≤ m2') (c : hi ≤ w.heap.size) (e : m1' ≤ m2) (f : m2' ≤ hi) (g : lo ≤ m1) : ODk w lo hi d sn sk st := by
  obtain ⟨ds, g1, g2, g3⟩ := h1
  refine ⟨c, ds, g1, g2, h2.x, h3.x, ?_, fun x hx => ?_⟩
  · rw [List.nodup_append]
    refine ⟨g2.nd, bk2 h2.bin (fun x hx => Nat.le_trans b (h3.bin x hx).1), fun x hx y hy => ?_⟩
    have := g3 x hx
    rcases List.mem_append.1 hy with hy | hy
    · have := h2.bin y hy; omega
    · have := h3.bin y hy; omega
  · rcases List.mem_append.1 hx with hx | hx
    · have := g3 x hx; omega
    · rcases List.mem_append.1 hx with hx | hx
      · have := h2.bin x hx; omega
      · have := h3.bin x hx; omega
attribute [local irreducible] TL TC TN TX TR TQ TA Pu Ret
set_option maxHeartbeats 1000000 in
theorem toNode_o {w : World} {lo hi : Nat} {d : Nd} (h : NdOk w lo hi d) (hl : NdW (NdP d) ≤ 1048576) :
    Ret Tryz.prog 136 #[.agg (NdC d).toArray] w fun v' w' => ∃ d', v' = .agg (NdC d').toArray ∧ NdP d' = NdP d ∧ Ext w w' ∧ NdOwn w' w.heap.size w'.heap.size d' := by
  obtain ⟨id, body, safe, vb, vs⟩ := d
  simp only [NdW, NdP] at hl
  refine Ret_enter Tryz.func136 rfl rfl rfl ?_
  repeat' (first | apply Jbs | apply Jbt)
  refine TL_box (cs := NdC ⟨id, body, safe, vb, vs⟩) rfl rfl ?_
  intro w1 g1 e1 hg1 hz1 hb1
  skip
  refine TL_alloc Zs.h rfl rfl ?_
  intro w2 g2 e2 hg2 hz2 hb2
  replace hb1 := hb1.ext e2
  repeat' (first | apply Jbq | apply Jbr | apply Jbs | apply Jbt)
  refine TL_alloc Zs.h rfl rfl ?_
  intro w3 g3 e3 hg3 hz3 hb3
  replace hb1 := hb1.ext e3
  replace hb2 := hb2.ext e3
  have E : Ext w w3 := (e1.ext e2).ext e3
  have hgw : w.heap.size ≤ g1 ∧ g1 < g2 ∧ g2 < g3 := by omega
  clear hg1 hg2 hg3 e1 e2 e3 hz1 hz2 hz3
  repeat' (first | apply Jbq | apply Jbr | apply Jbs | apply Jbt | (apply Jcg; (apply Jbl; exact Us.h; exact rfl; exact Sz.h; exact rfl); exact rfl) | refine Jcg (Pu_load Fl.h rfl (fun _ e => by rw [e]; exact hb1.ld rfl)) rfl ?_)
  refine TL_store rfl rfl Sz.h rfl hb3 rfl ?_
  clear hb3
  intro w4 c4 hz4 hb3
  replace hb1 := hb1.ch c4 (by simp only [Iv]; omega)
  replace hb2 := hb2.ch c4 (by simp only [Iv]; omega)
  replace E : Ext w w4 := Ext.then_iv E c4 (by omega)
  have hlt := hb3.lt
  repeat' (first | apply Jbq | apply Jbr | apply Jbs | apply Jbt | (apply Jcg; (apply Jbl; exact Us.h; exact rfl; exact Sz.h; exact rfl); exact rfl) | refine Jcg (Pu_load Fl.h rfl (fun _ e => by rw [e]; exact hb1.ld rfl)) rfl ?_)
  refine TL_call rfl en91 (toB_k (h.1.ext E) (by simp only; omega)) rfl rfl ?_
  intro vb2 w5 ⟨e5, ho5⟩
  replace hb1 := hb1.ext e5
  replace hb2 := hb2.ext e5
  replace hb3 := hb3.ext e5
  have hs4 := E.size
  have hs5 := e5.size
  replace E := E.ext e5
  have hone5 := ho5.rd.one
  repeat' ((apply Jcg; (apply Jbl; exact Us.h; exact rfl; exact Sz.h; exact rfl); exact rfl))
  refine TL_store rfl rfl Sz.h hone5 hb3 rfl ?_
  clear hb3
  intro w6 c6 hz6 hb3
  replace hb1 := hb1.ch c6 (by simp only [Iv]; omega)
  replace hb2 := hb2.ch c6 (by simp only [Iv]; omega)
  replace ho5 := ho5.ch c6 (by intro k _ _; simp only [Iv]; omega)
  replace E : Ext w w6 := Ext.then_iv E c6 (by omega)
  repeat' (first | apply Jbq | apply Jbr | apply Jbs | apply Jbt | (apply Jcg; (apply Jbl; exact Us.h; exact rfl; exact Sz.h; exact rfl); exact rfl) | refine Jcg (Pu_load Fl.h rfl (fun _ e => by rw [e]; exact hb1.ld rfl)) rfl ?_)
  refine TL_call rfl en91 (toB_k (h.2.ext E) (by simp only; omega)) rfl rfl ?_
  intro vs2 w7 ⟨e7, ho7⟩
  replace hb2 := hb2.ext e7
  replace hb3 := hb3.ext e7
  replace ho5 := ho5.ext e7
  have hs7 := e7.size
  replace E := E.ext e7
  have hone7 := ho7.rd.one
  repeat' ((apply Jcg; (apply Jbl; exact Us.h; exact rfl; exact Sz.h; exact rfl); exact rfl))
  refine TL_store rfl rfl Sz.h hone7 hb3 rfl ?_
  clear hb3
  intro w8 c8 hz8 hb3
  replace hb2 := hb2.ch c8 (by simp only [Iv]; omega)
  replace ho5 := ho5.ch c8 (by intro k _ _; simp only [Iv]; omega)
  replace ho7 := ho7.ch c8 (by intro k _ _; simp only [Iv]; omega)
  replace E : Ext w w8 := Ext.then_iv E c8 (by omega)
  repeat' (first | apply Jbq | apply Jbr | apply Jbs | apply Jbt)
  refine Jcg (Pu_loadAgg (cs := NdC ⟨id, body, safe, vb2, vs2⟩) Us.h rfl Sz.h rfl (fun _ e j u hu => by rw [e, add0, hb3.cell]; exact hu)) rfl ?_
  skip
  refine TL_storeAgg rfl rfl Sz.h (by show ((NdC ⟨id, body, safe, vb2, vs2⟩).all (·.oneCell')) = true; simp only [NdC, List.all_cons, List.all_nil, hone5, hone7]; rfl) hb2 rfl ?_
  clear hb2
  intro w9 c9 hz9 hb2
  replace ho5 := ho5.ch c9 (by intro k _ _; simp only [Iv]; omega)
  replace ho7 := ho7.ch c9 (by intro k _ _; simp only [Iv]; omega)
  repeat' (first | apply Jbq | apply Jbr | apply Jbu)
  exact TR_of (resA rfl rfl hb2 Us.h rfl Sz.h) ⟨⟨id, body, safe, vb2, vs2⟩, rfl, rfl, Ext.then_iv E c9 (by omega), ho5.wide (by omega) (by omega) (Nat.le_refl _), ho7.wide (by omega) (by omega) (Nat.le_refl _), bk2 ho5.bin (fun b hb => Nat.le_trans (by omega) (ho7.bin b hb).1)⟩
set_option maxHeartbeats 1000000 in
theorem toNodeS_o {w : World} {lo hi : Nat} {v : Value} {l : List NodeP} (h : RN w lo hi v l) (hl : l.length + totNd l ≤ 1048576) :
    Ret Tryz.prog 62 #[v] w fun v' w' => Ext w w' ∧ ONr w' w.heap.size w'.heap.size v' l := by
  obtain ⟨ds, A, c, rfl, rfl, _, hr, hok⟩ := h
  have hnn := totNd_nn (ds.map NdP)
  rw [List.length_map] at hl
  refine Ret_enter Tryz.func62 rfl rfl rfl ?_
  repeat' (first | apply Jbq | apply Jbr | apply Jbs | apply Jbt | (apply Jcg; (first | exact Jaa rfl | exact Jab rfl | exact Jac Us.h rfl); exact rfl))
  refine TL_make Us.h Inf.h rfl rfl (by omega) (by omega) (by omega) rfl ?_
  intro w1 g e1 hg hz1 hown
  repeat' (first | apply Jbq | apply Jbr | apply Jbs | apply Jbt | apply Jby | (apply Jcg; exact Jab rfl; exact rfl))
  obtain ⟨xs, hxs⟩ : ∃ xs, xs = (madeCells (Value.cells (.agg #[.int .i64 0, .slice none 0 0, .slice none 0 0])) ((ds.length : Int).toNat * 3)).toList := ⟨_, rfl⟩
  rw [← hxs] at hown
  have hxl : xs.length = ds.length * 3 := by have := hown.len; simpa using this
  refine TC_loop (ι := Nat × List Nd) (fun x => [(0, .slice A ds.length c), (3, .slice (some ⟨g, 0, none⟩) ds.length ds.length), (4, I x.1)])
    (fun x w' => x.1 ≤ ds.length ∧ x.2.map NdP = (ds.map NdP).take x.1 ∧ x.2.length = x.1 ∧ Ext w w' ∧ Own w' g (g + 1) 98 3 (some ⟨g, 0, none⟩) ds.length ds.length (cellsL NdC x.2 ++ xs.drop (x.1 * 3)) ∧ (∀ d ∈ x.2, NdOwn w' (g + 1) w'.heap.size d) ∧ (x.2.flatMap bkd).Nodup) (fun x => ds.length - x.1) (0, [])
    (subEnv_cons rfl (subEnv_cons rfl (subEnv_cons rfl (subEnv_nil _)))) ⟨Nat.zero_le _, by simp, rfl, e1, by simpa [cellsL] using hown, by simp, by simp⟩ ?_
  rintro ⟨k, ys⟩ w2 ⟨hk, hys, hyl, e2, hown2, hok2, hnd2⟩
  simp only at hk hys hyl hown2 hok2 hnd2
  repeat' (first | apply Jbq | apply Jbr | apply Jbs | apply Jbt | (apply Jcg; (first | exact Jaa rfl | exact Jac Us.h rfl | exact Jad rfl rfl); exact rfl))
  refine Jcx rfl (fun hlt0 => ?_) (fun hge => ?_)
  · have hlt : k < ds.length := by omega
    obtain ⟨ad, rfl, hc⟩ := Rd.elem NdC_len (hr.ext e2) hlt
    have hmem := List.getElem_mem hlt
    have hwk := totNd_mem (List.mem_map_of_mem (f := NdP) hmem)
    repeat' (first | apply Jbr | apply Jbs | apply Jbt | apply Jby | apply Jbz | (apply Jcg; (first | exact Jaa rfl | exact Jar Us.h Sz.h rfl rfl (by omega)); exact rfl) | refine Jcg (Pu_loadAgg (cs := NdC ds[k]) Us.h rfl Sz.h rfl (fun _ e j u hu => by rw [e]; exact hc j u hu)) rfl ?_)
    refine TL_call rfl en136 (toNode_o ((hok _ hmem).ch e2 (fun _ _ _ t => t)) (by omega)) rfl rfl ?_
    rintro _ w3 ⟨d', rfl, hp3, e3, hok3⟩
    have hcl : (cellsL NdC ys).length = k * 3 := by rw [cellsL_length NdC_len, hyl]
    have hgl := hown2.hi_le
    have hs3 := e3.size
    repeat' ((apply Jcg; exact Jar Us.h Sz.h rfl rfl (by omega); exact rfl))
    refine TL_storeOwnAgg rfl (add0 g (k * 3)) rfl Sz.h hok3.one (hown2.ext e3) (by rw [NdC_len]; omega) ?_
    intro w4 c4 hz4 hown4
    rw [setL_app _ _ _ _ hcl (by rw [NdC_len, List.length_drop]; omega), List.drop_drop, NdC_len] at hown4
    repeat' (first | apply Jbq | apply Jbr | apply Jbt | apply Jbx | (apply Jcg; (first | exact Jaa rfl | exact Jab rfl | exact Jaf rfl rfl (by omega)); exact rfl))
    refine TN_round (k + 1, ys ++ [d']) (subEnv_cons rfl (subEnv_cons rfl (subEnv_cons rfl (subEnv_nil _)))) ⟨hlt, ?_, by simp [hyl], Ext.then_iv (e2.ext e3) c4 (by omega), ?_, ?_, ?_⟩ (by simp only; omega)
    · rw [List.map_append, hys, List.take_succ_eq_append_getElem (by rw [List.length_map]; exact hlt)]; simp [hp3]
    · rw [cellsL_append]
      have : cellsL NdC [d'] = NdC d' := by simp [cellsL]
      rw [this, Nat.succ_mul]
      exact hown4
    · intro x hx
      rcases List.mem_append.1 hx with hx | hx
      · exact (((hok2 x hx).ch e3 (fun _ _ _ t => t)).ch c4 (by intro j _ _; simp only [Iv]; omega)).wide (Nat.le_refl _) (by omega) (Nat.le_refl _)
      · rw [List.mem_singleton.1 hx]
        exact (hok3.ch c4 (by intro j _ _; simp only [Iv]; omega)).wide (by omega) (by omega) (Nat.le_refl _)
    · simp only
      rw [List.flatMap_append, List.nodup_append]
      refine ⟨hnd2, by simpa using hok3.2.2, fun a ha b hb => ?_⟩
      obtain ⟨y, hy, hya⟩ := List.mem_flatMap.1 ha
      have h1 := (hok2 y hy).bin a hya
      have h2 := hok3.bin b (by simpa using hb)
      omega
  · obtain rfl : k = ds.length := by omega
    rw [List.drop_eq_nil_of_le (by omega), List.append_nil] at hown2
    rw [List.take_of_length_le (by simp)] at hys
    repeat' (first | apply Jbq | apply Jbr | apply Jbs | apply Jbt | apply Jbu | apply Jca | apply Jcb | apply Jcc | (apply Jcg; (first | exact Jaa rfl | exact Jab rfl); exact rfl))
    have hh := hown2.hi_le
    have hrow : RowO NdC 98 3 w2 g (g + 1) (.slice (some ⟨g, 0, none⟩) ds.length ds.length) ys := ⟨some ⟨g, 0, none⟩, ds.length, by rw [hyl], by rw [hyl]; exact hown2⟩
    refine TR_of (res1 rfl rfl) ⟨e2, ys, hys, ⟨hrow.x, fun d hd => ⟨(hok2 d hd).1.x, (hok2 d hd).2.1.x⟩, ?_⟩, fun b hb => ?_⟩
    · show ([g] ++ ys.flatMap bkd).Nodup
      rw [List.singleton_append, List.nodup_cons]
      refine ⟨fun hg' => ?_, hnd2⟩
      obtain ⟨y, hy, hya⟩ := List.mem_flatMap.1 hg'
      have := (hok2 y hy).bin g hya
      omega
    · rcases List.mem_append.1 hb with hb | hb
      · have := hrow.bin b hb; omega
      · obtain ⟨y, hy, hya⟩ := List.mem_flatMap.1 hb
        have := (hok2 y hy).bin b hya
        omega
set_option maxHeartbeats 1000000 in
theorem toLinkS_o {w : World} {lo hi : Nat} {v : Value} {l : List LinkP} (h : RK w lo hi v l) (hl : l.length + totLk l ≤ 1048576) :
    Ret Tryz.prog 63 #[v] w fun v' w' => Ext w w' ∧ RowO LkC 162 2 w' w.heap.size w'.heap.size v' l := by
  obtain ⟨ds, A, c, rfl, rfl, _, hr, hok⟩ := h
  have hnn := totLk_nn (ds.map LkP)
  rw [List.length_map] at hl
  refine Ret_enter Tryz.func63 rfl rfl rfl ?_
  repeat' (first | apply Jbq | apply Jbr | apply Jbs | apply Jbt | (apply Jcg; (first | exact Jaa rfl | exact Jab rfl | exact Jac Us.h rfl); exact rfl))
  refine TL_make Us.h Inf.h rfl rfl (by omega) (by omega) (by omega) rfl ?_
  intro w1 g e1 hg hz1 hown
  repeat' (first | apply Jbq | apply Jbr | apply Jbs | apply Jbt | apply Jby | (apply Jcg; exact Jab rfl; exact rfl))
  obtain ⟨xs, hxs⟩ : ∃ xs, xs = (madeCells (Value.cells (.agg #[.string ByteArray.empty, .int .i64 0])) ((ds.length : Int).toNat * 2)).toList := ⟨_, rfl⟩
  rw [← hxs] at hown
  have hxl : xs.length = ds.length * 2 := by have := hown.len; simpa using this
  refine TC_loop (ι := Nat × List LkD) (fun x => [(0, .slice A ds.length c), (3, .slice (some ⟨g, 0, none⟩) ds.length ds.length), (4, I x.1)])
    (fun x w' => x.1 ≤ ds.length ∧ x.2.map LkP = (ds.map LkP).take x.1 ∧ x.2.length = x.1 ∧ Ext w w' ∧ Own w' g (g + 1) 162 2 (some ⟨g, 0, none⟩) ds.length ds.length (cellsL LkC x.2 ++ xs.drop (x.1 * 2)) ∧ ∀ d ∈ x.2, LkOk w' (g + 1) w'.heap.size d) (fun x => ds.length - x.1) (0, [])
    (subEnv_cons rfl (subEnv_cons rfl (subEnv_cons rfl (subEnv_nil _)))) ⟨Nat.zero_le _, by simp, rfl, e1, by simpa [cellsL] using hown, by simp⟩ ?_
  rintro ⟨k, ys⟩ w2 ⟨hk, hys, hyl, e2, hown2, hok2⟩
  simp only at hk hys hyl hown2 hok2
  repeat' (first | apply Jbq | apply Jbr | apply Jbs | apply Jbt | (apply Jcg; (first | exact Jaa rfl | exact Jac Us.h rfl | exact Jad rfl rfl); exact rfl))
  refine Jcx rfl (fun hlt0 => ?_) (fun hge => ?_)
  · have hlt : k < ds.length := by omega
    obtain ⟨ad, rfl, hc⟩ := Rd.elem LkC_len (hr.ext e2) hlt
    have hmem := List.getElem_mem hlt
    have hwk := totLk_mem (List.mem_map_of_mem (f := LkP) hmem)
    repeat' (first | apply Jbr | apply Jbs | apply Jbt | apply Jby | apply Jbz | (apply Jcg; (first | exact Jaa rfl | exact Jar Us.h Sz.h rfl rfl (by omega)); exact rfl) | refine Jcg (Pu_loadAgg (cs := LkC ds[k]) Us.h rfl Sz.h rfl (fun _ e j u hu => by rw [e]; exact hc j u hu)) rfl ?_)
    refine TL_call rfl en137 (toLink_c ((hok _ hmem).ch e2 (fun _ _ _ t => t)) (by omega)) rfl rfl ?_
    rintro _ w3 ⟨d', rfl, hp3, e3, hok3⟩
    have hcl : (cellsL LkC ys).length = k * 2 := by rw [cellsL_length LkC_len, hyl]
    have hgl := hown2.hi_le
    have hs3 := e3.size
    repeat' ((apply Jcg; exact Jar Us.h Sz.h rfl rfl (by omega); exact rfl))
    refine TL_storeOwnAgg rfl (add0 g (k * 2)) rfl Sz.h hok3.one (hown2.ext e3) (by rw [LkC_len]; omega) ?_
    intro w4 c4 hz4 hown4
    rw [setL_app _ _ _ _ hcl (by rw [LkC_len, List.length_drop]; omega), List.drop_drop, LkC_len] at hown4
    repeat' (first | apply Jbq | apply Jbr | apply Jbt | apply Jbx | (apply Jcg; (first | exact Jaa rfl | exact Jab rfl | exact Jaf rfl rfl (by omega)); exact rfl))
    refine TN_round (k + 1, ys ++ [d']) (subEnv_cons rfl (subEnv_cons rfl (subEnv_cons rfl (subEnv_nil _)))) ⟨hlt, ?_, by simp [hyl], Ext.then_iv (e2.ext e3) c4 (by omega), ?_, ?_⟩ (by simp only; omega)
    · rw [List.map_append, hys, List.take_succ_eq_append_getElem (by rw [List.length_map]; exact hlt)]; simp [hp3]
    · rw [cellsL_append]
      have : cellsL LkC [d'] = LkC d' := by simp [cellsL]
      rw [this, Nat.succ_mul]
      exact hown4
    · intro x hx
      rcases List.mem_append.1 hx with hx | hx
      · exact (((hok2 x hx).ch e3 (fun _ _ _ t => t)).ch c4 (by intro j _ _; simp only [Iv]; omega)).wide (Nat.le_refl _) (by omega) (Nat.le_refl _)
      · rw [List.mem_singleton.1 hx]
        exact (hok3.ch c4 (by intro j _ _; simp only [Iv]; omega)).wide (by omega) (by omega) (Nat.le_refl _)
  · obtain rfl : k = ds.length := by omega
    rw [List.drop_eq_nil_of_le (by omega), List.append_nil] at hown2
    rw [List.take_of_length_le (by simp)] at hys
    repeat' (first | apply Jbq | apply Jbr | apply Jbs | apply Jbt | apply Jbu | apply Jca | apply Jcb | apply Jcc | (apply Jcg; (first | exact Jaa rfl | exact Jab rfl); exact rfl))
    have hh := hown2.hi_le
    have hyd : ys = ds := by rw [← List.map_id ys, ← List.map_id ds]; exact hys
    subst hyd
    exact TR_of (res1 rfl rfl) ⟨e2, some ⟨g, 0, none⟩, ys.length, by rw [List.length_map], by rw [List.length_map]; exact (hown2.wide (by omega) hh (Nat.le_refl _)).cast rfl (congrArg (cellsL LkC) (List.map_id ys).symm)⟩
set_option maxHeartbeats 1000000 in
theorem toTurnS_o {w : World} {lo hi : Nat} {v : Value} {l : List TurnP} (h : RT w lo hi v l) (hl : l.length + totTn l ≤ 1048576) :
    Ret Tryz.prog 64 #[v] w fun v' w' => Ext w w' ∧ RowO TnC 121 4 w' w.heap.size w'.heap.size v' l := by
  obtain ⟨ds, A, c, rfl, rfl, _, hr, hok⟩ := h
  have hnn := totTn_nn (ds.map TnP)
  rw [List.length_map] at hl
  refine Ret_enter Tryz.func64 rfl rfl rfl ?_
  repeat' (first | apply Jbq | apply Jbr | apply Jbs | apply Jbt | (apply Jcg; (first | exact Jaa rfl | exact Jab rfl | exact Jac Us.h rfl); exact rfl))
  refine TL_make Us.h Inf.h rfl rfl (by omega) (by omega) (by omega) rfl ?_
  intro w1 g e1 hg hz1 hown
  repeat' (first | apply Jbq | apply Jbr | apply Jbs | apply Jbt | apply Jby | (apply Jcg; exact Jab rfl; exact rfl))
  obtain ⟨xs, hxs⟩ : ∃ xs, xs = (madeCells (Value.cells (.agg #[.int .i64 0, .string ByteArray.empty, .string ByteArray.empty, .int .i64 0])) ((ds.length : Int).toNat * 4)).toList := ⟨_, rfl⟩
  rw [← hxs] at hown
  have hxl : xs.length = ds.length * 4 := by have := hown.len; simpa using this
  refine TC_loop (ι := Nat × List TnD) (fun x => [(0, .slice A ds.length c), (3, .slice (some ⟨g, 0, none⟩) ds.length ds.length), (4, I x.1)])
    (fun x w' => x.1 ≤ ds.length ∧ x.2.map TnP = (ds.map TnP).take x.1 ∧ x.2.length = x.1 ∧ Ext w w' ∧ Own w' g (g + 1) 121 4 (some ⟨g, 0, none⟩) ds.length ds.length (cellsL TnC x.2 ++ xs.drop (x.1 * 4)) ∧ ∀ d ∈ x.2, TnOk w' (g + 1) w'.heap.size d) (fun x => ds.length - x.1) (0, [])
    (subEnv_cons rfl (subEnv_cons rfl (subEnv_cons rfl (subEnv_nil _)))) ⟨Nat.zero_le _, by simp, rfl, e1, by simpa [cellsL] using hown, by simp⟩ ?_
  rintro ⟨k, ys⟩ w2 ⟨hk, hys, hyl, e2, hown2, hok2⟩
  simp only at hk hys hyl hown2 hok2
  repeat' (first | apply Jbq | apply Jbr | apply Jbs | apply Jbt | (apply Jcg; (first | exact Jaa rfl | exact Jac Us.h rfl | exact Jad rfl rfl); exact rfl))
  refine Jcx rfl (fun hlt0 => ?_) (fun hge => ?_)
  · have hlt : k < ds.length := by omega
    obtain ⟨ad, rfl, hc⟩ := Rd.elem TnC_len (hr.ext e2) hlt
    have hmem := List.getElem_mem hlt
    have hwk := totTn_mem (List.mem_map_of_mem (f := TnP) hmem)
    repeat' (first | apply Jbr | apply Jbs | apply Jbt | apply Jby | apply Jbz | (apply Jcg; (first | exact Jaa rfl | exact Jar Us.h Sz.h rfl rfl (by omega)); exact rfl) | refine Jcg (Pu_loadAgg (cs := TnC ds[k]) Us.h rfl Sz.h rfl (fun _ e j u hu => by rw [e]; exact hc j u hu)) rfl ?_)
    refine TL_call rfl en138 (toTurn_c ((hok _ hmem).ch e2 (fun _ _ _ t => t)) (by omega)) rfl rfl ?_
    rintro _ w3 ⟨d', rfl, hp3, e3, hok3⟩
    have hcl : (cellsL TnC ys).length = k * 4 := by rw [cellsL_length TnC_len, hyl]
    have hgl := hown2.hi_le
    have hs3 := e3.size
    repeat' ((apply Jcg; exact Jar Us.h Sz.h rfl rfl (by omega); exact rfl))
    refine TL_storeOwnAgg rfl (add0 g (k * 4)) rfl Sz.h hok3.one (hown2.ext e3) (by rw [TnC_len]; omega) ?_
    intro w4 c4 hz4 hown4
    rw [setL_app _ _ _ _ hcl (by rw [TnC_len, List.length_drop]; omega), List.drop_drop, TnC_len] at hown4
    repeat' (first | apply Jbq | apply Jbr | apply Jbt | apply Jbx | (apply Jcg; (first | exact Jaa rfl | exact Jab rfl | exact Jaf rfl rfl (by omega)); exact rfl))
    refine TN_round (k + 1, ys ++ [d']) (subEnv_cons rfl (subEnv_cons rfl (subEnv_cons rfl (subEnv_nil _)))) ⟨hlt, ?_, by simp [hyl], Ext.then_iv (e2.ext e3) c4 (by omega), ?_, ?_⟩ (by simp only; omega)
    · rw [List.map_append, hys, List.take_succ_eq_append_getElem (by rw [List.length_map]; exact hlt)]; simp [hp3]
    · rw [cellsL_append]
      have : cellsL TnC [d'] = TnC d' := by simp [cellsL]
      rw [this, Nat.succ_mul]
      exact hown4
    · intro x hx
      rcases List.mem_append.1 hx with hx | hx
      · exact (((hok2 x hx).ch e3 (fun _ _ _ t => t)).ch c4 (by intro j _ _; simp only [Iv]; omega)).wide (Nat.le_refl _) (by omega) (Nat.le_refl _)
      · rw [List.mem_singleton.1 hx]
        exact (hok3.ch c4 (by intro j _ _; simp only [Iv]; omega)).wide (by omega) (by omega) (Nat.le_refl _)
  · obtain rfl : k = ds.length := by omega
    rw [List.drop_eq_nil_of_le (by omega), List.append_nil] at hown2
    rw [List.take_of_length_le (by simp)] at hys
    repeat' (first | apply Jbq | apply Jbr | apply Jbs | apply Jbt | apply Jbu | apply Jca | apply Jcb | apply Jcc | (apply Jcg; (first | exact Jaa rfl | exact Jab rfl); exact rfl))
    have hh := hown2.hi_le
    have hyd : ys = ds := by rw [← List.map_id ys, ← List.map_id ds]; exact hys
    subst hyd
    exact TR_of (res1 rfl rfl) ⟨e2, some ⟨g, 0, none⟩, ys.length, by rw [List.length_map], by rw [List.length_map]; exact (hown2.wide (by omega) hh (Nat.le_refl _)).cast rfl (congrArg (cellsL TnC) (List.map_id ys).symm)⟩
set_option maxHeartbeats 2000000 in
theorem toDisk_o {w : World} {lo hi : Nat} {d : DiskP} {sn sk st : Value} (h : RDk w lo hi d sn sk st) (hl : totD d ≤ 1048576) :
    Ret Tryz.prog 13 #[.agg (dskC d sn sk st).toArray] w fun v' w' => ∃ sn' sk' st', v' = .agg (dskC d sn' sk' st').toArray ∧ Ext w w' ∧ ODk w' w.heap.size w'.heap.size d sn' sk' st' := by
  obtain ⟨l1, l2, l3⟩ := totD_parts hl
  refine Ret_enter Tryz.func13 rfl rfl rfl ?_
  repeat' (first | apply Jbs | apply Jbt)
  refine TL_box (cs := dskC d sn sk st) rfl rfl ?_
  intro w1 g1 e1 hg1 hz1 hb1
  skip
  refine TL_alloc Zs.h rfl rfl ?_
  intro w2 g2 e2 hg2 hz2 hb2
  replace hb1 := hb1.ext e2
  repeat' (first | apply Jbq | apply Jbr | apply Jbs | apply Jbt)
  refine TL_alloc Zs.h rfl rfl ?_
  intro w3 g3 e3 hg3 hz3 hb3
  replace hb1 := hb1.ext e3
  replace hb2 := hb2.ext e3
  have E : Ext w w3 := (e1.ext e2).ext e3
  have hgw : w.heap.size ≤ g1 ∧ g1 < g2 ∧ g2 < g3 := by omega
  clear hg1 hg2 hg3 e1 e2 e3 hz1 hz2 hz3
  repeat' (first | apply Jbq | apply Jbr | apply Jbs | apply Jbt | (apply Jcg; (apply Jbl; exact Us.h; exact rfl; exact Sz.h; exact rfl); exact rfl) | refine Jcg (Pu_load Fl.h rfl (fun _ e => by rw [e]; exact hb1.ld rfl)) rfl ?_)
  refine TL_store rfl rfl Sz.h rfl hb3 rfl ?_
  clear hb3
  intro w4 c4 hz4 hb3
  replace hb1 := hb1.ch c4 (by simp only [Iv]; omega)
  replace hb2 := hb2.ch c4 (by simp only [Iv]; omega)
  replace E : Ext w w4 := Ext.then_iv E c4 (by omega)
  repeat' (first | apply Jbq | apply Jbr | apply Jbs | apply Jbt | (apply Jcg; (apply Jbl; exact Us.h; exact rfl; exact Sz.h; exact rfl); exact rfl) | refine Jcg (Pu_load Fl.h rfl (fun _ e => by rw [e]; exact hb1.ld rfl)) rfl ?_)
  refine TL_store rfl rfl Sz.h rfl hb3 rfl ?_
  clear hb3
  intro w5 c5 hz5 hb3
  replace hb1 := hb1.ch c5 (by simp only [Iv]; omega)
  replace hb2 := hb2.ch c5 (by simp only [Iv]; omega)
  replace E : Ext w w5 := Ext.then_iv E c5 (by omega)
  repeat' (first | apply Jbq | apply Jbr | apply Jbs | apply Jbt | (apply Jcg; (apply Jbl; exact Us.h; exact rfl; exact Sz.h; exact rfl); exact rfl) | refine Jcg (Pu_load Fl.h rfl (fun _ e => by rw [e]; exact hb1.ld rfl)) rfl ?_)
  refine TL_store rfl rfl Sz.h rfl hb3 rfl ?_
  clear hb3
  intro w6 c6 hz6 hb3
  replace hb1 := hb1.ch c6 (by simp only [Iv]; omega)
  replace hb2 := hb2.ch c6 (by simp only [Iv]; omega)
  replace E : Ext w w6 := Ext.then_iv E c6 (by omega)
  have hlt := hb3.lt
  repeat' (first | apply Jbq | apply Jbr | apply Jbs | apply Jbt | (apply Jcg; (apply Jbl; exact Us.h; exact rfl; exact Sz.h; exact rfl); exact rfl) | refine Jcg (Pu_load Fl.h rfl (fun _ e => by rw [e]; exact hb1.ld rfl)) rfl ?_)
  refine TL_call rfl en62 (toNodeS_o (h.1.ext E) l1) rfl rfl ?_
  intro sn2 w7 ⟨e7, ho7⟩
  replace hb1 := hb1.ext e7
  replace hb2 := hb2.ext e7
  replace hb3 := hb3.ext e7
  have hs6 := E.size
  have hs7 := e7.size
  replace E := E.ext e7
  repeat' ((apply Jcg; (apply Jbl; exact Us.h; exact rfl; exact Sz.h; exact rfl); exact rfl))
  refine TL_store rfl rfl Sz.h ho7.one hb3 rfl ?_
  clear hb3
  intro w8 c8 hz8 hb3
  replace hb1 := hb1.ch c8 (by simp only [Iv]; omega)
  replace hb2 := hb2.ch c8 (by simp only [Iv]; omega)
  replace ho7 := ho7.ch c8 (by intro k _ _; simp only [Iv]; omega)
  replace E : Ext w w8 := Ext.then_iv E c8 (by omega)
  repeat' (first | apply Jbq | apply Jbr | apply Jbs | apply Jbt | (apply Jcg; (apply Jbl; exact Us.h; exact rfl; exact Sz.h; exact rfl); exact rfl) | refine Jcg (Pu_load Fl.h rfl (fun _ e => by rw [e]; exact hb1.ld rfl)) rfl ?_)
  refine TL_call rfl en63 (toLinkS_o (h.2.1.ext E) l2) rfl rfl ?_
  intro sk2 w9 ⟨e9, ho9⟩
  replace hb1 := hb1.ext e9
  replace hb2 := hb2.ext e9
  replace hb3 := hb3.ext e9
  replace ho7 := ho7.ext e9
  have hs9 := e9.size
  replace E := E.ext e9
  repeat' ((apply Jcg; (apply Jbl; exact Us.h; exact rfl; exact Sz.h; exact rfl); exact rfl))
  refine TL_store rfl rfl Sz.h ho9.one hb3 rfl ?_
  clear hb3
  intro w10 c10 hz10 hb3
  replace hb1 := hb1.ch c10 (by simp only [Iv]; omega)
  replace hb2 := hb2.ch c10 (by simp only [Iv]; omega)
  replace ho7 := ho7.ch c10 (by intro k _ _; simp only [Iv]; omega)
  replace ho9 := ho9.ch c10 (by intro k _ _; simp only [Iv]; omega)
  replace E : Ext w w10 := Ext.then_iv E c10 (by omega)
  repeat' (first | apply Jbq | apply Jbr | apply Jbs | apply Jbt | (apply Jcg; (apply Jbl; exact Us.h; exact rfl; exact Sz.h; exact rfl); exact rfl) | refine Jcg (Pu_load Fl.h rfl (fun _ e => by rw [e]; exact hb1.ld rfl)) rfl ?_)
  refine TL_call rfl en64 (toTurnS_o (h.2.2.ext E) l3) rfl rfl ?_
  intro st2 w11 ⟨e11, ho11⟩
  replace hb2 := hb2.ext e11
  replace hb3 := hb3.ext e11
  replace ho7 := ho7.ext e11
  replace ho9 := ho9.ext e11
  have hs11 := e11.size
  replace E := E.ext e11
  repeat' ((apply Jcg; (apply Jbl; exact Us.h; exact rfl; exact Sz.h; exact rfl); exact rfl))
  refine TL_store rfl rfl Sz.h ho11.one hb3 rfl ?_
  clear hb3
  intro w12 c12 hz12 hb3
  replace hb2 := hb2.ch c12 (by simp only [Iv]; omega)
  replace ho7 := ho7.ch c12 (by intro k _ _; simp only [Iv]; omega)
  replace ho9 := ho9.ch c12 (by intro k _ _; simp only [Iv]; omega)
  replace ho11 := ho11.ch c12 (by intro k _ _; simp only [Iv]; omega)
  replace E : Ext w w12 := Ext.then_iv E c12 (by omega)
  repeat' (first | apply Jbq | apply Jbr | apply Jbs | apply Jbt)
  refine Jcg (Pu_loadAgg (cs := dskC d sn2 sk2 st2) Us.h rfl Sz.h rfl (fun _ e j u hu => by rw [e, add0, hb3.cell]; exact hu)) rfl ?_
  skip
  refine TL_storeAgg rfl rfl Sz.h (by show ((dskC d sn2 sk2 st2).all (·.oneCell')) = true; simp only [dskC, List.all_cons, List.all_nil, ho7.one, ho9.one, ho11.one]; rfl) hb2 rfl ?_
  clear hb2
  intro w13 c13 hz13 hb2
  replace ho7 := ho7.ch c13 (by intro k _ _; simp only [Iv]; omega)
  replace ho9 := ho9.ch c13 (by intro k _ _; simp only [Iv]; omega)
  replace ho11 := ho11.ch c13 (by intro k _ _; simp only [Iv]; omega)
  repeat' (first | apply Jbq | apply Jbr | apply Jbu)
  exact TR_of (resA rfl rfl hb2 Us.h rfl Sz.h) ⟨sn2, sk2, st2, rfl, Ext.then_iv E c13 (by omega), (ODk.of ho7 ho9 ho11 (by omega) (by omega) (by omega) (by omega) (by omega) (by omega)).wide (by omega) (by omega) (Nat.le_refl _)⟩
set_option maxHeartbeats 4000000 in
theorem markDisk_k {w : World} {lo hi : Nat} {d : DiskP} {sn sk st : Value} {k : Int} (h : ODk w lo hi d sn sk st) (hl : totD d ≤ 1048576) (hk0 : 0 < k) (hk1 : k ≤ 100000000) :
    Ret Tryz.prog 18 #[.agg (dskC d sn sk st).toArray, I k] w fun v' w' => v' = I (k + cntD d) ∧ Ch (Iv lo hi) w w' ∧ ODk w' lo hi (markD k d) sn sk st := by
  obtain ⟨q1, q2, q3, q4, q5, q6, q7⟩ := cntD_le hl
  obtain ⟨hs, ds, h1, h2, h3, h4, h5, h6⟩ := h
  have hcn : cntNd ds = cntNp d.nodes := by rw [← h1, cntNp_map]
  have hln : ds.length = d.nodes.length := by rw [← h1, List.length_map]
  have hdis : (∀ b ∈ bksN sn ds, b ∉ blk sk ∧ b ∉ blk st) ∧ ∀ b ∈ blk sk, b ∉ blk st := app3 h5
  refine Ret_enter Tryz.func18 rfl rfl rfl ?_
  repeat' (first | apply Jbs | apply Jbt)
  refine TL_box (cs := dskC d sn sk st) rfl rfl ?_
  intro w1 g e1 hg hz hbk
  clear hz
  repeat' (first | apply Jbq | apply Jbr | apply Jbs | apply Jbt | (apply Jcg; (first | exact Jaa rfl | exact Jab rfl | (apply Jbl; exact Us.h; exact rfl; exact Sz.h; exact rfl)); exact rfl) | refine Jcg (Pu_load Fl.h rfl (fun _ e => by rw [e]; exact hbk.ld rfl)) rfl ?_)
  refine TL_call rfl en75 (markNodeS_c (h2.ext e1) (by omega) (by omega) hk0 (by omega)) rfl rfl ?_
  rintro _ w2 ⟨rfl, c2, h2'⟩
  have hin : ∀ b ∈ bksN sn ds ++ (blk sk ++ blk st), b ≠ g := fun b hb => by have := h6 b hb; omega
  replace hbk := hbk.ch c2 (fun hb => hin g (List.mem_append.2 (.inl hb)) rfl)
  replace h3 := (h3.ext e1).ch c2 (fun b hb hn => (hdis.1 b hn).1 hb)
  replace h4 := (h4.ext e1).ch c2 (fun b hb hn => (hdis.1 b hn).2 hb)
  obtain ⟨l3, u3, ⟨A3, k3, rfl, o3⟩, i3⟩ := h3
  rw [hcn]
  repeat' (first | apply Jbq | apply Jbr | apply Jbs | apply Jbt | (apply Jcg; (first | exact Jaa rfl | exact Jab rfl | (apply Jbl; exact Us.h; exact rfl; exact Sz.h; exact rfl)); exact rfl) | refine Jcg (Pu_load Fl.h rfl (fun _ e => by rw [e]; exact hbk.ld rfl)) rfl ?_)
  refine TL_call rfl en76 (markLinkS_c o3 (by omega) (by omega) (by omega)) rfl rfl ?_
  rintro _ w3 ⟨rfl, c3, z3, o3'⟩
  have c3' : Ch (fun j => j ∈ blk (.slice A3 d.kept.length k3)) w2 w3 := c3.mono (fun j hj => i3 j hj.1 hj.2)
  replace hbk := hbk.ch c3' (fun hb => hin g (List.mem_append.2 (.inr (List.mem_append.2 (.inl hb)))) rfl)
  replace h2' := h2'.ch c3' (fun b hb hn => (hdis.1 b (by unfold bksN at *; rwa [markNd_bkd] at hb)).1 hn)
  replace h4 := h4.ch c3' (fun b hb hn => hdis.2 b hn hb)
  obtain ⟨l4, u4, ⟨A4, k4, rfl, o4⟩, i4⟩ := h4
  repeat' (first | apply Jbq | apply Jbr | apply Jbs | apply Jbt | (apply Jcg; (first | exact Jaa rfl | exact Jab rfl | (apply Jbl; exact Us.h; exact rfl; exact Sz.h; exact rfl)); exact rfl) | refine Jcg (Pu_load Fl.h rfl (fun _ e => by rw [e]; exact hbk.ld rfl)) rfl ?_)
  refine TL_call rfl en77 (markTurnS_c o4 (by omega) (by omega) (by omega)) rfl rfl ?_
  rintro _ w4 ⟨rfl, c4, z4, o4'⟩
  have c4' : Ch (fun j => j ∈ blk (.slice A4 d.turns.length k4)) w3 w4 := c4.mono (fun j hj => i4 j hj.1 hj.2)
  replace h2' := h2'.ch c4' (fun b hb hn => (hdis.1 b (by unfold bksN at *; rwa [markNd_bkd] at hb)).2 hn)
  replace o3' := o3'.ch c4' (fun j a b hj => hdis.2 j (i3 j a b) hj)
  repeat' (first | apply Jbq | apply Jbr | apply Jbs | apply Jbt | apply Jbu | (apply Jcg; (first | exact Jaa rfl | exact Jab rfl); exact rfl))
  refine TR_of (res1 rfl rfl) ⟨congrArg I (by unfold cntD; omega), ?_, ?_⟩
  · refine (((Ch.mono e1 (fun _ t => t.elim)).then (c2.mono (fun j hj => ?_))).then (c3'.mono (fun j hj => ?_))).then (c4'.mono (fun j hj => ?_))
    · exact h6 j (List.mem_append.2 (.inl hj))
    · exact h6 j (List.mem_append.2 (.inr (List.mem_append.2 (.inl hj))))
    · exact h6 j (List.mem_append.2 (.inr (List.mem_append.2 (.inr hj))))
  · have hb : bksN sn (markNd k ds) = bksN sn ds := by unfold bksN; rw [markNd_bkd]
    refine ⟨?_, markNd k ds, by rw [← markNp_map, h1]; rfl, h2', ⟨l3, u3, ⟨A3, k3, by simp [markD], by simpa [markD] using o3'⟩, i3⟩, ⟨l4, u4, ⟨A4, k4, by simp [markD], by simpa [markD] using o4'⟩, i4⟩, by rw [hb]; exact h5, by rw [hb]; exact h6⟩
    have := e1.size
    have := c2.size
    omega
set_option maxHeartbeats 4000000 in
theorem heldDisk_k {w : World} {lo hi : Nat} {d : DiskP} {sn sk st : Value} {k : Int} (h : ODk w lo hi (markD k d) sn sk st) (hl : totD d ≤ 1048576) (hk0 : 0 < k) (hk1 : k ≤ 100000000) :
    Ret Tryz.prog 20 #[.agg (dskC d sn sk st).toArray, I k] w fun v' w' => v' = I (k + cntD d) ∧ Ext w w' := by
  obtain ⟨q1, q2, q3, q4, q5, q6, q7⟩ := cntD_le hl
  have hr := h.rd
  obtain ⟨hs, es, h1, h2, h3, h4, h5, h6⟩ := h
  obtain ⟨ds, hds⟩ : ∃ ds : List Nd, ds.map NdP = d.nodes := ⟨d.nodes.map (fun p => ⟨p.1, p.2.1, p.2.2, .slice none 0 0, .slice none 0 0⟩), by rw [List.map_map]; exact List.map_id _⟩
  have hcn : cntNd ds = cntNp d.nodes := by rw [← hds, cntNp_map]
  have hln : ds.length = d.nodes.length := by rw [← hds, List.length_map]
  have hrn : RN w lo hi sn ((markNd k ds).map NdP) := by rw [← markNp_map, hds]; exact hr.1
  obtain ⟨A3, k3, rfl, m3, r3⟩ := hr.2.1.row
  obtain ⟨A4, k4, rfl, m4, r4⟩ := hr.2.2.row
  have e3 : (markD k d).kept.length = d.kept.length := by simp [markD]
  have e4 : (markD k d).turns.length = d.turns.length := by simp [markD]
  rw [e3] at r3 m3 ⊢
  rw [e4] at r4 m4 ⊢
  refine Ret_enter Tryz.func20 rfl rfl rfl ?_
  repeat' (first | apply Jbs | apply Jbt)
  refine TL_box (cs := dskC d sn (.slice A3 d.kept.length k3) (.slice A4 d.turns.length k4)) rfl rfl ?_
  intro w1 g E hg hz hbk
  clear hz
  repeat' (first | apply Jbq | apply Jbr | apply Jbs | apply Jbt | (apply Jcg; (first | exact Jaa rfl | exact Jab rfl | (apply Jbl; exact Us.h; exact rfl; exact Sz.h; exact rfl)); exact rfl) | refine Jcg (Pu_load Fl.h rfl (fun _ e => by rw [e]; exact hbk.ld rfl)) rfl ?_)
  refine TL_call rfl en78 (heldNodeS_c (RN.ch hrn E (fun _ _ _ t => t)) (by omega) (by omega) hk0 (by omega)) rfl rfl ?_
  rintro _ w2 ⟨rfl, e2⟩
  replace hbk := hbk.ext e2
  replace E := E.ext e2
  rw [hcn]
  repeat' (first | apply Jbq | apply Jbr | apply Jbs | apply Jbt | apply Jbz | (apply Jcg; (first | exact Jaa rfl | exact Jab rfl | exact Jad rfl rfl | (apply Jbl; exact Us.h; exact rfl; exact Sz.h; exact rfl)); exact rfl) | refine Jcg (Pu_load Fl.h rfl (fun _ e => by rw [e]; exact hbk.ld rfl)) rfl ?_ | (refine Jcx rfl (fun hb => ?_) (fun hb => ?_) <;> (try (exfalso; omega))))
  refine TL_call rfl en79 (heldLinkS_c (r3.ext E) (by omega) (by omega) (by omega)) rfl rfl ?_
  rintro _ w3 ⟨rfl, e3⟩
  replace hbk := hbk.ext e3
  replace E := E.ext e3
  repeat' (first | apply Jbq | apply Jbr | apply Jbs | apply Jbt | apply Jbz | (apply Jcg; (first | exact Jaa rfl | exact Jab rfl | exact Jad rfl rfl | (apply Jbl; exact Us.h; exact rfl; exact Sz.h; exact rfl)); exact rfl) | refine Jcg (Pu_load Fl.h rfl (fun _ e => by rw [e]; exact hbk.ld rfl)) rfl ?_ | (refine Jcx rfl (fun hb => ?_) (fun hb => ?_) <;> (try (exfalso; omega))))
  refine TL_call rfl en80 (heldTurnS_c (r4.ext E) (by omega) (by omega) (by omega)) rfl rfl ?_
  rintro _ w4 ⟨rfl, e4⟩
  replace E := E.ext e4
  repeat' (first | apply Jbq | apply Jbr | apply Jbs | apply Jbt | apply Jbu | apply Jbz | (apply Jcg; (first | exact Jaa rfl | exact Jab rfl | exact Jad rfl rfl); exact rfl) | (refine Jcx rfl (fun hb => ?_) (fun hb => ?_) <;> (try (exfalso; omega))))
  exact TR_of (res1 rfl rfl) ⟨congrArg I (by unfold cntD; omega), E⟩
end Go.Proofs.YtggaghghclomkaaGreat

/- Rules for regions whose order is open and that write what one of their operations reads: a barrier. No condition. -/
namespace Go.Proofs.YtggaghghclomkaaGreat
open Go.RowKit
section
variable {P : Program} {ops : Array Oper} {Q : Exit → Act → World → Prop} {md : Region.Mode} {A B : World → Prop} {m : Nat}
/-- A holds throughout; B holds until operation m has come up. -/
def SB (A B : World → Prop) (m : Nat) (listed : Array Bool) (w : World) : Prop := A w ∧ (listed.getD m true = false → B w)
theorem SB_set {i : Nat} {listed : Array Bool} {w : World} (h : i ≠ m) : SB A B m (listed.setIfInBounds i true) w ↔ SB A B m listed w := by
  unfold SB
  rw [getD_set_ne true h]
def wpAnyL (P : Program) (md : Region.Mode) (ops : Array Oper) (Q : Exit → Act → World → Prop) (S : Array Bool → World → Prop) : Nat → Array Bool → Act → World → Prop
  | 0, listed, a, w => Region.ready md ops listed = [] ∧ Q .normal a w
  | fuel + 1, listed, a, w =>
    (Region.ready md ops listed = [] → Q .normal a w) ∧
    ∀ i ∈ Region.ready md ops listed, wpOp P ops Q i (fun a' w' => S (listed.setIfInBounds i true) w' ∧ wpAnyL P md ops Q S fuel (listed.setIfInBounds i true) a' w') a w
theorem wpAny_of_L {S : Array Bool → World → Prop} : ∀ (fuel : Nat) (listed : Array Bool) (a : Act) (w : World), wpAnyL P md ops Q S fuel listed a w → wpAny P md ops Q fuel listed a w
  | 0, _, _, _, h => h
  | fuel + 1, _, _, _, h => ⟨h.1, fun i hi => wpOp_mono (fun a' w' h' => wpAny_of_L fuel _ a' w' h'.2) (h.2 i hi)⟩
theorem wpAnyL_first {i : Nat} {oi om : Oper} {v : Value} {bar : Bool} (hi : ops[i]? = some oi) (him : i ≠ m) (hom : ops[m]? = some om) (hw : bar = true → ∃ e ∈ om.after, Region.binds md e = true ∧ e.on = i)
    (hsel : ∀ (j : Nat) (o : Oper) cs b, ops[j]? = some o → o.op ≠ .select cs b) (hQ : ∀ c a w, Q (.panic c) (a.put oi.dst v) w → Q (.panic c) a w) :
    ∀ (fuel : Nat) (listed : Array Bool) (a : Act) (w : World),
      (∀ j oj, ops[j]? = some oj → j ≠ i → listed.getD j true = false → (∀ e ∈ oj.after, Region.binds md e = true → e.on ≠ i) → oi.apart ops oj = true) →
      i ∈ Region.ready md ops listed → YieldsIf P ops (fun w => A w ∧ (bar = true → B w)) oi v a → SB A B m listed w → (bar = true → listed.getD m true = false) →
      wpAnyL P md ops Q (SB A B m) fuel (listed.setIfInBounds i true) (a.put oi.dst v) w → wpAnyL P md ops Q (SB A B m) (fuel + 1) listed a w := by
  intro fuel
  induction fuel with
  | zero =>
    intro listed a w _ hr hy hS hm H
    refine ⟨fun h => (by rw [h] at hr; cases hr), fun j hj => ?_⟩
    by_cases hji : j = i
    · subst hji; exact hy.wpOp hi ⟨hS.1, fun hb => hS.2 (hm hb)⟩ ⟨(SB_set him).2 hS, H⟩
    · have := ready_mono hj hji
      rw [H.1] at this
      cases this
  | succ fuel ih =>
    intro listed a w hfree hr hy hS hm H
    refine ⟨fun h => (by rw [h] at hr; cases hr), fun j hj => ?_⟩
    by_cases hji : j = i
    · subst hji; exact hy.wpOp hi ⟨hS.1, fun hb => hS.2 (hm hb)⟩ ⟨(SB_set him).2 hS, H⟩
    · have h1 := H.2 j (ready_mono hj hji)
      obtain ⟨hjun, oj, hoj, hall⟩ := mem_ready.1 hj
      have hnot : ∀ e ∈ oj.after, Region.binds md e = true → e.on ≠ i := fun e he hb heq => by
        have h1 := hall e he hb
        have h0 := (mem_ready.1 hr).1
        rw [heq] at h1
        rcases Nat.lt_or_ge i listed.size with h' | h'
        · simp [h'] at h0 h1; rw [h0] at h1; cases h1
        · simp [Array.getElem?_eq_none h'] at h1
      have hjm : bar = true → j ≠ m := fun hb e => by
        subst e
        obtain ⟨ed, he, hbi, hon⟩ := hw hb
        rw [hoj] at hom
        injection hom with hom
        subst hom
        exact hnot ed he hbi hon
      have h2 := wpOp_putIf hoj (hfree j oj hoj hji hjun hnot) (fun cs b => hsel i oi cs b hi) (fun cs b => hsel j oj cs b hoj) hQ hy h1
      have hfree' : ∀ k ok, ops[k]? = some ok → k ≠ i → (listed.setIfInBounds j true).getD k true = false →
          (∀ e ∈ ok.after, Region.binds md e = true → e.on ≠ i) → oi.apart ops ok = true := fun k ok hk hki hun hno => by
        refine hfree k ok hk hki ?_ hno
        by_cases hjk : j = k
        · subst hjk; exact hjun
        · rw [getD_set_ne true hjk] at hun; exact hun
      refine wpOp_mono (fun a' w' h3 => ?_) h2
      have hcomm : (listed.setIfInBounds i true).setIfInBounds j true = (listed.setIfInBounds j true).setIfInBounds i true := Array.setIfInBounds_comm _ _ (Ne.symm hji)
      have hS' : SB A B m (listed.setIfInBounds j true) w' := by
        have := h3.2.1
        rw [hcomm] at this
        exact (SB_set him).1 this
      refine ⟨hS', ih (listed.setIfInBounds j true) a' w' hfree' (ready_mono hr (Ne.symm hji)) h3.1 hS' (fun hb => ?_) ?_⟩
      · rw [getD_set_ne true (hjm hb)]; exact hm hb
      · rw [← hcomm]
        exact h3.2.2
end
/-- What is listed has come up. -/
def TB (P : Program) (L : List Oper) (A B : World → Prop) (m : Nat) (Q : Exit → Act → World → Prop) (f : Nat) (listed : Array Bool) (n : Nat) (l : Env) (w : World) : Prop :=
  ∀ a, Holds n l a → wpAnyL P .any L.toArray Q (SB A B m) f listed a w
section
variable {P : Program} {L : List Oper} {A B : World → Prop} {m : Nat} {w : World} {Q : Exit → Act → World → Prop} {f n : Nat} {listed : Array Bool} {l : Env} {v : Value}
theorem TC_anyB {id : Nat} (A B : World → Prop) (m : Nat) (hm : P.follows .mixedOrders = true) (hf : L.length = f) (hA : A { w with drawn := w.drawn + 1 }) (hB : B { w with drawn := w.drawn + 1 })
    (h : ∀ w', Ext w w' → w'.heap.size = w.heap.size → A w' → B w' → TB P L A B m Q f (Array.replicate f false) n l w') : TC P Q (.region id L.toArray true) n l w := fun a ha => by
  have := h { w with drawn := w.drawn + 1 } ((Ch.refl _ _).drew) rfl hA hB a ha
  refine wp_region_any hm (wpAny_of_L (S := SB A B m) _ _ _ _ ?_)
  rw [show L.toArray.size = f from by simpa using hf]
  exact this
theorem TB_done (hr : Region.ready .any L.toArray listed = []) (h : TN Q n l w) : TB P L A B m Q f listed n l w := fun a ha => by
  cases f with
  | zero => exact ⟨hr, h a ha⟩
  | succ f => exact ⟨fun _ => h a ha, by rw [hr]; simp⟩
/-- An operation whose value nothing in the region changes. -/
theorem TB_take (i : Nat) {om : Oper} {dd : Nat} {op : Op} {ty : TypeId} {pos : String} {af : Array Edge} (hi : L[i]? = some ⟨some dd, op, ty, pos, af, none⟩) (him : Nat.beq i m = false) (hom : L[m]? = some om) (hs : Region.noSelect L.toArray = true) (hf : Region.free .any L.toArray listed i = true)
    (hr : (Region.ready .any L.toArray listed).contains i = true) (hQ : ∀ c a w, Q (.panic c) (a.put (some dd) v) w → Q (.panic c) a w) (hE : SB A B m listed w)
    (hp : Pu P A n l ⟨some dd, op, ty, pos, af, none⟩ v) (hn : Nat.blt dd n = true) (h : TB P L A B m Q f (listed.setIfInBounds i true) n ((dd, v) :: l) w) : TB P L A B m Q (f + 1) listed n l w := fun a ha =>
  wpAnyL_first (oi := ⟨some dd, op, ty, pos, af, none⟩) (v := v) (bar := false) (by simpa using hi) (by intro e; rw [e, Nat.beq_refl] at him; cases him) (by simpa using hom) (by simp) (Region.noSelect_spec hs) hQ f listed a w (Region.free_spec (by simpa using hi) hf) (by simpa using hr)
    (.inl ⟨by simp [Region.wanted], fun w hw => hp a ha w hw.1⟩) hE (by simp) (h _ (ha.put hn v))
/-- An operation for which the barrier waits. -/
theorem TB_takeB (i : Nat) {om : Oper} {dd : Nat} {op : Op} {ty : TypeId} {pos : String} {af : Array Edge} (hi : L[i]? = some ⟨some dd, op, ty, pos, af, none⟩) (him : Nat.beq i m = false) (hom : L[m]? = some om) (hw : om.after.any (fun e => Region.binds .any e && Nat.beq e.on i) = true) (hlm : listed.getD m true = false)
    (hs : Region.noSelect L.toArray = true) (hf : Region.free .any L.toArray listed i = true)
    (hr : (Region.ready .any L.toArray listed).contains i = true) (hQ : ∀ c a w, Q (.panic c) (a.put (some dd) v) w → Q (.panic c) a w) (hE : SB A B m listed w)
    (hp : Pu P (fun w => A w ∧ B w) n l ⟨some dd, op, ty, pos, af, none⟩ v) (hn : Nat.blt dd n = true) (h : TB P L A B m Q f (listed.setIfInBounds i true) n ((dd, v) :: l) w) : TB P L A B m Q (f + 1) listed n l w := fun a ha => by
  refine wpAnyL_first (oi := ⟨some dd, op, ty, pos, af, none⟩) (v := v) (bar := true) (by simpa using hi) (by intro e; rw [e, Nat.beq_refl] at him; cases him) (by simpa using hom) (fun _ => ?_) (Region.noSelect_spec hs) hQ f listed a w (Region.free_spec (by simpa using hi) hf) (by simpa using hr)
    (.inl ⟨by simp [Region.wanted], fun w hw => hp a ha w ⟨hw.1, hw.2 rfl⟩⟩) hE (fun _ => hlm) (h _ (ha.put hn v))
  rw [Array.any_eq_true] at hw
  obtain ⟨k, hk, he⟩ := hw
  rw [Bool.and_eq_true] at he
  exact ⟨om.after[k], Array.getElem_mem hk, he.1, Nat.eq_of_beq_eq_true he.2⟩
/-- What follows an operation that is carried out inside. -/
def AB (P : Program) (L : List Oper) (A B : World → Prop) (m : Nat) (Q : Exit → Act → World → Prop) (f : Nat) (listed : Array Bool) : Act → World → Prop := fun a' w' => SB A B m listed w' ∧ wpAnyL P .any L.toArray Q (SB A B m) f listed a' w'
theorem TN_anyB (e : SB A B m listed w) (h : TB P L A B m Q f listed n l w) : TN (Exit.then (AB P L A B m Q f listed) Q) n l w := fun a ha => ⟨e, h a ha⟩
theorem TB_key {i : Nat} {o : Oper} {a : Act} (hi : L[i]? = some o) (ha : Holds n l a) (h : TL P L (Exit.then (AB P L A B m Q f (listed.setIfInBounds i true)) Q) [o] n l w) : wpOp P L.toArray Q i (AB P L A B m Q f (listed.setIfInBounds i true)) a w := by
  have h1 := h a ha
  unfold wpOp
  rw [show L.toArray[i]? = some o from by simpa using hi]
  unfold wpList at h1
  simp only at h1 ⊢
  split
  · rename_i hw
    rw [if_pos hw] at h1
    rcases h1 with h1 | ⟨h1, h2⟩
    · refine .inl (Oper.wp_then (K' := AB P L A B m Q f (listed.setIfInBounds i true)) ?_)
      exact h1
    · exact .inr ⟨h1, h2⟩
  · rename_i hw
    rw [if_neg hw] at h1
    exact h1
/-- The one operation that may come up now is carried out. -/
theorem TB_one (i : Nat) {o : Oper} (hr : Region.ready .any L.toArray listed = [i]) (hi : L[i]? = some o)
    (h : TL P L (Exit.then (AB P L A B m Q f (listed.setIfInBounds i true)) Q) [o] n l w) : TB P L A B m Q (f + 1) listed n l w := fun a ha =>
  ⟨fun h0 => (by rw [hr] at h0; cases h0), fun j hj => by
    rw [hr] at hj
    obtain rfl : j = i := by simpa using hj
    exact TB_key hi ha h⟩
/-- One of two operations is carried out. -/
theorem TB_two (i j : Nat) {o o' : Oper} (hr : Region.ready .any L.toArray listed = [i, j]) (hi : L[i]? = some o) (hj : L[j]? = some o')
    (h : TL P L (Exit.then (AB P L A B m Q f (listed.setIfInBounds i true)) Q) [o] n l w) (h' : TL P L (Exit.then (AB P L A B m Q f (listed.setIfInBounds j true)) Q) [o'] n l w) : TB P L A B m Q (f + 1) listed n l w := fun a ha =>
  ⟨fun h0 => (by rw [hr] at h0; cases h0), fun k hk => by
    rw [hr] at hk
    simp only [List.mem_cons, List.not_mem_nil, or_false] at hk
    rcases hk with rfl | rfl
    · exact TB_key hi ha h
    · exact TB_key hj ha h'⟩
end
end Go.Proofs.YtggaghghclomkaaGreat

/- Contracts: disks are copied. -/
namespace Go.Proofs.YtggaghghclomkaaGreat
open Go.RowKit
theorem Own.narrow2 {w : World} {lo hi size n c : Nat} {e : TypeId} {A : Option Addr} {xs : List Value} (h : Own w lo hi e size A n c xs) : ∃ lo' hi', lo' ≤ w.heap.size ∧ Own w lo' hi' e size A n c xs ∧ ∀ k, lo' ≤ k → k < hi' → k ∈ blk (.slice A n c) := by
  rcases h.row.2 with ⟨hv, h0⟩ | ⟨g, cap, cur, hv, h3, h4, h5⟩
  · have hA : A = none := by injection hv
    subst hA
    exact ⟨0, 0, Nat.zero_le _, ⟨Nat.zero_le _, ⟨h.len, .inl ⟨hv, h0⟩⟩, fun ad ha => by cases ha⟩, fun k _ hk => absurd hk (Nat.not_lt_zero _)⟩
  · have hA : A = some ⟨g, 0, none⟩ := by injection hv
    subst hA
    have hg := (Array.getElem?_eq_some_iff.1 h4).1
    exact ⟨g, g + 1, Nat.le_of_lt hg, ⟨hg, ⟨h.len, .inr ⟨g, cap, cur, hv, Nat.le_refl _, h4, h5⟩⟩, fun ad ha => by injection ha with ha; subst ha; exact Nat.lt_succ_self _⟩, fun k h1 h2 => by
      obtain rfl : k = g := by omega
      exact List.mem_singleton.2 rfl⟩
theorem OBx.one {w : World} {v : Value} {s : List UInt8} (h : OBx w v s) : v.oneCell' = true := by obtain ⟨_, _, ⟨_, _, rfl, _⟩, _⟩ := h; rfl
theorem fillN (id : Int) (A A' : Option Addr) (m c m' c' : Nat) : Instr.fill (fun i => some (i * 3, 3)) ((Array.range (1 * 3)).map ((Value.agg #[.int .i64 0, .slice none 0 0, .slice none 0 0]).cells[· % (Value.agg #[.int .i64 0, .slice none 0 0, .slice none 0 0]).cells.size]!)) [(0, .agg #[I id, .slice A m c, .slice A' m' c'])] = some #[I id, .slice A m c, .slice A' m' c'] := by kernel_rfl
theorem ONx.empty (w : World) : ONx w (.slice none 0 0) [] := ⟨(RowO.nil w 0 (Nat.zero_le _)).x, fun d hd => by (cases hd), by simp [bksN, blk]⟩
section
variable {L : List Oper} {Q : Exit → Act → World → Prop} {n d : Nat} {l : Env} {w : World} {rest : List Oper} {ty : TypeId} {pos : String} {af : Array Edge} {v v2 : Value} {x y : Operand} {t : TypeId}
/-- A node is appended to own nodes. -/
theorem TL_appendN {lo2 hi2 : Nat} {ds : List Nd} {d' : Nd} (ht : Tryz.prog.underlying t = some (.slice 98)) (hx : ev l x = some v) (hy : ev l y = some v2) (h : ONx w v ds) (hr : RowR NdC 3 w lo2 hi2 v2 [d']) (hb : OBx w d'.vb d'.body) (hs : OBx w d'.vs d'.safe)
    (hnd : (bksN v ds ++ bkd d').Nodup) (hlt : ∀ b ∈ bksN v ds ++ bkd d', b < w.heap.size) (hl : ds.length ≤ 2000000) (hn : Nat.blt d n = true)
    (k : ∀ w' v', Ch (fun j => j ∈ blk v) w w' → (blk v' = blk v ∨ (blk v' = [w.heap.size] ∧ w.heap.size < w'.heap.size)) → ONx w' v' (ds ++ [d']) → TL Tryz.prog L Q rest n ((d, v') :: l) w') :
    TL Tryz.prog L Q (⟨some d, .call { callee := .builtin .append, args := #[x, y], argTypes := #[t, t] }, ty, pos, af, none⟩ :: rest) n l w := by
  obtain ⟨⟨l1, h1, ⟨A, c, rfl, ho0⟩, _⟩, hok, _⟩ := h
  obtain ⟨lo, hi, hlo, ho, hin⟩ := ho0.narrow2
  obtain ⟨A2, c2, rfl, _, hr⟩ := hr
  have hone : ∀ u ∈ cellsL NdC [d'], u.oneCell' = true := by
    intro u hu
    simp [cellsL, NdC] at hu
    rcases hu with rfl | rfl | rfl
    · rfl
    · exact hb.one
    · exact hs.one
  unfold bksN at hnd hlt
  have hap : ∀ b ∈ blk (.slice A ds.length c), (∀ d ∈ ds, b ∉ bkd d) ∧ b ∉ bkd d' := fun b hb' => by
    rw [List.append_assoc, List.nodup_append] at hnd
    exact ⟨fun d hd hbd => hnd.2.2 b hb' b (List.mem_append.2 (.inl (List.mem_flatMap.2 ⟨d, hd, hbd⟩))) rfl, fun hbd => hnd.2.2 b hb' b (List.mem_append.2 (.inr hbd)) rfl⟩
  refine TL_append ht inf98 rfl rfl hx hy ho hr hone hlo (by simp only [List.length_cons, List.length_nil]; omega) (by simp only [List.length_cons, List.length_nil]; omega) hn ?_
  intro w1 hi1 A1 c1 hch h1 h2 h3 hown
  have hch' : Ch (fun j => j ∈ blk (.slice A ds.length c)) w w1 := hch.mono (fun j hj => hin j hj.1 hj.2)
  have hloc : blk (.slice A1 (ds.length + [d'].length) c1) = blk (.slice A ds.length c) ∨ (blk (.slice A1 (ds.length + [d'].length) c1) = [w.heap.size] ∧ w.heap.size < w1.heap.size) := by
    rcases h3 with rfl | rfl
    · left; cases A1 <;> rfl
    · right; exact ⟨rfl, Nat.lt_of_lt_of_le (hown.lt _ rfl) hown.hi_le⟩
  have hrow : RowO NdC 98 3 w1 lo hi1 (.slice A1 (ds.length + [d'].length) c1) (ds ++ [d']) := ⟨A1, c1, by rw [List.length_append], hown.cast (by rw [List.length_append]) (cellsL_append _ _).symm⟩
  refine k w1 _ hch' hloc ⟨hrow.x, fun e he => ?_, ?_⟩
  · rcases List.mem_append.1 he with he | he
    · exact ⟨(hok e he).1.ch hch' (fun b hb' hv => (hap b hv).1 e he (List.mem_append.2 (.inl hb'))), (hok e he).2.ch hch' (fun b hb' hv => (hap b hv).1 e he (List.mem_append.2 (.inr hb')))⟩
    · rw [List.mem_singleton.1 he]
      exact ⟨hb.ch hch' (fun b hb' hv => (hap b hv).2 (List.mem_append.2 (.inl hb'))), hs.ch hch' (fun b hb' hv => (hap b hv).2 (List.mem_append.2 (.inr hb')))⟩
  · unfold bksN
    rw [List.flatMap_append]
    have hf : [d'].flatMap bkd = bkd d' := by simp
    rw [hf]
    rcases hloc with h | ⟨h, _⟩
    · rw [h, ← List.append_assoc]; exact hnd
    · rw [h, List.singleton_append, List.nodup_cons]
      rw [List.append_assoc] at hnd hlt
      refine ⟨fun hm => absurd (hlt _ (List.mem_append.2 (.inr hm))) (Nat.lt_irrefl _), ?_⟩
      rw [List.nodup_append] at hnd
      exact hnd.2.1
end
/-- The blocks of nodes behind an append. -/
theorem bks_after {v v' : Value} {ds : List Nd} {d' : Nd} {lo m hi : Nat} (h : blk v' = blk v ∨ (blk v' = [m] ∧ m < hi)) (h1 : ∀ b ∈ bksN v ds, lo ≤ b ∧ b < hi) (h2 : ∀ b ∈ bkd d', lo ≤ b ∧ b < hi) (h3 : lo ≤ m) : ∀ b ∈ bksN v' (ds ++ [d']), lo ≤ b ∧ b < hi := by
  intro b hb
  unfold bksN at hb h1
  rw [List.flatMap_append] at hb
  rcases List.mem_append.1 hb with hb | hb
  · rcases h with h | ⟨h, hm⟩
    · rw [h] at hb; exact h1 b (List.mem_append.2 (.inl hb))
    · rw [h] at hb; rw [List.mem_singleton.1 hb]; exact ⟨h3, hm⟩
  · rcases List.mem_append.1 hb with hb | hb
    · exact h1 b (List.mem_append.2 (.inr hb))
    · exact h2 b (by simpa using hb)
theorem nd_apart {v : Value} {ds : List Nd} {d' : Nd} {lo m hi : Nat} (h : (bksN v ds).Nodup) (h1 : ∀ b ∈ bksN v ds, lo ≤ b ∧ b < m) (h2 : (bkd d').Nodup) (h3 : ∀ b ∈ bkd d', m ≤ b ∧ b < hi) : (bksN v ds ++ bkd d').Nodup := by
  rw [List.nodup_append]
  exact ⟨h, h2, fun x hx y hy => by have := h1 x hx; have := h3 y hy; omega⟩
section
variable {L : List Oper} {Q : Exit → Act → World → Prop} {n d : Nat} {l : Env} {w : World} {rest : List Oper} {ty : TypeId} {pos : String} {af : Array Edge} {v v2 : Value} {x y : Operand} {t : TypeId}
/-- Own bytes are appended to: where they lie then. -/
theorem TL_appendBx {lo2 hi2 : Nat} {s s2 : List UInt8} (ht : Tryz.prog.underlying t = some (.slice 5)) (hx : ev l x = some v) (hy : ev l y = some v2) (h : OBx w v s) (hr : RB w lo2 hi2 v2 s2) (hl : s.length + s2.length ≤ 17592186044416) (hn : Nat.blt d n = true)
    (k : ∀ w' A' c', Ch (fun j => j ∈ blk v) w w' → (blk (.slice A' (s ++ s2).length c') = blk v ∨ (blk (.slice A' (s ++ s2).length c') = [w.heap.size] ∧ w.heap.size < w'.heap.size)) → OBx w' (.slice A' (s ++ s2).length c') (s ++ s2) → TL Tryz.prog L Q rest n ((d, .slice A' (s ++ s2).length c') :: l) w') :
    TL Tryz.prog L Q (⟨some d, .call { callee := .builtin .append, args := #[x, y], argTypes := #[t, t] }, ty, pos, af, none⟩ :: rest) n l w := by
  obtain ⟨l1, h1, ⟨A, c, rfl, ho0⟩, _⟩ := h
  obtain ⟨lo, hi, hlo, ho, hin⟩ := ho0.narrow2
  obtain ⟨A2, c2, rfl, _, hr⟩ := hr
  refine TL_append ht inf5 rfl rfl hx hy ho hr (u8s_one s2) hlo (by omega) (by omega) hn ?_
  intro w1 hi1 A1 c1 hch h1 h2 h3 hown
  have hch' : Ch (fun j => j ∈ blk (.slice A s.length c)) w w1 := hch.mono (fun j hj => hin j hj.1 hj.2)
  have hlen : s.length + s2.length = (s ++ s2).length := List.length_append.symm
  have hown' : Own w1 lo hi1 5 1 A1 (s ++ s2).length c1 (u8s (s ++ s2)) := hown.cast hlen (by simp [u8s])
  rw [hlen]
  refine k w1 A1 c1 hch' ?_ (OB.x ⟨A1, c1, rfl, hown'⟩)
  rcases h3 with rfl | rfl
  · left; cases A1 <;> rfl
  · right; exact ⟨rfl, Nat.lt_of_lt_of_le (hown.lt _ rfl) hown.hi_le⟩
end
theorem loc_in {v v' : Value} {lo m hi : Nat} (h : blk v' = blk v ∨ (blk v' = [m] ∧ m < hi)) (h1 : ∀ b ∈ blk v, lo ≤ b ∧ b < m) (hm : lo ≤ m) (hh : m ≤ hi) : ∀ b ∈ blk v', lo ≤ b ∧ b < hi := by
  intro b hb
  rcases h with h | ⟨h, h2⟩
  · rw [h] at hb; have := h1 b hb; omega
  · rw [h] at hb; rw [List.mem_singleton.1 hb]; omega
theorem loc_dis {v v' u : Value} {m hi : Nat} (h : blk v' = blk v ∨ (blk v' = [m] ∧ m < hi)) (hd : ∀ b ∈ blk v, b ∉ blk u) (hu : ∀ b ∈ blk u, b < m) : ∀ b ∈ blk v', b ∉ blk u := by
  intro b hb
  rcases h with h | ⟨h, h2⟩
  · rw [h] at hb; exact hd b hb
  · rw [h] at hb; rw [List.mem_singleton.1 hb]; intro hm; exact Nat.lt_irrefl _ (hu m hm)
theorem dis_sym {a b : Value} (h : ∀ x ∈ blk a, x ∉ blk b) : ∀ x ∈ blk b, x ∉ blk a := fun x hx hy => h x hy hx
theorem bk_of {a b : Value} (h : ∀ x ∈ blk a, x ∉ blk b) : (blk a ++ blk b).Nodup := by
  rw [List.nodup_append]
  exact ⟨blk_nodup a, blk_nodup b, fun x hx y hy e => h x hx (e ▸ hy)⟩
theorem OBx.new {w1 : World} {g : Nat} {w : World} (h : Own w1 g (g + 1) 5 1 (some ⟨g, 0, none⟩) 0 0 (u8s [])) (hg : g = w.heap.size) (hz : w1.heap.size = g + 1) : OBx w1 (.slice (some ⟨g, 0, none⟩) 0 0) [] := (OB_new (s := []) rfl h hg hz).x
attribute [local irreducible] TL TC TN TX TR TQ TA Pu Ret
set_option maxRecDepth 100000 in
set_option maxHeartbeats 8000000 in
theorem implcopyDisk_c {w : World} {lo hi : Nat} {d : DiskP} {sn sk st : Value} (h : RDk w lo hi d sn sk st) (hl : totD d ≤ 1048576) :
    Ret Tryz.prog 66 #[.agg (dskC d sn sk st).toArray] w fun v' w' => ∃ sn' sk' st', v' = .agg (dskC d sn' sk' st').toArray ∧ Ext w w' ∧ ODk w' w.heap.size w'.heap.size d sn' sk' st' := by
  obtain ⟨l1, l2, l3⟩ := totD_parts hl
  have nn1 := totNd_nn d.nodes
  have nn2 := totLk_nn d.kept
  have nn3 := totTn_nn d.turns
  have h0 := h
  obtain ⟨ds, A, c, hm, rfl, hc, hr, hok⟩ := h.1
  have hln : d.nodes.length = ds.length := by rw [← hm, List.length_map]
  have hone0 := h.one
  refine Ret_enter Tryz.func66 rfl rfl rfl ?_
  repeat' (first | apply Jbs | apply Jbt)
  refine TL_box (cs := dskC d (.slice A ds.length c) sk st) rfl rfl ?_
  intro w1 g1 e1 hg1 hz1 hb1
  skip
  refine TL_alloc Zs.h rfl rfl ?_
  intro w2 g2 e2 hg2 hz2 hb2
  replace hb1 := hb1.ext e2
  repeat' (first | apply Jbq | apply Jbr | apply Jbs | apply Jbt | refine Jcg (Pu_loadAgg (cs := dskC d (.slice A ds.length c) sk st) Us.h rfl Sz.h rfl (fun _ e j u hu => by rw [e, add0, hb1.cell]; exact hu)) rfl ?_)
  refine TL_alloc Zs.h rfl rfl ?_
  intro w3 g3 e3 hg3 hz3 hb3
  replace hb1 := hb1.ext e3
  replace hb2 := hb2.ext e3
  skip
  refine TL_storeAgg rfl rfl Sz.h hone0 hb3 rfl ?_
  clear hb3
  intro w4 c4 hz4 hb3
  replace hb1 := hb1.ch c4 (by simp only [Iv]; omega)
  replace hb2 := hb2.ch c4 (by simp only [Iv]; omega)
  have E4 : Ext w w4 := Ext.then_iv ((e1.ext e2).ext e3) c4 (by omega)
  repeat' (first | apply Jbq | apply Jbr | apply Jbs | apply Jbt | (apply Jcg; (apply Jbl; exact Us.h; exact rfl; exact Sz.h; exact rfl); exact rfl))
  refine TL_store rfl rfl Sz.h rfl hb3 rfl ?_
  clear hb3
  intro w5 c5 hz5 hb3
  replace hb3 : Blk w5 g3 33 (dskC d (.slice none 0 0) sk st) := hb3
  replace hb1 := hb1.ch c5 (by simp only [Iv]; omega)
  replace hb2 := hb2.ch c5 (by simp only [Iv]; omega)
  have E5 : Ext w w5 := Ext.then_iv E4 c5 (by omega)
  have hgg : w.heap.size = g1 ∧ g2 = g1 + 1 ∧ g3 = g2 + 1 ∧ w5.heap.size = g3 + 1 := by omega
  clear hg1 hg2 hg3 hz1 hz2 hz3 hz4 hz5 e1 e2 e3 c4 c5 E4
  repeat' (first | apply Jbq | apply Jbr | apply Jbs | apply Jbt | apply Jby | (apply Jcg; (first | exact Jaa rfl | exact Jac Us.h rfl | (apply Jbl; exact Us.h; exact rfl; exact Sz.h; exact rfl)); exact rfl) | refine Jcg (Pu_load Fl.h rfl (fun _ e => by rw [e]; exact hb1.ld rfl)) rfl ?_)
  refine TC_loop (ι := Nat × Value × List Nd) (fun x => [(1, .pointer (some ⟨g1, 0, none⟩)), (2, .pointer (some ⟨g2, 0, none⟩)), (3, .pointer (some ⟨g3, 0, none⟩)), (9, .slice A ds.length c), (10, I ds.length), (11, I x.1)])
    (fun x w' => x.1 ≤ ds.length ∧ Ch (Iv g3 (g3 + 1)) w5 w' ∧ Blk w' g3 33 (dskC d x.2.1 sk st) ∧ x.2.2.map NdP = d.nodes.take x.1 ∧ ONx w' x.2.1 x.2.2 ∧ ∀ b ∈ bksN x.2.1 x.2.2, w5.heap.size ≤ b ∧ b < w'.heap.size) (fun x => ds.length - x.1) (0, .slice none 0 0, []) (subEnv_cons rfl (subEnv_cons rfl (subEnv_cons rfl (subEnv_cons rfl (subEnv_cons rfl (subEnv_cons rfl (subEnv_nil _))))))) ⟨Nat.zero_le _, Ch.refl _ _, hb3, by simp, ONx.empty _, by simp [bksN, blk]⟩ ?_
  rintro ⟨k, vn, ys⟩ w6 ⟨hk, c6, hb6, hys, hx6, hbk6⟩
  simp only at hk hb6 hys hx6 hbk6
  have hyl : ys.length = k := by have := congrArg List.length hys; rw [List.length_map, List.length_take] at this; omega
  have E6 : Ext w w6 := Ext.then_iv E5 c6 (by omega)
  have hs6 := c6.size
  show TC _ _ _ _ [(1, .pointer (some ⟨g1, 0, none⟩)), (2, .pointer (some ⟨g2, 0, none⟩)), (3, .pointer (some ⟨g3, 0, none⟩)), (9, .slice A ds.length c), (10, I ds.length), (11, I (k : Int))] w6
  repeat' (first | apply Jbq | apply Jbr | apply Jbs | apply Jbt | (apply Jcg; exact Jad rfl rfl; exact rfl))
  refine Jcx rfl (fun hlt0 => ?_) (fun hge => ?_)
  · have hlt : k < ds.length := by omega
    obtain ⟨ad, rfl, hcell⟩ := Rd.elem NdC_len (hr.ext E6) hlt
    have hnk : d.nodes[k]'(by omega) = NdP ds[k] := by simp only [← hm, List.getElem_map]
    have hwk := totNd_mem (List.getElem_mem (show k < d.nodes.length by omega))
    rw [hnk] at hwk
    have htk : d.nodes.take (k + 1) = d.nodes.take k ++ [NdP ds[k]] := by rw [List.take_succ_eq_append_getElem (by omega), hnk]
    obtain ⟨⟨Ab, cb, hvb, hcb, hrb⟩, ⟨As, cs, hvs, hcs, hrs⟩⟩ := hok _ (List.getElem_mem hlt)
    obtain ⟨x, hx⟩ : ∃ x, x = ds[k] := ⟨_, rfl⟩
    rw [← hx] at hcell hwk htk hvb hvs hcb hcs hrb hrs
    obtain ⟨id, body, safe, vb, vs⟩ := x
    simp only at hvb hvs hcb hcs hrb hrs
    subst hvb hvs
    simp only [NdW, NdP] at hwk
    replace hcell : ∀ j u, [I id, .slice Ab body.length cb, .slice As safe.length cs][j]? = some u → w6.cell? ((ad.add (k * 3)).add j) = some u := hcell
    repeat' (first | apply Jbq | apply Jbr | apply Jbs | apply Jbt | apply Jby | apply Jbz | (apply Jcg; exact Jar Us.h Sz.h rfl rfl (by omega); exact rfl) | refine Jcg (Pu_loadAgg (cs := [I id, .slice Ab body.length cb, .slice As safe.length cs]) Us.h rfl Sz.h rfl (fun _ e j u hu => by rw [e]; exact hcell j u hu)) rfl ?_ | (refine TL_alloc Zs.h rfl rfl ?_; intro w7 g7 e7 hg7 hz7 hb7) | (refine TL_storeAgg rfl rfl Sz.h rfl hb7 rfl ?_; intro w8 c8 hz8 hb8))
    have c8' : Ext w6 w8 := Ext.then_iv e7 c8 (by omega)
    have hs8 := c8'.size
    have hb68 := hb6.ext c8'
    have hx8 := hx6.ext c8'
    have E8 := E6.ext c8'
    have hvnb : ∀ j ∈ blk vn, w5.heap.size ≤ j ∧ j < w6.heap.size := fun j hj => hbk6 j (List.mem_append.2 (.inl hj))
    have hT7 : ¬ (g7 ∈ blk vn ∨ g7 = g3) := by rintro (h | h); (have := hvnb g7 h; omega); omega
    refine TC_anyB (fun w' => Ch (fun j => j ∈ blk vn ∨ j = g3) w8 w') (fun w' => Blk w' g3 33 (dskC d vn sk st)) 12 mixed rfl (Ch.refl _ _).drew (hb68.ext (Ch.refl _ _).drew) ?_
    intro w9 hE hz9 hA hB
    (refine TB_take 0 rfl rfl rfl (by kernel_rfl) (by kernel_rfl) (by kernel_rfl) (fun _ _ _ h => h) ⟨hA, fun _ => hB⟩ (by (apply Jbl; exact Us.h; exact rfl; exact Sz.h; exact rfl)) rfl ?_; refine TB_take 2 rfl rfl rfl (by kernel_rfl) (by kernel_rfl) (by kernel_rfl) (fun _ _ _ h => h) ⟨hA, fun _ => hB⟩ (by (apply Jbl; exact Us.h; exact rfl; exact Sz.h; exact rfl)) rfl ?_; refine TB_take 3 rfl rfl rfl (by kernel_rfl) (by kernel_rfl) (by kernel_rfl) (fun _ _ _ h => h) ⟨hA, fun _ => hB⟩ (by exact Pu_load Fl.h rfl (fun _ e => (hb8.ch e hT7).ld rfl)) rfl ?_; refine TB_take 4 rfl rfl rfl (by kernel_rfl) (by kernel_rfl) (by kernel_rfl) (fun _ _ _ h => h) ⟨hA, fun _ => hB⟩ (by (apply Jbl; exact Us.h; exact rfl; exact Sz.h; exact rfl)) rfl ?_; refine TB_take 5 rfl rfl rfl (by kernel_rfl) (by kernel_rfl) (by kernel_rfl) (fun _ _ _ h => h) ⟨hA, fun _ => hB⟩ (by exact Pu_load Fl.h rfl (fun _ e => (hb8.ch e hT7).ld rfl)) rfl ?_; refine TB_take 7 rfl rfl rfl (by kernel_rfl) (by kernel_rfl) (by kernel_rfl) (fun _ _ _ h => h) ⟨hA, fun _ => hB⟩ (by (apply Jbl; exact Us.h; exact rfl; exact Sz.h; exact rfl)) rfl ?_; refine TB_take 8 rfl rfl rfl (by kernel_rfl) (by kernel_rfl) (by kernel_rfl) (fun _ _ _ h => h) ⟨hA, fun _ => hB⟩ (by exact Pu_load Fl.h rfl (fun _ e => (hb8.ch e hT7).ld rfl)) rfl ?_)
    (refine TB_takeB 1 rfl rfl rfl (by kernel_rfl) rfl (by kernel_rfl) (by kernel_rfl) (by kernel_rfl) (fun _ _ _ h => h) ⟨hA, fun _ => hB⟩ (by exact Pu_load Fl.h rfl (fun _ e => e.2.ld rfl)) rfl ?_)
    refine TB_one 6 (by kernel_rfl) rfl ?_
    refine TL_call rfl en71 (copyBytes_c (hrb.ext (E8.ext hE)) (by omega)) rfl rfl ?_
    rintro _ w10 ⟨A10, c10, rfl, e10, ho10⟩
    have hE1 := hE.ext e10
    have hs9 := hE.size
    replace hB := hB.ext e10
    replace hA := hA.ext e10
    refine Jbq (TN_anyB ⟨hA, fun _ => hB⟩ ?_)
    refine TB_one 9 (by kernel_rfl) rfl ?_
    refine TL_call rfl en71 (copyBytes_c (hrs.ext (E8.ext hE1)) (by omega)) rfl rfl ?_
    rintro _ w11 ⟨A11, c11, rfl, e11, ho11⟩
    have hs10 := e10.size
    have hs11 := e11.size
    clear hE
    have hE := hE1.ext e11
    replace hB := hB.ext e11
    replace hA := hA.ext e11
    refine Jbq (TN_anyB ⟨hA, fun _ => hB⟩ ?_)
    have o1 : OB w11 _ _ (.slice A10 body.length c10) body := ⟨_, _, rfl, ho10.ext e11⟩
    have o2 : OB w11 _ _ (.slice A11 safe.length c11) safe := ⟨_, _, rfl, ho11⟩
    have hbd : (bkd (⟨id, body, safe, .slice A10 body.length c10, .slice A11 safe.length c11⟩ : Nd)).Nodup := bk2 o1.bin (fun b hb => (o2.bin b hb).1)
    have hbi : ∀ b ∈ bkd (⟨id, body, safe, .slice A10 body.length c10, .slice A11 safe.length c11⟩ : Nd), w9.heap.size ≤ b ∧ b < w11.heap.size := fun b hb => by
      rcases List.mem_append.1 hb with hb | hb
      · have := o1.bin b hb; omega
      · have := o2.bin b hb; omega
    (refine TB_take 10 rfl rfl rfl (by kernel_rfl) (by kernel_rfl) (by kernel_rfl) (fun _ _ _ h => h) ⟨hA, fun _ => hB⟩ (by exact Pu_build (cs := [I id, .slice A10 body.length c10, .slice A11 safe.length c11]) rfl (by kernel_rfl)) rfl ?_)
    refine TB_one 11 (by kernel_rfl) rfl ?_
    refine TL_buildSlice Us.h Zi.h rfl rfl rfl rfl (fillN id A10 A11 body.length c10 safe.length c11) rfl rfl ?_
    intro w12 g12 e12 hg12 hz12 hown12
    have hE3 := hE.ext e12
    clear hE
    have hE := hE3
    replace hB := hB.ext e12
    replace hA := hA.ext e12
    refine Jbq (TN_anyB ⟨hA, fun _ => hB⟩ ?_)
    have hx12 : ONx w12 vn ys := hx8.ext hE
    have hrow : RowO NdC 98 3 w12 w11.heap.size w12.heap.size _ [(⟨id, body, safe, .slice A10 body.length c10, .slice A11 safe.length c11⟩ : Nd)] := RowO.new (l := [(⟨id, body, safe, .slice A10 body.length c10, .slice A11 safe.length c11⟩ : Nd)]) rfl hown12 hg12 hz12
    have hlt6 : ∀ b ∈ bksN vn ys, w5.heap.size ≤ b ∧ b < w9.heap.size := fun b hb => by have := hbk6 b hb; omega
    have hs12 := e12.size
    refine TB_one 12 (by kernel_rfl) rfl ?_
    refine TL_appendN Us.h rfl rfl hx12 hrow.rd (o1.x.ext e12) (o2.x.ext e12) (nd_apart hx8.nd hlt6 hbd hbi) (fun b hb => by
      rcases List.mem_append.1 hb with hb | hb
      · have := hlt6 b hb; omega
      · have := hbi b hb; omega) (by omega) rfl ?_
    intro w13 v13 c13 hloc hx13
    have hs13 := c13.size
    have hone13 : v13.oneCell' = true := hx13.row.one
    replace hA := hA.then (c13.mono (fun j hj => by first | exact hj | exact .inl hj))
    refine Jbq (TN_anyB ⟨hA, fun h => nomatch (show true = false from h)⟩ ?_)
    have hbk13 : ∀ b ∈ bksN v13 (ys ++ [(⟨id, body, safe, .slice A10 body.length c10, .slice A11 safe.length c11⟩ : Nd)]), w5.heap.size ≤ b ∧ b < w13.heap.size := bks_after (m := w12.heap.size) hloc (fun b hb => by have := hlt6 b hb; omega) (fun b hb => by have := hbi b hb; omega) (by omega)
    have hys13 : (ys ++ [(⟨id, body, safe, .slice A10 body.length c10, .slice A11 safe.length c11⟩ : Nd)]).map NdP = d.nodes.take (k + 1) := by rw [List.map_append, hys, htk]; rfl
    (refine TB_take 13 rfl rfl rfl (by kernel_rfl) (by kernel_rfl) (by kernel_rfl) (fun _ _ _ h => h) ⟨hA, fun h => nomatch (show true = false from h)⟩ (by (apply Jbl; exact Us.h; exact rfl; exact Sz.h; exact rfl)) rfl ?_)
    refine TB_one 14 (by kernel_rfl) rfl ?_
    have hb13 : Blk w13 g3 33 (dskC d vn sk st) := hB.ch c13 (fun h => by have := hvnb g3 h; omega)
    refine TL_store rfl rfl Sz.h hone13 hb13 rfl ?_
    intro w14 c14 hz14 hb14
    replace hb14 : Blk w14 g3 33 (dskC d v13 sk st) := hb14
    replace hA := hA.then (c14.mono (fun j hj => .inr (by simp only [Iv] at hj; omega)))
    refine Jbq (TN_anyB ⟨hA, fun h => nomatch (show true = false from h)⟩ ?_)
    refine TB_done (by kernel_rfl) ?_
    repeat' (first | apply Jbq | apply Jbr | apply Jbt | apply Jbx | (apply Jcg; (first | exact Jaa rfl | exact Jaf rfl rfl (by omega)); exact rfl))
    exact TN_round (k + 1, v13, _) (subEnv_cons rfl (subEnv_cons rfl (subEnv_cons rfl (subEnv_cons rfl (subEnv_cons rfl (subEnv_cons rfl (subEnv_nil _))))))) ⟨hlt, c6.trans (c8'.trans hA (fun j hj t => t.elim) (fun j hj t => t)) (fun j hj t => t) (fun j hj t => by
      rcases t with t | t
      · have := hvnb j t; omega
      · simp only [Iv]; omega), hb14, hys13, hx13.ch c14 (fun b hb => by have := hbk13 b hb; simp only [Iv]; omega), fun b hb => by have := hbk13 b hb; omega⟩ (by simp only; omega)
  · obtain rfl : k = ds.length := by omega
    rw [List.take_of_length_le (by omega)] at hys
    have hb16 := hb1.ch c6 (by simp only [Iv]; omega)
    have hb26 := hb2.ch c6 (by simp only [Iv]; omega)
    repeat' (first | apply Jbr | apply Jbs | apply Jbt | apply Jca | apply Jcb | apply Jcc | (apply Jcg; (apply Jbl; exact Us.h; exact rfl; exact Sz.h; exact rfl); exact rfl) | refine Jcg (Pu_load Fl.h rfl (fun _ e => by rw [e]; exact hb16.ld rfl)) rfl ?_)
    refine TL_appendRow Us.h Inf.h rfl rfl rfl LkC_one rfl rfl (RowO.nil w6 w6.heap.size (Nat.le_refl _)) (h0.2.1.row.ext E6) (Nat.le_refl _) (by simp only [List.length_nil]; omega) rfl ?_
    intro w7 vk c7 hok7
    rw [List.nil_append] at hok7
    have c7' : Ext w6 w7 := Ext.then_iv (Ch.refl _ _) c7 (Nat.le_refl _)
    have hs7 := c7'.size
    have hb7 := hb6.ext c7'
    have hb17 := hb16.ext c7'
    have hb27 := hb26.ext c7'
    repeat' ((apply Jcg; (apply Jbl; exact Us.h; exact rfl; exact Sz.h; exact rfl); exact rfl))
    refine TL_store rfl rfl Sz.h hok7.rd.one hb7 rfl ?_
    intro w8 c8 hz8 hb8
    replace hb8 : Blk w8 g3 33 (dskC d vn vk st) := hb8
    have hb18 := hb17.ch c8 (by simp only [Iv]; omega)
    have hb28 := hb27.ch c8 (by simp only [Iv]; omega)
    have hok8 := hok7.ch c8 (by intro j _ _; simp only [Iv]; omega)
    have E8 : Ext w w8 := Ext.then_iv (E6.ext c7') c8 (by omega)
    repeat' (first | apply Jbq | apply Jbr | apply Jbs | apply Jbt | (apply Jcg; (apply Jbl; exact Us.h; exact rfl; exact Sz.h; exact rfl); exact rfl) | refine Jcg (Pu_load Fl.h rfl (fun _ e => by rw [e]; exact hb18.ld rfl)) rfl ?_)
    refine TL_appendRow Us.h Inf.h rfl rfl rfl TnC_one rfl rfl (RowO.nil w8 w8.heap.size (Nat.le_refl _)) (h0.2.2.row.ext E8) (Nat.le_refl _) (by simp only [List.length_nil]; omega) rfl ?_
    intro w9 vt c9 hot9
    rw [List.nil_append] at hot9
    have c9' : Ext w8 w9 := Ext.then_iv (Ch.refl _ _) c9 (Nat.le_refl _)
    have hs9 := c9'.size
    have hb9 := hb8.ext c9'
    have hb29 := hb28.ext c9'
    have hok9 := hok8.ext c9'
    repeat' ((apply Jcg; (apply Jbl; exact Us.h; exact rfl; exact Sz.h; exact rfl); exact rfl))
    refine TL_store rfl rfl Sz.h hot9.rd.one hb9 rfl ?_
    intro w10 c10 hz10 hb10
    replace hb10 : Blk w10 g3 33 (dskC d vn vk vt) := hb10
    have hb210 := hb29.ch c10 (by simp only [Iv]; omega)
    have hok10 := hok9.ch c10 (by intro j _ _; simp only [Iv]; omega)
    have hot10 := hot9.ch c10 (by intro j _ _; simp only [Iv]; omega)
    have E10 : Ext w w10 := Ext.then_iv (E8.ext c9') c10 (by omega)
    have hx10 : ONx w10 vn ys := (((hx6.ext c7').ch c8 (fun b hb => by have := hbk6 b hb; simp only [Iv]; omega)).ext c9').ch c10 (fun b hb => by have := hbk6 b hb; simp only [Iv]; omega)
    repeat' (first | apply Jbq | apply Jbr | apply Jbs | apply Jbt | refine Jcg (Pu_loadAgg (cs := dskC d vn vk vt) Us.h rfl Sz.h rfl (fun _ e j u hu => by rw [e, add0, hb10.cell]; exact hu)) rfl ?_)
    refine TL_storeAgg rfl rfl Sz.h (by show ((dskC d vn vk vt).all (·.oneCell')) = true; simp only [dskC, List.all_cons, List.all_nil, hx10.row.one, hok10.rd.one, hot10.rd.one]; rfl) hb210 rfl ?_
    intro w11 c11 hz11 hb11
    have hok11 := hok10.ch c11 (by intro j _ _; simp only [Iv]; omega)
    have hot11 := hot10.ch c11 (by intro j _ _; simp only [Iv]; omega)
    have hx11 := hx10.ch c11 (fun b hb => by have := hbk6 b hb; simp only [Iv]; omega)
    repeat' (first | apply Jbq | apply Jbr | apply Jbu)
    exact TR_of (resA rfl rfl hb11 Us.h rfl Sz.h) ⟨vn, vk, vt, rfl, Ext.then_iv E10 c11 (by omega), (ODk.of (m1 := w6.heap.size) ⟨ys, hys, hx11, hbk6⟩ hok11 hot11 (Nat.le_refl _) (by omega) (by omega) hs7 (by omega) (by omega)).wide (by omega) (by omega) (Nat.le_refl _)⟩
set_option maxRecDepth 100000 in
set_option maxHeartbeats 16000000 in
theorem specl03Copy_c {w : World} {lo hi : Nat} {d : DiskP} {sn sk st : Value} (h : RDk w lo hi d sn sk st) (hl : totD d ≤ 1048576) :
    Ret Tryz.prog 58 #[.agg (dskC d sn sk st).toArray] w fun v' w' => ∃ sn' sk' st', v' = .agg (dskC d sn' sk' st').toArray ∧ Ext w w' ∧ ODk w' w.heap.size w'.heap.size d sn' sk' st' := by
  obtain ⟨l1, l2, l3⟩ := totD_parts hl
  have nn1 := totNd_nn d.nodes
  have nn2 := totLk_nn d.kept
  have nn3 := totTn_nn d.turns
  have h0 := h
  obtain ⟨ds, A, c, hm, rfl, hc, hr, hok⟩ := h.1
  have hln : d.nodes.length = ds.length := by rw [← hm, List.length_map]
  refine Ret_enter Tryz.func58 rfl rfl rfl ?_
  repeat' (first | apply Jbs | apply Jbt)
  refine TL_box (cs := dskC d (.slice A ds.length c) sk st) rfl rfl ?_
  intro w1 g1 e1 hg1 hz1 hb1
  skip
  refine TL_alloc Zs.h rfl rfl ?_
  intro w5 g2 e2 hg2 hz2 hb2
  replace hb1 := hb1.ext e2
  have E5 : Ext w w5 := e1.ext e2
  have hgg : w.heap.size = g1 ∧ g2 = g1 + 1 ∧ w5.heap.size = g2 + 1 := by omega
  clear hg1 hg2 hz1 hz2 e1 e2
  have hb15 := hb1
  have hb25 := hb2
  repeat' (first | apply Jbq | apply Jbr | apply Jbs | apply Jbt)
  refine TL_buildSlice0 Us.h Sz.h rfl ?_
  intro w4 g4 e4 hg4 hz4 hown4
  replace hb1 := hb1.ext e4
  replace hb2 := hb2.ext e4
  have hx4 : ONx w4 (.slice (some ⟨g4, 0, none⟩) 0 0) [] := ⟨(RowO.new (f := NdC) (l := []) rfl hown4 hg4 hz4).x, fun d hd => (by cases hd), by simp [bksN, blk]⟩
  repeat' (first | apply Jbq | apply Jbr | apply Jbs | apply Jbt | apply Jby | (apply Jcg; (first | exact Jaa rfl | exact Jab rfl | exact Jac Us.h rfl | (apply Jbl; exact Us.h; exact rfl; exact Sz.h; exact rfl)); exact rfl) | refine Jcg (Pu_load Fl.h rfl (fun _ e => by rw [e]; exact hb1.ld rfl)) rfl ?_)
  refine TC_loop (ι := Nat × Value × List Nd) (fun x => [(1, .pointer (some ⟨g1, 0, none⟩)), (2, .pointer (some ⟨g2, 0, none⟩)), (3, x.2.1), (8, .slice A ds.length c), (9, I ds.length), (10, I x.1)])
    (fun x w' => x.1 ≤ ds.length ∧ Ext w5 w' ∧ x.2.2.map NdP = d.nodes.take x.1 ∧ ONx w' x.2.1 x.2.2 ∧ ∀ b ∈ bksN x.2.1 x.2.2, w5.heap.size ≤ b ∧ b < w'.heap.size) (fun x => ds.length - x.1) (0, _, []) (subEnv_cons rfl (subEnv_cons rfl (subEnv_cons rfl (subEnv_cons rfl (subEnv_cons rfl (subEnv_cons rfl (subEnv_nil _))))))) ⟨Nat.zero_le _, e4, by simp, hx4, fun b hb => by
      have : b = g4 := by simpa [bksN, blk] using hb
      omega⟩ ?_
  rintro ⟨k, vn, ys⟩ w6 ⟨hk, c6, hys, hx6, hbk6⟩
  simp only at hk hys hx6 hbk6
  have hyl : ys.length = k := by have := congrArg List.length hys; rw [List.length_map, List.length_take] at this; omega
  have E6 : Ext w w6 := E5.ext c6
  have hs6 := c6.size
  have hs4 := e4.size
  show TC _ _ _ _ [(1, .pointer (some ⟨g1, 0, none⟩)), (2, .pointer (some ⟨g2, 0, none⟩)), (3, vn), (8, .slice A ds.length c), (9, I ds.length), (10, I (k : Int))] w6
  repeat' (first | apply Jbq | apply Jbr | apply Jbs | apply Jbt | (apply Jcg; exact Jad rfl rfl; exact rfl))
  refine Jcx rfl (fun hlt0 => ?_) (fun hge => ?_)
  · have hlt : k < ds.length := by omega
    obtain ⟨ad, rfl, hcell⟩ := Rd.elem NdC_len (hr.ext E6) hlt
    have hnk : d.nodes[k]'(by omega) = NdP ds[k] := by simp only [← hm, List.getElem_map]
    have hwk := totNd_mem (List.getElem_mem (show k < d.nodes.length by omega))
    rw [hnk] at hwk
    have htk : d.nodes.take (k + 1) = d.nodes.take k ++ [NdP ds[k]] := by rw [List.take_succ_eq_append_getElem (by omega), hnk]
    obtain ⟨⟨Ab, cb, hvb, hcb, hrb⟩, ⟨As, cs, hvs, hcs, hrs⟩⟩ := hok _ (List.getElem_mem hlt)
    obtain ⟨x, hx⟩ : ∃ x, x = ds[k] := ⟨_, rfl⟩
    rw [← hx] at hcell hwk htk hvb hvs hcb hcs hrb hrs
    obtain ⟨id, body, safe, vb, vs⟩ := x
    simp only at hvb hvs hcb hcs hrb hrs
    subst hvb hvs
    simp only [NdW, NdP] at hwk
    replace hcell : ∀ j u, [I id, .slice Ab body.length cb, .slice As safe.length cs][j]? = some u → w6.cell? ((ad.add (k * 3)).add j) = some u := hcell
    repeat' (first | apply Jbq | apply Jbr | apply Jbs | apply Jbt | apply Jby | apply Jbz | (apply Jcg; exact Jar Us.h Sz.h rfl rfl (by omega); exact rfl) | refine Jcg (Pu_loadAgg (cs := [I id, .slice Ab body.length cb, .slice As safe.length cs]) Us.h rfl Sz.h rfl (fun _ e j u hu => by rw [e]; exact hcell j u hu)) rfl ?_ | (refine TL_alloc Zs.h rfl rfl ?_; intro w7 g7 e7 hg7 hz7 hb7) | (refine TL_storeAgg rfl rfl Sz.h rfl hb7 rfl ?_; intro w8 c8 hz8 hb8))
    have c8' : Ext w6 w8 := Ext.then_iv e7 c8 (by omega)
    have hs8 := c8'.size
    have hx8 := hx6.ext c8'
    have E8 := E6.ext c8'
    have hvnb : ∀ j ∈ blk vn, w5.heap.size ≤ j ∧ j < w6.heap.size := fun j hj => hbk6 j (List.mem_append.2 (.inl hj))
    have hT7 : ¬ (g7 ∈ blk vn) := by intro h; have := hvnb g7 h; omega
    refine TC_anyB (fun w' => Ch (fun j => j ∈ blk vn) w8 w') (fun _ => True) 13 mixed rfl (Ch.refl _ _).drew trivial ?_
    intro w9 hE hz9 hA hB
    (refine TB_take 0 rfl rfl rfl (by kernel_rfl) (by kernel_rfl) (by kernel_rfl) (fun _ _ _ h => h) ⟨hA, fun _ => hB⟩ (by exact Jaa rfl) rfl ?_; refine TB_take 1 rfl rfl rfl (by kernel_rfl) (by kernel_rfl) (by kernel_rfl) (fun _ _ _ h => h) ⟨hA, fun _ => hB⟩ (by (apply Jbl; exact Us.h; exact rfl; exact Sz.h; exact rfl)) rfl ?_; refine TB_take 2 rfl rfl rfl (by kernel_rfl) (by kernel_rfl) (by kernel_rfl) (fun _ _ _ h => h) ⟨hA, fun _ => hB⟩ (by exact Pu_load Fl.h rfl (fun _ e => (hb8.ch e hT7).ld rfl)) rfl ?_; refine TB_take 4 rfl rfl rfl (by kernel_rfl) (by kernel_rfl) (by kernel_rfl) (fun _ _ _ h => h) ⟨hA, fun _ => hB⟩ (by (apply Jbl; exact Us.h; exact rfl; exact Sz.h; exact rfl)) rfl ?_; refine TB_take 5 rfl rfl rfl (by kernel_rfl) (by kernel_rfl) (by kernel_rfl) (fun _ _ _ h => h) ⟨hA, fun _ => hB⟩ (by exact Pu_load Fl.h rfl (fun _ e => (hb8.ch e hT7).ld rfl)) rfl ?_; refine TB_take 8 rfl rfl rfl (by kernel_rfl) (by kernel_rfl) (by kernel_rfl) (fun _ _ _ h => h) ⟨hA, fun _ => hB⟩ (by (apply Jbl; exact Us.h; exact rfl; exact Sz.h; exact rfl)) rfl ?_; refine TB_take 9 rfl rfl rfl (by kernel_rfl) (by kernel_rfl) (by kernel_rfl) (fun _ _ _ h => h) ⟨hA, fun _ => hB⟩ (by exact Pu_load Fl.h rfl (fun _ e => (hb8.ch e hT7).ld rfl)) rfl ?_)
    have hs9 := hE.size
    refine TB_two 3 7 (by kernel_rfl) rfl rfl ?_ ?_
    · refine TL_buildSlice0 Us.h Sz.h rfl ?_
      intro w10 gb f9 hgb hzb hownb
      have xb := OBx.new hownb hgb hzb
      have ib : ∀ b ∈ blk (.slice (some ⟨gb, 0, none⟩) 0 0), w9.heap.size ≤ b ∧ b < w10.heap.size := fun b hb => by have hb := List.mem_singleton.1 hb; simp only at hb; omega
      replace hE := hE.ext f9
      replace hA : Ch (fun j => j ∈ blk vn) w8 w10 := Ch.mono hE (fun _ t => t.elim)
      refine Jbq (TN_anyB ⟨hA, fun _ => trivial⟩ ?_)
      refine TB_two 6 7 (by kernel_rfl) rfl rfl ?_ ?_
      · refine TL_appendBx Us.h rfl rfl xb ⟨_, _, rfl, hcb, hrb.ext (E8.ext hE)⟩ (by simp only [List.length_nil]; omega) rfl ?_
        intro w11 A1b c1b f10 locb xb
        have z10 := f10.size
        replace hE : Ext w8 w11 := hE.trans f10 (fun _ _ t => t) (fun j hj t => by have := ib j t; omega)
        replace ib := loc_in locb ib (by omega) (by omega)
        replace hA : Ch (fun j => j ∈ blk vn) w8 w11 := Ch.mono hE (fun _ t => t.elim)
        refine Jbq (TN_anyB ⟨hA, fun _ => trivial⟩ ?_)
        refine TB_one 7 (by kernel_rfl) rfl ?_
        refine TL_buildSlice0 Us.h Sz.h rfl ?_
        intro w12 gs f11 hgs hzs howns
        have xs := OBx.new howns hgs hzs
        have is : ∀ b ∈ blk (.slice (some ⟨gs, 0, none⟩) 0 0), w9.heap.size ≤ b ∧ b < w12.heap.size := fun b hb => by have hb := List.mem_singleton.1 hb; simp only at hb; omega
        replace xb := xb.ext f11
        have dsb : ∀ x ∈ blk (.slice (some ⟨gs, 0, none⟩) 0 0), x ∉ blk _ := fun x hx hy => by have := ib x hy; have hx := List.mem_singleton.1 hx; simp only at hx; omega
        have dbs := dis_sym dsb
        replace ib := fun b hb => (by have := ib b hb; omega : w9.heap.size ≤ b ∧ b < w12.heap.size)
        replace hE := hE.ext f11
        replace hA : Ch (fun j => j ∈ blk vn) w8 w12 := Ch.mono hE (fun _ t => t.elim)
        refine Jbq (TN_anyB ⟨hA, fun _ => trivial⟩ ?_)
        refine TB_one 10 (by kernel_rfl) rfl ?_
        refine TL_appendBx Us.h rfl rfl xs ⟨_, _, rfl, hcs, hrs.ext (E8.ext hE)⟩ (by simp only [List.length_nil]; omega) rfl ?_
        intro w13 A1s c1s f12 locs xs
        have z12 := f12.size
        replace xb := xb.ch f12 (fun b hb hn => dbs b hb hn)
        replace dsb := loc_dis locs dsb (fun b hb => (ib b hb).2)
        replace dbs := dis_sym dsb
        replace ib := fun b hb => (by have := ib b hb; omega : w9.heap.size ≤ b ∧ b < w13.heap.size)
        replace hE : Ext w8 w13 := hE.trans f12 (fun _ _ t => t) (fun j hj t => by have := is j t; omega)
        replace is := loc_in locs is (by omega) (by omega)
        replace hA : Ch (fun j => j ∈ blk vn) w8 w13 := Ch.mono hE (fun _ t => t.elim)
        refine Jbq (TN_anyB ⟨hA, fun _ => trivial⟩ ?_)
        have hbd : (bkd (⟨id, [] ++ body, [] ++ safe, .slice A1b ([] ++ body).length c1b, .slice A1s ([] ++ safe).length c1s⟩ : Nd)).Nodup := bk_of dbs
        have hbi : ∀ b ∈ bkd (⟨id, [] ++ body, [] ++ safe, .slice A1b ([] ++ body).length c1b, .slice A1s ([] ++ safe).length c1s⟩ : Nd), w9.heap.size ≤ b ∧ b < w13.heap.size := fun b hb => by
          rcases List.mem_append.1 hb with hb | hb
          · have := ib b hb; omega
          · have := is b hb; omega
        (refine TB_take 11 rfl rfl rfl (by kernel_rfl) (by kernel_rfl) (by kernel_rfl) (fun _ _ _ h => h) ⟨hA, fun _ => hB⟩ (by exact Pu_build (cs := [I id, .slice A1b ([] ++ body).length c1b, .slice A1s ([] ++ safe).length c1s]) rfl (by kernel_rfl)) rfl ?_)
        refine TB_one 12 (by kernel_rfl) rfl ?_
        refine TL_buildSlice Us.h Zi.h rfl rfl rfl rfl (fillN id A1b A1s _ c1b _ c1s) rfl rfl ?_
        intro wE gE eE hgE hzE hownE
        have hE3 := hE.ext eE
        clear hE
        have hE := hE3
        replace hA := hA.ext eE
        refine Jbq (TN_anyB ⟨hA, fun _ => hB⟩ ?_)
        have hxE : ONx wE vn ys := hx8.ext hE
        have hrow : RowO NdC 98 3 wE w13.heap.size wE.heap.size _ [(⟨id, [] ++ body, [] ++ safe, .slice A1b ([] ++ body).length c1b, .slice A1s ([] ++ safe).length c1s⟩ : Nd)] := RowO.new (l := [(⟨id, [] ++ body, [] ++ safe, .slice A1b ([] ++ body).length c1b, .slice A1s ([] ++ safe).length c1s⟩ : Nd)]) rfl hownE hgE hzE
        have hlt6 : ∀ b ∈ bksN vn ys, w5.heap.size ≤ b ∧ b < w9.heap.size := fun b hb => by have := hbk6 b hb; omega
        have hsE := eE.size
        refine TB_one 13 (by kernel_rfl) rfl ?_
        refine TL_appendN Us.h rfl rfl hxE hrow.rd (xb.ext eE) (xs.ext eE) (nd_apart hx8.nd hlt6 hbd hbi) (fun b hb => by
          rcases List.mem_append.1 hb with hb | hb
          · have := hlt6 b hb; omega
          · have := hbi b hb; omega) (by omega) rfl ?_
        intro w13 v13 c13 hloc hx13
        have hs13 := c13.size
        have hone13 : v13.oneCell' = true := hx13.row.one
        replace hA := hA.then (c13.mono (fun j hj => by first | exact hj | exact .inl hj))
        refine Jbq (TN_anyB ⟨hA, fun h => nomatch (show true = false from h)⟩ ?_)
        have hbk13 : ∀ b ∈ bksN v13 (ys ++ [(⟨id, [] ++ body, [] ++ safe, .slice A1b ([] ++ body).length c1b, .slice A1s ([] ++ safe).length c1s⟩ : Nd)]), w5.heap.size ≤ b ∧ b < w13.heap.size := bks_after (m := wE.heap.size) hloc (fun b hb => by have := hlt6 b hb; omega) (fun b hb => by have := hbi b hb; omega) (by omega)
        have hys13 : (ys ++ [(⟨id, [] ++ body, [] ++ safe, .slice A1b ([] ++ body).length c1b, .slice A1s ([] ++ safe).length c1s⟩ : Nd)]).map NdP = d.nodes.take (k + 1) := by rw [List.map_append, hys, htk]; rfl
        (refine TB_take 14 rfl rfl rfl (by kernel_rfl) (by kernel_rfl) (by kernel_rfl) (fun _ _ _ h => h) ⟨hA, fun h => nomatch (show true = false from h)⟩ (by exact Jab rfl) rfl ?_)
        refine TB_done (by kernel_rfl) ?_
        repeat' (first | apply Jbq | apply Jbr | apply Jbt | apply Jbx | (apply Jcg; (first | exact Jaa rfl | exact Jaf rfl rfl (by omega)); exact rfl))
        exact TN_round (k + 1, v13, _) (subEnv_cons rfl (subEnv_cons rfl (subEnv_cons rfl (subEnv_cons rfl (subEnv_cons rfl (subEnv_cons rfl (subEnv_nil _))))))) ⟨hlt, c6.trans (c8'.trans hA (fun j hj t => t.elim) (fun j hj t => t)) (fun j hj t => t) (fun j hj t => by have := hvnb j t; omega), hys13, hx13, hbk13⟩ (by simp only; omega)
      · refine TL_buildSlice0 Us.h Sz.h rfl ?_
        intro w11 gs f10 hgs hzs howns
        have xs := OBx.new howns hgs hzs
        have is : ∀ b ∈ blk (.slice (some ⟨gs, 0, none⟩) 0 0), w9.heap.size ≤ b ∧ b < w11.heap.size := fun b hb => by have hb := List.mem_singleton.1 hb; simp only at hb; omega
        replace xb := xb.ext f10
        have dsb : ∀ x ∈ blk (.slice (some ⟨gs, 0, none⟩) 0 0), x ∉ blk _ := fun x hx hy => by have := ib x hy; have hx := List.mem_singleton.1 hx; simp only at hx; omega
        have dbs := dis_sym dsb
        replace ib := fun b hb => (by have := ib b hb; omega : w9.heap.size ≤ b ∧ b < w11.heap.size)
        replace hE := hE.ext f10
        replace hA : Ch (fun j => j ∈ blk vn) w8 w11 := Ch.mono hE (fun _ t => t.elim)
        refine Jbq (TN_anyB ⟨hA, fun _ => trivial⟩ ?_)
        refine TB_one 6 (by kernel_rfl) rfl ?_
        refine TL_appendBx Us.h rfl rfl xb ⟨_, _, rfl, hcb, hrb.ext (E8.ext hE)⟩ (by simp only [List.length_nil]; omega) rfl ?_
        intro w12 A1b c1b f11 locb xb
        have z11 := f11.size
        replace xs := xs.ch f11 (fun b hb hn => dsb b hb hn)
        replace dbs := loc_dis locb dbs (fun b hb => (is b hb).2)
        replace dsb := dis_sym dbs
        replace is := fun b hb => (by have := is b hb; omega : w9.heap.size ≤ b ∧ b < w12.heap.size)
        replace hE : Ext w8 w12 := hE.trans f11 (fun _ _ t => t) (fun j hj t => by have := ib j t; omega)
        replace ib := loc_in locb ib (by omega) (by omega)
        replace hA : Ch (fun j => j ∈ blk vn) w8 w12 := Ch.mono hE (fun _ t => t.elim)
        refine Jbq (TN_anyB ⟨hA, fun _ => trivial⟩ ?_)
        refine TB_one 10 (by kernel_rfl) rfl ?_
        refine TL_appendBx Us.h rfl rfl xs ⟨_, _, rfl, hcs, hrs.ext (E8.ext hE)⟩ (by simp only [List.length_nil]; omega) rfl ?_
        intro w13 A1s c1s f12 locs xs
        have z12 := f12.size
        replace xb := xb.ch f12 (fun b hb hn => dbs b hb hn)
        replace dsb := loc_dis locs dsb (fun b hb => (ib b hb).2)
        replace dbs := dis_sym dsb
        replace ib := fun b hb => (by have := ib b hb; omega : w9.heap.size ≤ b ∧ b < w13.heap.size)
        replace hE : Ext w8 w13 := hE.trans f12 (fun _ _ t => t) (fun j hj t => by have := is j t; omega)
        replace is := loc_in locs is (by omega) (by omega)
        replace hA : Ch (fun j => j ∈ blk vn) w8 w13 := Ch.mono hE (fun _ t => t.elim)
        refine Jbq (TN_anyB ⟨hA, fun _ => trivial⟩ ?_)
        have hbd : (bkd (⟨id, [] ++ body, [] ++ safe, .slice A1b ([] ++ body).length c1b, .slice A1s ([] ++ safe).length c1s⟩ : Nd)).Nodup := bk_of dbs
        have hbi : ∀ b ∈ bkd (⟨id, [] ++ body, [] ++ safe, .slice A1b ([] ++ body).length c1b, .slice A1s ([] ++ safe).length c1s⟩ : Nd), w9.heap.size ≤ b ∧ b < w13.heap.size := fun b hb => by
          rcases List.mem_append.1 hb with hb | hb
          · have := ib b hb; omega
          · have := is b hb; omega
        (refine TB_take 11 rfl rfl rfl (by kernel_rfl) (by kernel_rfl) (by kernel_rfl) (fun _ _ _ h => h) ⟨hA, fun _ => hB⟩ (by exact Pu_build (cs := [I id, .slice A1b ([] ++ body).length c1b, .slice A1s ([] ++ safe).length c1s]) rfl (by kernel_rfl)) rfl ?_)
        refine TB_one 12 (by kernel_rfl) rfl ?_
        refine TL_buildSlice Us.h Zi.h rfl rfl rfl rfl (fillN id A1b A1s _ c1b _ c1s) rfl rfl ?_
        intro wE gE eE hgE hzE hownE
        have hE3 := hE.ext eE
        clear hE
        have hE := hE3
        replace hA := hA.ext eE
        refine Jbq (TN_anyB ⟨hA, fun _ => hB⟩ ?_)
        have hxE : ONx wE vn ys := hx8.ext hE
        have hrow : RowO NdC 98 3 wE w13.heap.size wE.heap.size _ [(⟨id, [] ++ body, [] ++ safe, .slice A1b ([] ++ body).length c1b, .slice A1s ([] ++ safe).length c1s⟩ : Nd)] := RowO.new (l := [(⟨id, [] ++ body, [] ++ safe, .slice A1b ([] ++ body).length c1b, .slice A1s ([] ++ safe).length c1s⟩ : Nd)]) rfl hownE hgE hzE
        have hlt6 : ∀ b ∈ bksN vn ys, w5.heap.size ≤ b ∧ b < w9.heap.size := fun b hb => by have := hbk6 b hb; omega
        have hsE := eE.size
        refine TB_one 13 (by kernel_rfl) rfl ?_
        refine TL_appendN Us.h rfl rfl hxE hrow.rd (xb.ext eE) (xs.ext eE) (nd_apart hx8.nd hlt6 hbd hbi) (fun b hb => by
          rcases List.mem_append.1 hb with hb | hb
          · have := hlt6 b hb; omega
          · have := hbi b hb; omega) (by omega) rfl ?_
        intro w13 v13 c13 hloc hx13
        have hs13 := c13.size
        have hone13 : v13.oneCell' = true := hx13.row.one
        replace hA := hA.then (c13.mono (fun j hj => by first | exact hj | exact .inl hj))
        refine Jbq (TN_anyB ⟨hA, fun h => nomatch (show true = false from h)⟩ ?_)
        have hbk13 : ∀ b ∈ bksN v13 (ys ++ [(⟨id, [] ++ body, [] ++ safe, .slice A1b ([] ++ body).length c1b, .slice A1s ([] ++ safe).length c1s⟩ : Nd)]), w5.heap.size ≤ b ∧ b < w13.heap.size := bks_after (m := wE.heap.size) hloc (fun b hb => by have := hlt6 b hb; omega) (fun b hb => by have := hbi b hb; omega) (by omega)
        have hys13 : (ys ++ [(⟨id, [] ++ body, [] ++ safe, .slice A1b ([] ++ body).length c1b, .slice A1s ([] ++ safe).length c1s⟩ : Nd)]).map NdP = d.nodes.take (k + 1) := by rw [List.map_append, hys, htk]; rfl
        (refine TB_take 14 rfl rfl rfl (by kernel_rfl) (by kernel_rfl) (by kernel_rfl) (fun _ _ _ h => h) ⟨hA, fun h => nomatch (show true = false from h)⟩ (by exact Jab rfl) rfl ?_)
        refine TB_done (by kernel_rfl) ?_
        repeat' (first | apply Jbq | apply Jbr | apply Jbt | apply Jbx | (apply Jcg; (first | exact Jaa rfl | exact Jaf rfl rfl (by omega)); exact rfl))
        exact TN_round (k + 1, v13, _) (subEnv_cons rfl (subEnv_cons rfl (subEnv_cons rfl (subEnv_cons rfl (subEnv_cons rfl (subEnv_cons rfl (subEnv_nil _))))))) ⟨hlt, c6.trans (c8'.trans hA (fun j hj t => t.elim) (fun j hj t => t)) (fun j hj t => t) (fun j hj t => by have := hvnb j t; omega), hys13, hx13, hbk13⟩ (by simp only; omega)
    · refine TL_buildSlice0 Us.h Sz.h rfl ?_
      intro w10 gs f9 hgs hzs howns
      have xs := OBx.new howns hgs hzs
      have is : ∀ b ∈ blk (.slice (some ⟨gs, 0, none⟩) 0 0), w9.heap.size ≤ b ∧ b < w10.heap.size := fun b hb => by have hb := List.mem_singleton.1 hb; simp only at hb; omega
      replace hE := hE.ext f9
      replace hA : Ch (fun j => j ∈ blk vn) w8 w10 := Ch.mono hE (fun _ t => t.elim)
      refine Jbq (TN_anyB ⟨hA, fun _ => trivial⟩ ?_)
      refine TB_one 3 (by kernel_rfl) rfl ?_
      refine TL_buildSlice0 Us.h Sz.h rfl ?_
      intro w11 gb f10 hgb hzb hownb
      have xb := OBx.new hownb hgb hzb
      have ib : ∀ b ∈ blk (.slice (some ⟨gb, 0, none⟩) 0 0), w9.heap.size ≤ b ∧ b < w11.heap.size := fun b hb => by have hb := List.mem_singleton.1 hb; simp only at hb; omega
      replace xs := xs.ext f10
      have dbs : ∀ x ∈ blk (.slice (some ⟨gb, 0, none⟩) 0 0), x ∉ blk _ := fun x hx hy => by have := is x hy; have hx := List.mem_singleton.1 hx; simp only at hx; omega
      have dsb := dis_sym dbs
      replace is := fun b hb => (by have := is b hb; omega : w9.heap.size ≤ b ∧ b < w11.heap.size)
      replace hE := hE.ext f10
      replace hA : Ch (fun j => j ∈ blk vn) w8 w11 := Ch.mono hE (fun _ t => t.elim)
      refine Jbq (TN_anyB ⟨hA, fun _ => trivial⟩ ?_)
      refine TB_one 6 (by kernel_rfl) rfl ?_
      refine TL_appendBx Us.h rfl rfl xb ⟨_, _, rfl, hcb, hrb.ext (E8.ext hE)⟩ (by simp only [List.length_nil]; omega) rfl ?_
      intro w12 A1b c1b f11 locb xb
      have z11 := f11.size
      replace xs := xs.ch f11 (fun b hb hn => dsb b hb hn)
      replace dbs := loc_dis locb dbs (fun b hb => (is b hb).2)
      replace dsb := dis_sym dbs
      replace is := fun b hb => (by have := is b hb; omega : w9.heap.size ≤ b ∧ b < w12.heap.size)
      replace hE : Ext w8 w12 := hE.trans f11 (fun _ _ t => t) (fun j hj t => by have := ib j t; omega)
      replace ib := loc_in locb ib (by omega) (by omega)
      replace hA : Ch (fun j => j ∈ blk vn) w8 w12 := Ch.mono hE (fun _ t => t.elim)
      refine Jbq (TN_anyB ⟨hA, fun _ => trivial⟩ ?_)
      refine TB_one 10 (by kernel_rfl) rfl ?_
      refine TL_appendBx Us.h rfl rfl xs ⟨_, _, rfl, hcs, hrs.ext (E8.ext hE)⟩ (by simp only [List.length_nil]; omega) rfl ?_
      intro w13 A1s c1s f12 locs xs
      have z12 := f12.size
      replace xb := xb.ch f12 (fun b hb hn => dbs b hb hn)
      replace dsb := loc_dis locs dsb (fun b hb => (ib b hb).2)
      replace dbs := dis_sym dsb
      replace ib := fun b hb => (by have := ib b hb; omega : w9.heap.size ≤ b ∧ b < w13.heap.size)
      replace hE : Ext w8 w13 := hE.trans f12 (fun _ _ t => t) (fun j hj t => by have := is j t; omega)
      replace is := loc_in locs is (by omega) (by omega)
      replace hA : Ch (fun j => j ∈ blk vn) w8 w13 := Ch.mono hE (fun _ t => t.elim)
      refine Jbq (TN_anyB ⟨hA, fun _ => trivial⟩ ?_)
      have hbd : (bkd (⟨id, [] ++ body, [] ++ safe, .slice A1b ([] ++ body).length c1b, .slice A1s ([] ++ safe).length c1s⟩ : Nd)).Nodup := bk_of dbs
      have hbi : ∀ b ∈ bkd (⟨id, [] ++ body, [] ++ safe, .slice A1b ([] ++ body).length c1b, .slice A1s ([] ++ safe).length c1s⟩ : Nd), w9.heap.size ≤ b ∧ b < w13.heap.size := fun b hb => by
        rcases List.mem_append.1 hb with hb | hb
        · have := ib b hb; omega
        · have := is b hb; omega
      (refine TB_take 11 rfl rfl rfl (by kernel_rfl) (by kernel_rfl) (by kernel_rfl) (fun _ _ _ h => h) ⟨hA, fun _ => hB⟩ (by exact Pu_build (cs := [I id, .slice A1b ([] ++ body).length c1b, .slice A1s ([] ++ safe).length c1s]) rfl (by kernel_rfl)) rfl ?_)
      refine TB_one 12 (by kernel_rfl) rfl ?_
      refine TL_buildSlice Us.h Zi.h rfl rfl rfl rfl (fillN id A1b A1s _ c1b _ c1s) rfl rfl ?_
      intro wE gE eE hgE hzE hownE
      have hE3 := hE.ext eE
      clear hE
      have hE := hE3
      replace hA := hA.ext eE
      refine Jbq (TN_anyB ⟨hA, fun _ => hB⟩ ?_)
      have hxE : ONx wE vn ys := hx8.ext hE
      have hrow : RowO NdC 98 3 wE w13.heap.size wE.heap.size _ [(⟨id, [] ++ body, [] ++ safe, .slice A1b ([] ++ body).length c1b, .slice A1s ([] ++ safe).length c1s⟩ : Nd)] := RowO.new (l := [(⟨id, [] ++ body, [] ++ safe, .slice A1b ([] ++ body).length c1b, .slice A1s ([] ++ safe).length c1s⟩ : Nd)]) rfl hownE hgE hzE
      have hlt6 : ∀ b ∈ bksN vn ys, w5.heap.size ≤ b ∧ b < w9.heap.size := fun b hb => by have := hbk6 b hb; omega
      have hsE := eE.size
      refine TB_one 13 (by kernel_rfl) rfl ?_
      refine TL_appendN Us.h rfl rfl hxE hrow.rd (xb.ext eE) (xs.ext eE) (nd_apart hx8.nd hlt6 hbd hbi) (fun b hb => by
        rcases List.mem_append.1 hb with hb | hb
        · have := hlt6 b hb; omega
        · have := hbi b hb; omega) (by omega) rfl ?_
      intro w13 v13 c13 hloc hx13
      have hs13 := c13.size
      have hone13 : v13.oneCell' = true := hx13.row.one
      replace hA := hA.then (c13.mono (fun j hj => by first | exact hj | exact .inl hj))
      refine Jbq (TN_anyB ⟨hA, fun h => nomatch (show true = false from h)⟩ ?_)
      have hbk13 : ∀ b ∈ bksN v13 (ys ++ [(⟨id, [] ++ body, [] ++ safe, .slice A1b ([] ++ body).length c1b, .slice A1s ([] ++ safe).length c1s⟩ : Nd)]), w5.heap.size ≤ b ∧ b < w13.heap.size := bks_after (m := wE.heap.size) hloc (fun b hb => by have := hlt6 b hb; omega) (fun b hb => by have := hbi b hb; omega) (by omega)
      have hys13 : (ys ++ [(⟨id, [] ++ body, [] ++ safe, .slice A1b ([] ++ body).length c1b, .slice A1s ([] ++ safe).length c1s⟩ : Nd)]).map NdP = d.nodes.take (k + 1) := by rw [List.map_append, hys, htk]; rfl
      (refine TB_take 14 rfl rfl rfl (by kernel_rfl) (by kernel_rfl) (by kernel_rfl) (fun _ _ _ h => h) ⟨hA, fun h => nomatch (show true = false from h)⟩ (by exact Jab rfl) rfl ?_)
      refine TB_done (by kernel_rfl) ?_
      repeat' (first | apply Jbq | apply Jbr | apply Jbt | apply Jbx | (apply Jcg; (first | exact Jaa rfl | exact Jaf rfl rfl (by omega)); exact rfl))
      exact TN_round (k + 1, v13, _) (subEnv_cons rfl (subEnv_cons rfl (subEnv_cons rfl (subEnv_cons rfl (subEnv_cons rfl (subEnv_cons rfl (subEnv_nil _))))))) ⟨hlt, c6.trans (c8'.trans hA (fun j hj t => t.elim) (fun j hj t => t)) (fun j hj t => t) (fun j hj t => by have := hvnb j t; omega), hys13, hx13, hbk13⟩ (by simp only; omega)
  · obtain rfl : k = ds.length := by omega
    rw [List.take_of_length_le (by omega)] at hys
    have hb16 := hb15.ext c6
    have hb26 := hb25.ext c6
    repeat' (first | apply Jbr | apply Jbs | apply Jbt | apply Jca | apply Jcb | apply Jcc | (apply Jcg; (first | exact Jaa rfl | (apply Jbl; exact Us.h; exact rfl; exact Sz.h; exact rfl)); exact rfl))
    refine TL_store rfl rfl Sz.h hx6.row.one hb16 rfl ?_
    intro w7 c7 hz7 hb7
    replace hb7 : Blk w7 g1 33 (dskC d vn sk st) := hb7
    have hb27 := hb26.ch c7 (by simp only [Iv]; omega)
    have hx7 := hx6.ch c7 (fun b hb => by have := hbk6 b hb; simp only [Iv]; omega)
    have E7 : Ext w w7 := Ext.then_iv E6 c7 (by omega)
    repeat' (first | apply Jbq | apply Jbr | apply Jbs | apply Jbt)
    refine TL_buildSlice0 Us.h Sz.h rfl ?_
    intro w8 g8 e8 hg8 hz8 hown8
    have hb8 := hb7.ext e8
    repeat' (first | (apply Jcg; (apply Jbl; exact Us.h; exact rfl; exact Sz.h; exact rfl); exact rfl) | refine Jcg (Pu_load Fl.h rfl (fun _ e => by rw [e]; exact hb8.ld rfl)) rfl ?_)
    refine TL_appendRow Us.h Inf.h rfl rfl rfl LkC_one rfl rfl (RowO.new (l := []) rfl hown8 hg8 hz8) (h0.2.1.row.ext (E7.ext e8)) e8.size (by simp only [List.length_nil]; omega) rfl ?_
    intro w9 vk c9 hok9
    rw [List.nil_append] at hok9
    have c9' : Ext w7 w9 := Ext.then_iv e8 c9 (Nat.le_refl _)
    have hs9 := c9'.size
    have hb9 := hb7.ext c9'
    have hb29 := hb27.ext c9'
    have hx9 := hx7.ext c9'
    repeat' ((apply Jcg; (apply Jbl; exact Us.h; exact rfl; exact Sz.h; exact rfl); exact rfl))
    refine TL_store rfl rfl Sz.h hok9.rd.one hb9 rfl ?_
    intro w10 c10 hz10 hb10
    replace hb10 : Blk w10 g1 33 (dskC d vn vk st) := hb10
    have hb210 := hb29.ch c10 (by simp only [Iv]; omega)
    have hok10 := hok9.ch c10 (by intro j _ _; simp only [Iv]; omega)
    have hx10 := hx9.ch c10 (fun b hb => by have := hbk6 b hb; simp only [Iv]; omega)
    have E10 : Ext w w10 := Ext.then_iv (E7.ext c9') c10 (by omega)
    repeat' (first | apply Jbq | apply Jbr | apply Jbs | apply Jbt)
    refine TL_buildSlice0 Us.h Sz.h rfl ?_
    intro w11 g11 e11 hg11 hz11 hown11
    have hb11 := hb10.ext e11
    repeat' (first | (apply Jcg; (apply Jbl; exact Us.h; exact rfl; exact Sz.h; exact rfl); exact rfl) | refine Jcg (Pu_load Fl.h rfl (fun _ e => by rw [e]; exact hb11.ld rfl)) rfl ?_)
    refine TL_appendRow Us.h Inf.h rfl rfl rfl TnC_one rfl rfl (RowO.new (l := []) rfl hown11 hg11 hz11) (h0.2.2.row.ext (E10.ext e11)) e11.size (by simp only [List.length_nil]; omega) rfl ?_
    intro w12 vt c12 hot12
    rw [List.nil_append] at hot12
    have c12' : Ext w10 w12 := Ext.then_iv e11 c12 (Nat.le_refl _)
    have hs12 := c12'.size
    have hb12 := hb10.ext c12'
    have hb212 := hb210.ext c12'
    have hok12 := hok10.ext c12'
    have hx12 := hx10.ext c12'
    repeat' ((apply Jcg; (apply Jbl; exact Us.h; exact rfl; exact Sz.h; exact rfl); exact rfl))
    refine TL_store rfl rfl Sz.h hot12.rd.one hb12 rfl ?_
    intro w13 c13 hz13 hb13
    replace hb13 : Blk w13 g1 33 (dskC d vn vk vt) := hb13
    have hb213 := hb212.ch c13 (by simp only [Iv]; omega)
    have hok13 := hok12.ch c13 (by intro j _ _; simp only [Iv]; omega)
    have hot13 := hot12.ch c13 (by intro j _ _; simp only [Iv]; omega)
    have hx13 := hx12.ch c13 (fun b hb => by have := hbk6 b hb; simp only [Iv]; omega)
    have E13 : Ext w w13 := Ext.then_iv (E10.ext c12') c13 (by omega)
    repeat' (first | apply Jbq | apply Jbr | apply Jbs | apply Jbt | refine Jcg (Pu_loadAgg (cs := dskC d vn vk vt) Us.h rfl Sz.h rfl (fun _ e j u hu => by rw [e, add0, hb13.cell]; exact hu)) rfl ?_)
    refine TL_storeAgg rfl rfl Sz.h (by show ((dskC d vn vk vt).all (·.oneCell')) = true; simp only [dskC, List.all_cons, List.all_nil, hx13.row.one, hok13.rd.one, hot13.rd.one]; rfl) hb213 rfl ?_
    intro w14 c14 hz14 hb14
    have hok14 := hok13.ch c14 (by intro j _ _; simp only [Iv]; omega)
    have hot14 := hot13.ch c14 (by intro j _ _; simp only [Iv]; omega)
    have hx14 := hx13.ch c14 (fun b hb => by have := hbk6 b hb; simp only [Iv]; omega)
    repeat' (first | apply Jbq | apply Jbr | apply Jbu)
    exact TR_of (resA rfl rfl hb14 Us.h rfl Sz.h) ⟨vn, vk, vt, rfl, Ext.then_iv E13 c14 (by omega), (ODk.of (m1 := w6.heap.size) ⟨ys, hys, hx14, hbk6⟩ hok14 hot14 (by omega) (by omega) (by omega) (by omega) (by omega) (by omega)).wide (by omega) (by omega) (Nat.le_refl _)⟩
end Go.Proofs.YtggaghghclomkaaGreat
