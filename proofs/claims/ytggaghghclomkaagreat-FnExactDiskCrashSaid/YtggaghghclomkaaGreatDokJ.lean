/- Contracts: whether a disk is right, by the program: the numbers fit; the whole. -/
import Derived.Test.YtggaghghclomkaaGreatDokI

namespace Go.Proofs.YtggaghghclomkaaGreat
open Go.RowKit
def crs (ts : List TnD) : List Int := (ts.filter (fun t => decide (t.kind = 1))).map (·.id)
theorem crs_len (ts : List TnD) : (crs ts).length ≤ ts.length := by
  unfold crs
  rw [List.length_map]
  exact List.length_filter_le _ _
theorem crs_succ {ts : List TnD} {k : Nat} (h : k < ts.length) : crs (ts.take (k + 1)) = crs (ts.take k) ++ (if ts[k].kind = 1 then [ts[k].id] else []) := by
  unfold crs
  rw [List.take_succ_eq_append_getElem h, List.filter_append, List.map_append]
  by_cases h1 : ts[k].kind = 1 <;> simp [h1]
theorem pIds_crs (d : DiskP) : pIds d = d.kept.map (·.id) ++ crs d.turns := rfl
def IFit (d : DiskP) : Prop := (pIds d).Nodup ∧ (pIds d).length = d.nodes.length ∧ ∀ p ∈ d.nodes, p.1 ∈ pIds d
open Classical in
noncomputable def pFit (d : DiskP) : Bool := decide (IFit d)
open Classical in
theorem pFit_yes {d : DiskP} (h : IFit d) : pFit d = true := by unfold pFit; exact decide_eq_true h
open Classical in
theorem pFit_no {d : DiskP} (h : ¬ IFit d) : pFit d = false := by unfold pFit; exact decide_eq_false h
open Classical in
theorem pFit_of {d : DiskP} (h : pFit d = true) : IFit d := by unfold pFit at h; exact of_decide_eq_true h
open Classical in
theorem pFit_not {d : DiskP} (h : pFit d = false) : ¬ IFit d := by unfold pFit at h; exact of_decide_eq_false h
section
variable {C : World → Prop} {n : Nat} {l : Env} {ty : TypeId} {pos : String} {af : Array Edge} {m x : Operand} {b : Nat} {dd : Option Nat} {i : Int} {s : List Int}
theorem Pu_setLookT (hm : ev l m = some (.map (some b))) (hx : ev l x = some (I i)) (hi : -9223372036854775808 ≤ i ∧ i ≤ 9223372036854775807) (hq : i ∈ s) (hM : ∀ w, C w → ∃ k, MS w b k s) :
    Pu Tryz.prog C n l ⟨dd, .lookup 172 m x false, ty, pos, af, none⟩ (I 1) := by
  have := Pu_setLook (n := n) (ty := ty) (pos := pos) (af := af) (dd := dd) hm hx hi hM
  rwa [if_pos hq] at this
theorem Pu_setLookF (hm : ev l m = some (.map (some b))) (hx : ev l x = some (I i)) (hi : -9223372036854775808 ≤ i ∧ i ≤ 9223372036854775807) (hq : i ∉ s) (hM : ∀ w, C w → ∃ k, MS w b k s) :
    Pu Tryz.prog C n l ⟨dd, .lookup 172 m x false, ty, pos, af, none⟩ (I 0) := by
  have := Pu_setLook (n := n) (ty := ty) (pos := pos) (af := af) (dd := dd) hm hx hi hM
  rwa [if_neg hq] at this
end
theorem in_d (n lo hi : Int) (w : World) : Ret Tryz.prog 101 #[I n, I lo, I hi] w fun v w' => v = .bool (decide (lo ≤ n ∧ n ≤ hi)) ∧ w = w' := (in_c n lo hi w).mono fun v w' h => ⟨h.1, h.2⟩
attribute [local irreducible] TL TC TN TX TR TQ TA Pu Ret
set_option maxRecDepth 100000 in
set_option maxHeartbeats 4000000 in
theorem idsFit_c {w : World} {lo hi : Nat} {d : DiskP} {sn sk st : Value} (h : RDk w lo hi d sn sk st) (hf : d.fits) (hl1 : d.nodes.length ≤ 1000) (hl2 : d.kept.length ≤ 1000) (hl3 : d.turns.length ≤ 1000) (hN : ∀ p ∈ d.nodes, 1 ≤ p.1 ∧ p.1 ≤ 1000000) :
    Ret Tryz.prog 141 #[.agg (dskC d sn sk st).toArray] w fun v' w' => v' = .bool (pFit d) ∧ Ext w w' := by
  obtain ⟨ds, An, cn, hm, rfl, hcn, hrn, hok⟩ := h.1
  obtain ⟨Ak, ck, rfl, hck, hrk⟩ := h.2.1.row
  obtain ⟨At, ct, rfl, hct, hrt⟩ := h.2.2.row
  have hln : d.nodes.length = ds.length := by rw [← hm, List.length_map]
  obtain ⟨_, _, _, _, ⟨_, f6⟩, ⟨_, f8⟩⟩ := hf
  refine Ret_enter Tryz.func141 rfl rfl rfl ?_
  repeat' (first | apply Jbs | apply Jbt)
  refine TL_box (cs := dskC d (.slice An ds.length cn) (.slice Ak d.kept.length ck) (.slice At d.turns.length ct)) rfl rfl ?_
  intro wb g E hg hz hb0
  clear hz
  have hzb := E.size
  repeat' (first | apply Jbq | apply Jbr | apply Jbs | apply Jbt | (apply Jcg; exact Jab rfl; exact rfl))
  refine TL_makeMap rfl ?_
  intro w1 e1 hz1 _ hM1
  obtain ⟨b, hb⟩ : ∃ b, b = wb.heap.size := ⟨_, rfl⟩
  rw [← hb] at hM1 ⊢
  have hb1 := hb0.ext e1
  repeat' (first | apply Jbq | apply Jbr | apply Jbs | apply Jbt | apply Jby | (apply Jcg; (first | exact Jaa rfl | exact Jab rfl | exact Jac Us.h rfl | (apply Jbl; exact Us.h; exact rfl; exact Sz.h; exact rfl)); exact rfl) | refine Jcg (Pu_load Fl.h rfl (fun _ e => by rw [e]; exact hb1.ld rfl)) rfl ?_)
  refine TC_loop (ι := Nat) (fun k => [(1, .pointer (some ⟨g, 0, none⟩)), (3, .map (some b)), (4, I k), (13, .slice Ak d.kept.length ck), (14, I d.kept.length), (15, I k)]) (fun k w' => k ≤ d.kept.length ∧ Ext wb w' ∧ MS w' b k ((d.kept.take k).map (·.id))) (fun k => d.kept.length - k) 0 (subEnv_cons rfl (subEnv_cons rfl (subEnv_cons rfl (subEnv_cons rfl (subEnv_cons rfl (subEnv_cons rfl (subEnv_nil _))))))) ⟨Nat.zero_le _, e1, hM1⟩ ?_
  intro k w2 ⟨hk, e2, hM2⟩
  have hbl := World.ownsMap.lt hM2
  repeat' (first | apply Jbq | apply Jbr | apply Jbs | apply Jbt | (apply Jcg; exact Jad rfl rfl; exact rfl))
  refine Jcx rfl (fun hlt0 => ?_) (fun hge => ?_)
  · have hlt : k < d.kept.length := by omega
    obtain ⟨ad, rfl, hcell⟩ := Rd.elem LkC_len (hrk.ext (E.ext e2)) hlt
    have hfk := f6 _ (List.getElem_mem hlt)
    repeat' (first | apply Jbq | apply Jbr | apply Jbs | apply Jbt | apply Jby | apply Jbz | (apply Jcg; (first | exact Jaa rfl | exact Jar Us.h Sz.h rfl rfl (by omega) | (apply Jbl; exact Us.h; exact rfl; exact Sz.h; exact rfl)); exact rfl) | refine Jcg (Pu_loadAgg (cs := LkC d.kept[k]) Us.h rfl Sz.h rfl (fun _ e j u hu => by rw [e]; exact hcell j u hu)) rfl ?_ | (refine TL_alloc Zs.h rfl rfl ?_; intro w3 g3 e3 hg3 hz3 hb3) | (refine TL_storeAgg rfl rfl Sz.h rfl hb3 rfl ?_; intro w4 c4 hz4 hb4) | refine Jcg (Pu_load Fl.h rfl (fun _ e => by rw [e]; exact hb4.ld rfl)) rfl ?_)
    have hM4 := (hM2.ext e3).ch c4 (by simp only [Iv]; omega)
    refine TL_setPut rfl rfl rfl hM4 hfk.2 (by omega) ?_
    intro w5 c5 hz5 hM5
    repeat' (first | apply Jbq | apply Jbr | apply Jbt | apply Jbx | (apply Jcg; (first | exact Jaa rfl | exact Jab rfl | exact Jaf rfl rfl (by omega)); exact rfl))
    refine TN_round (k + 1) (subEnv_cons rfl (subEnv_cons rfl (subEnv_cons rfl (subEnv_cons rfl (subEnv_cons rfl (subEnv_cons rfl (subEnv_nil _))))))) ⟨hlt, Ext.then_iv (Ext.then_iv (e2.ext e3) c4 (by have := e2.size; omega)) c5 (by omega), ?_⟩ (by omega)
    rw [List.take_succ_eq_append_getElem hlt, List.map_append]
    exact hM5
  · obtain rfl : k = d.kept.length := by omega
    rw [List.take_length] at hM2
    have hb2 := hb0.ext e2
    clear hb1 hM1 e1
    repeat' (first | apply Jbq | apply Jbr | apply Jbs | apply Jbt | apply Jby | apply Jca | apply Jcb | apply Jcc | (apply Jcg; (first | exact Jaa rfl | exact Jac Us.h rfl | (apply Jbl; exact Us.h; exact rfl; exact Sz.h; exact rfl)); exact rfl) | refine Jcg (Pu_load Fl.h rfl (fun _ e => by rw [e]; exact hb2.ld rfl)) rfl ?_)
    refine TC_loop (ι := Nat) (fun k => [(1, .pointer (some ⟨g, 0, none⟩)), (3, .map (some b)), (4, I ((d.kept.length + (crs (d.turns.take k)).length : Nat) : Int)), (26, .slice At d.turns.length ct), (27, I d.turns.length), (28, I k)]) (fun k w' => k ≤ d.turns.length ∧ Ext wb w' ∧ MS w' b (d.kept.length + k) (d.kept.map (·.id) ++ crs (d.turns.take k))) (fun k => d.turns.length - k) 0 (subEnv_cons rfl (subEnv_cons rfl (subEnv_cons rfl (subEnv_cons rfl (subEnv_cons rfl (subEnv_cons rfl (subEnv_nil _))))))) ⟨Nat.zero_le _, e2, by simpa [crs] using hM2⟩ ?_
    intro k w3 ⟨hk, e3, hM3⟩
    have hbl := World.ownsMap.lt hM3
    have hcl := crs_len (d.turns.take k)
    rw [List.length_take] at hcl
    repeat' (first | apply Jbq | apply Jbr | apply Jbs | apply Jbt | (apply Jcg; exact Jad rfl rfl; exact rfl))
    refine Jcx rfl (fun hlt0 => ?_) (fun hge => ?_)
    · have hlt : k < d.turns.length := by omega
      have hcs := crs_succ hlt
      obtain ⟨ad, rfl, hcell⟩ := Rd.elem TnC_len (hrt.ext (E.ext e3)) hlt
      have hfk := f8 _ (List.getElem_mem hlt)
      repeat' (first | apply Jbq | apply Jbr | apply Jbs | apply Jbt | apply Jby | apply Jbz | (apply Jcg; (first | exact Jak rfl rfl | exact Jar Us.h Sz.h rfl rfl (by omega) | (apply Jbl; exact Us.h; exact rfl; exact Sz.h; exact rfl)); exact rfl) | refine Jcg (Pu_loadAgg (cs := TnC d.turns[k]) Us.h rfl Sz.h rfl (fun _ e j u hu => by rw [e]; exact hcell j u hu)) rfl ?_ | (refine TL_alloc Zs.h rfl rfl ?_; intro w4 g4 e4 hg4 hz4 hb4) | (refine TL_storeAgg rfl rfl Sz.h rfl hb4 rfl ?_; intro w5 c5 hz5 hb5) | refine Jcg (Pu_load Fl.h rfl (fun _ e => by rw [e]; exact hb5.ld rfl)) rfl ?_)
      have hM5 := (hM3.ext e4).ch c5 (by simp only [Iv]; omega)
      have E5 : Ext wb w5 := Ext.then_iv (e3.ext e4) c5 (by have := e3.size; omega)
      refine Jcx rfl (fun h1 => ?_) (fun h1 => ?_)
      · rw [if_pos h1] at hcs
        repeat' (first | apply Jbs | apply Jbt | (apply Jcg; (first | exact Jaa rfl | (apply Jbl; exact Us.h; exact rfl; exact Sz.h; exact rfl)); exact rfl) | refine Jcg (Pu_load Fl.h rfl (fun _ e => by rw [e]; exact hb5.ld rfl)) rfl ?_)
        refine TL_setPut rfl rfl rfl hM5 hfk.2.2 (by omega) ?_
        intro w6 c6 hz6 hM6
        have hle : (crs (d.turns.take (k + 1))).length = (crs (d.turns.take k)).length + 1 := by rw [hcs, List.length_append]; rfl
        repeat' (first | apply Jbq | apply Jbr | apply Jbt | apply Jbx | (apply Jcg; (first | exact Jaa rfl | exact Jab rfl | exact Jaf rfl rfl (by omega)); exact rfl))
        refine TN_round (k + 1) (subEnv_cons rfl (subEnv_cons rfl (subEnv_cons (congrArg (fun z => some (I z)) (by rw [hle]; omega)) (subEnv_cons rfl (subEnv_cons rfl (subEnv_cons rfl (subEnv_nil _))))))) ⟨hlt, Ext.then_iv E5 c6 (by omega), ?_⟩ (by omega)
        rw [hcs, ← List.append_assoc]
        exact hM6
      · rw [if_neg h1, List.append_nil] at hcs
        repeat' (first | apply Jbq | apply Jbr | apply Jbt | apply Jbx | apply Jbz | (apply Jcg; (first | exact Jaa rfl | exact Jaf rfl rfl (by omega)); exact rfl))
        refine TN_round (k + 1) (subEnv_cons rfl (subEnv_cons rfl (subEnv_cons (congrArg (fun z => some (I z)) (by rw [hcs])) (subEnv_cons rfl (subEnv_cons rfl (subEnv_cons rfl (subEnv_nil _))))))) ⟨hlt, E5, ?_⟩ (by omega)
        rw [hcs]
        exact World.ownsMap.mono hM5 (by omega)
    · obtain rfl : k = d.turns.length := by omega
      rw [List.take_length] at hM3 hcl ⊢
      rw [← pIds_crs] at hM3
      have hpl : (pIds d).length = d.kept.length + (crs d.turns).length := by rw [pIds_crs, List.length_append, List.length_map]
      rw [← hpl]
      have hsz := setD_size (pIds d)
      have hb3 := hb0.ext e3
      repeat' (first | apply Jbq | apply Jbr | apply Jbs | apply Jbt | apply Jbu | apply Jbv | apply Jby | apply Jbz | apply Jca | apply Jcb | apply Jcc | (refine Jce rfl ?_) | (apply Jcg; (first | exact Jaa rfl | exact Jab rfl | exact Jac Us.h rfl | exact Jah rfl rfl | exact Jai rfl rfl | exact Jal rfl rfl | (apply Jbl; exact Us.h; exact rfl; exact Sz.h; exact rfl)); exact rfl) | refine Jch rfl rfl rfl ?_ | refine Jci rfl rfl rfl rfl rfl ?_ | refine Jcg (Pu_load Fl.h rfl (fun _ e => by rw [e]; exact hb3.ld rfl)) rfl ?_ | refine Jcg (Pu_setLen rfl (fun w' e => ⟨d.kept.length + d.turns.length, by rw [e]; exact hM3⟩)) rfl ?_ | (refine Jct rfl rfl (fun hb => ?_) (fun hb => ?_) <;> (try (exfalso; omega))) | (refine Jcy rfl (fun hb => ?_) (fun hb => ?_) <;> (try (exfalso; omega))))
      · exact TR_of (res1 rfl rfl) ⟨by rw [pFit_no (fun h => by have := hsz.2.2 h.1; omega)], E.ext e3⟩
      · exact TR_of (res1 rfl rfl) ⟨by rw [pFit_no (fun h => by have := h.2.1; omega)], E.ext e3⟩
      have hnd : (pIds d).Nodup := hsz.2.1 (by omega)
      have hle : (pIds d).length = d.nodes.length := by omega
      refine TC_loop (ι := Nat) (fun k => [(3, .map (some b)), (53, .slice An ds.length cn), (54, I ds.length), (55, I k)]) (fun k w' => k ≤ ds.length ∧ Ext w3 w' ∧ ∀ i (h : i < d.nodes.length), i < k → d.nodes[i].1 ∈ pIds d) (fun k => ds.length - k) 0 (subEnv_cons rfl (subEnv_cons rfl (subEnv_cons rfl (subEnv_cons rfl (subEnv_nil _))))) ⟨Nat.zero_le _, Ch.refl _ _, fun i _ hi => absurd hi (Nat.not_lt_zero _)⟩ ?_
      intro k w4 ⟨hk, e4, hst⟩
      repeat' (first | apply Jbq | apply Jbr | apply Jbs | apply Jbt | (apply Jcg; exact Jad rfl rfl; exact rfl))
      refine Jcx rfl (fun hlt0 => ?_) (fun hge => ?_)
      · have hlt : k < ds.length := by omega
        obtain ⟨ad, rfl, hcell⟩ := Rd.elem NdC_len (hrn.ext (E.ext (e3.ext e4))) hlt
        have hnk : d.nodes[k]'(by omega) = NdP ds[k] := by simp only [← hm, List.getElem_map]
        have hnb := hN (d.nodes[k]'(by omega)) (List.getElem_mem _)
        have hid : (d.nodes[k]'(by omega)).1 = ds[k].id := by rw [hnk]; rfl
        have hone := (hok _ (List.getElem_mem hlt)).one
        rw [hid] at hnb
        obtain ⟨x, hx⟩ : ∃ x, x = ds[k] := ⟨_, rfl⟩
        rw [← hx] at hcell hid hone hnb
        obtain ⟨id, body, safe, vb, vs⟩ := x
        simp only at hid hnb
        replace hcell : ∀ j u, [I id, vb, vs][j]? = some u → w4.cell? ((ad.add (k * 3)).add j) = some u := hcell
        replace hone : [I id, vb, vs].all (·.oneCell') = true := hone
        by_cases hmem : id ∈ pIds d
        · repeat' (first | apply Jbq | apply Jbr | apply Jbs | apply Jbt | apply Jbx | apply Jby | apply Jbz | (refine Jcf rfl ?_) | (apply Jcg; (first | exact Jaa rfl | exact Jaf rfl rfl (by omega) | exact Jak rfl rfl | exact Jar Us.h Sz.h rfl rfl (by omega) | (apply Jbl; exact Us.h; exact rfl; exact Sz.h; exact rfl)); exact rfl) | refine Jcg (Pu_loadAgg (cs := [I id, vb, vs]) Us.h rfl Sz.h rfl (fun _ e j u hu => by rw [e]; exact hcell j u hu)) rfl ?_ | (refine TL_alloc Zs.h rfl rfl ?_; intro w5 g5 e5 hg5 hz5 hb5) | (refine TL_storeAgg rfl rfl Sz.h hone hb5 rfl ?_; intro w6 c6 hz6 hb6) | refine Jcg (Pu_load Fl.h rfl (fun _ e => by rw [e]; exact hb6.ld rfl)) rfl ?_ | refine Jcg (Pu_setLookT rfl rfl (by omega) hmem (fun w' e => ⟨d.kept.length + d.turns.length, by rw [e]; exact ((hM3.ext e4).ext e5).ch c6 (by have := e4.size; have := World.ownsMap.lt hM3; simp only [Iv]; omega)⟩)) rfl ?_)
          refine TN_round (k + 1) (subEnv_cons rfl (subEnv_cons rfl (subEnv_cons rfl (subEnv_cons rfl (subEnv_nil _))))) ⟨hlt, Ext.then_iv (e4.ext e5) c6 (by have := e4.size; omega), fun i hi hik => ?_⟩ (by omega)
          rcases Nat.lt_or_ge i k with h2 | h2
          · exact hst i hi h2
          · obtain rfl : i = k := by omega
            rw [hid]; exact hmem
        · repeat' (first | apply Jbq | apply Jbr | apply Jbs | apply Jbt | apply Jbu | apply Jbv | apply Jbw | apply Jby | apply Jbz | (refine Jce rfl ?_) | (apply Jcg; (first | exact Jaa rfl | exact Jab rfl | exact Jak rfl rfl | exact Jar Us.h Sz.h rfl rfl (by omega) | (apply Jbl; exact Us.h; exact rfl; exact Sz.h; exact rfl)); exact rfl) | refine Jcg (Pu_loadAgg (cs := [I id, vb, vs]) Us.h rfl Sz.h rfl (fun _ e j u hu => by rw [e]; exact hcell j u hu)) rfl ?_ | (refine TL_alloc Zs.h rfl rfl ?_; intro w5 g5 e5 hg5 hz5 hb5) | (refine TL_storeAgg rfl rfl Sz.h hone hb5 rfl ?_; intro w6 c6 hz6 hb6) | refine Jcg (Pu_load Fl.h rfl (fun _ e => by rw [e]; exact hb6.ld rfl)) rfl ?_ | refine Jcg (Pu_setLookF rfl rfl (by omega) hmem (fun w' e => ⟨d.kept.length + d.turns.length, by rw [e]; exact ((hM3.ext e4).ext e5).ch c6 (by have := e4.size; have := World.ownsMap.lt hM3; simp only [Iv]; omega)⟩)) rfl ?_)
          exact TR_of (res1 rfl rfl) ⟨by rw [pFit_no (fun h => hmem (by rw [← hid]; exact h.2.2 _ (List.getElem_mem _)))], (E.ext e3).ext (Ext.then_iv (e4.ext e5) c6 (by have := e4.size; omega))⟩
      · obtain rfl : k = ds.length := by omega
        repeat' (first | apply Jbq | apply Jbr | apply Jbs | apply Jbt | apply Jbu | apply Jca | apply Jcb | apply Jcc | (apply Jcg; exact Jab rfl; exact rfl))
        have hall : ∀ p ∈ d.nodes, p.1 ∈ pIds d := fun p hp => by
          obtain ⟨i, hi, rfl⟩ := List.mem_iff_getElem.1 hp
          exact hst i hi (by omega)
        exact TR_of (res1 rfl rfl) ⟨by rw [pFit_yes ⟨hnd, hle, hall⟩], E.ext (e3.ext e4)⟩
end Go.Proofs.YtggaghghclomkaaGreat
