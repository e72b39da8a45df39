/- Contracts: the space a disk uses. -/
import Derived.Test.YtggaghghclomkaaGreatDiskS
namespace Go.Proofs.YtggaghghclomkaaGreat
open Go.RowKit
attribute [local irreducible] TL TC TN TX TR TQ TA Pu Ret

def NdM (p : NodeP) : Int := max (p.2.1.length : Int) (p.2.2.length : Int)
def pUsed (l : List NodeP) : Int := (l.map NdM).sum
theorem pUsed_take {l : List NodeP} {k : Nat} (h : k < l.length) : pUsed (l.take (k + 1)) = pUsed (l.take k) + NdM l[k] := by
  unfold pUsed
  rw [List.take_succ_eq_append_getElem h, List.map_append, List.sum_append]
  simp
theorem pUsed_le : ∀ l : List NodeP, 0 ≤ pUsed l ∧ pUsed l ≤ totNd l
  | [] => by simp [pUsed, totNd]
  | a :: l => by
    have := pUsed_le l
    simp only [pUsed, totNd, List.map_cons, List.sum_cons, NdM, NdW] at *
    omega
theorem totNd_le_take (l : List NodeP) (k : Nat) : totNd (l.take k) ≤ totNd l := by
  have h1 := totNd_nn (l.drop k)
  have : totNd l = totNd (l.take k) + totNd (l.drop k) := by
    unfold totNd
    rw [← List.sum_append, ← List.map_append, List.take_append_drop]
  omega
theorem l03Most_c (a b : Int) (w : World) : Ret Tryz.prog 88 #[I a, I b] w fun v w' => v = I (max a b) ∧ w = w' := by
  refine Ret_enter Tryz.func88 rfl rfl rfl ?_
  repeat' (first | apply Jbq | apply Jbr | apply Jbs | apply Jbt | apply Jbu | apply Jbv | apply Jbz | (apply Jcg; (first | exact Jaa rfl | exact Jab rfl | exact Jam rfl rfl); exact rfl) | (refine Jcx rfl (fun hb => ?_) (fun hb => ?_) <;> (try (exfalso; omega))))
  · exact TR_of (res1 rfl rfl) ⟨congrArg I (by omega), rfl⟩
  · exact TR_of (res1 rfl rfl) ⟨congrArg I (by omega), rfl⟩
set_option maxHeartbeats 2000000 in
theorem specDiskUsed_c {w : World} {lo hi : Nat} {d : DiskP} {sn sk st : Value} (h : RDk w lo hi d sn sk st) (hl : totD d ≤ 1048576) :
    Ret Tryz.prog 87 #[.agg (dskC d sn sk st).toArray] w fun v' w' => v' = I (pUsed d.nodes) ∧ Ext w w' := by
  obtain ⟨l1, _, _⟩ := totD_parts hl
  obtain ⟨ds, A, c, hm, rfl, _, hr, hok⟩ := h.1
  have hln : d.nodes.length = ds.length := by rw [← hm, List.length_map]
  refine Ret_enter Tryz.func87 rfl rfl rfl ?_
  repeat' (first | apply Jbs | apply Jbt)
  refine TL_box (cs := dskC d (.slice A ds.length c) sk st) rfl rfl ?_
  intro w1 g E hg hz hbk
  clear hg hz
  repeat' (first | apply Jbq | apply Jbr | apply Jbs | apply Jbt | apply Jby | (apply Jcg; (first | exact Jaa rfl | exact Jab rfl | exact Jac Us.h rfl | (apply Jbl; exact Us.h; exact rfl; exact Sz.h; exact rfl)); exact rfl) | refine Jcg (Pu_load Fl.h rfl (fun _ e => by rw [e]; exact hbk.ld rfl)) rfl ?_)
  refine TC_loop (ι := Nat) (fun k => [(3, I (pUsed (d.nodes.take k))), (7, .slice A ds.length c), (8, I ds.length), (9, I k)]) (fun k w' => k ≤ ds.length ∧ Ext w w') (fun k => ds.length - k) 0 (subEnv_cons rfl (subEnv_cons rfl (subEnv_cons rfl (subEnv_cons rfl (subEnv_nil _))))) ⟨Nat.zero_le _, E⟩ ?_
  intro k w2 ⟨hk, e2⟩
  repeat' (first | apply Jbq | apply Jbr | apply Jbs | apply Jbt | (apply Jcg; exact Jad rfl rfl; exact rfl))
  refine Jcx rfl (fun hlt0 => ?_) (fun hge => ?_)
  · have hlt : k < ds.length := by omega
    obtain ⟨ad, rfl, hc⟩ := Rd.elem NdC_len (hr.ext e2) hlt
    have hnk : d.nodes[k]'(by omega) = NdP ds[k] := by simp only [← hm, List.getElem_map]
    have hq := pUsed_take (l := d.nodes) (k := k) (by omega)
    have hq2 := pUsed_le (d.nodes.take k)
    have hq3 := pUsed_le (d.nodes.take (k + 1))
    have hq4 := totNd_le_take d.nodes k
    have hq5 := totNd_le_take d.nodes (k + 1)
    rw [hnk] at hq
    obtain ⟨⟨Ab, cb, hvb, _⟩, ⟨As, cs, hvs, _⟩⟩ := hok _ (List.getElem_mem hlt)
    obtain ⟨x, hx⟩ : ∃ x, x = ds[k] := ⟨_, rfl⟩
    rw [← hx] at hc hq hvb hvs
    obtain ⟨id, body, safe, vb, vs⟩ := x
    simp only at hvb hvs
    subst hvb hvs
    simp only [NdM, NdP] at hq
    repeat' (first | apply Jbq | apply Jbr | apply Jbs | apply Jbt | apply Jbx | apply Jby | apply Jbz | (apply Jcg; (first | exact Jaa rfl | exact Jab rfl | exact Jac Us.h rfl | exact Jaf rfl rfl (by omega) | exact Jar Us.h Sz.h rfl rfl (by omega) | (apply Jbl; exact Us.h; exact rfl; exact Sz.h; exact rfl)); exact rfl) | refine Jcg (Pu_loadAgg (cs := NdC ⟨id, body, safe, .slice Ab body.length cb, .slice As safe.length cs⟩) Us.h rfl Sz.h rfl (fun _ e j u hu => by rw [e]; exact hc j u hu)) rfl ?_ | (refine TL_alloc Zs.h rfl rfl ?_; intro w3 g3 e3 hg3 hz3 hb3) | (refine TL_storeAgg rfl rfl Sz.h rfl hb3 rfl ?_; intro w4 c4 hz4 hb4) | refine Jcg (Pu_load Fl.h rfl (fun _ e => by rw [e]; exact hb4.ld rfl)) rfl ?_ | (refine TL_call rfl en88 (l03Most_c _ _ _) rfl rfl ?_; rintro _ _ ⟨rfl, rfl⟩))
    exact TN_round (k + 1) (subEnv_cons (congrArg (fun z => some (I z)) hq.symm) (subEnv_cons rfl (subEnv_cons rfl (subEnv_cons rfl (subEnv_nil _))))) ⟨hlt, Ext.then_iv (e2.ext e3) c4 (by have := e2.size; omega)⟩ (by omega)
  · obtain rfl : k = ds.length := by omega
    rw [List.take_of_length_le (by omega)]
    repeat' (first | apply Jbq | apply Jbr | apply Jbs | apply Jbt | apply Jbu | apply Jca | apply Jcb | apply Jcc | (apply Jcg; (first | exact Jaa rfl | exact Jab rfl); exact rfl))
    exact TR_of (res1 rfl rfl) ⟨rfl, e2⟩
set_option maxHeartbeats 2000000 in
theorem implDiskUsed_c {w : World} {lo hi : Nat} {d : DiskP} {sn sk st : Value} (h : RDk w lo hi d sn sk st) (hl : totD d ≤ 1048576) :
    Ret Tryz.prog 95 #[.agg (dskC d sn sk st).toArray] w fun v' w' => v' = I (pUsed d.nodes) ∧ Ext w w' := by
  obtain ⟨l1, _, _⟩ := totD_parts hl
  obtain ⟨ds, A, c, hm, rfl, _, hr, hok⟩ := h.1
  have hln : d.nodes.length = ds.length := by rw [← hm, List.length_map]
  refine Ret_enter Tryz.func95 rfl rfl rfl ?_
  repeat' (first | apply Jbs | apply Jbt)
  refine TL_box (cs := dskC d (.slice A ds.length c) sk st) rfl rfl ?_
  intro w1 g E hg hz hbk
  clear hg hz
  repeat' (first | apply Jbq | apply Jbr | apply Jbs | apply Jbt | apply Jby | (apply Jcg; (first | exact Jaa rfl | exact Jab rfl | exact Jac Us.h rfl | (apply Jbl; exact Us.h; exact rfl; exact Sz.h; exact rfl)); exact rfl) | refine Jcg (Pu_load Fl.h rfl (fun _ e => by rw [e]; exact hbk.ld rfl)) rfl ?_)
  refine TC_loop (ι := Nat) (fun k => [(3, I (pUsed (d.nodes.take k))), (7, .slice A ds.length c), (8, I ds.length), (9, I k)]) (fun k w' => k ≤ ds.length ∧ Ext w w') (fun k => ds.length - k) 0 (subEnv_cons rfl (subEnv_cons rfl (subEnv_cons rfl (subEnv_cons rfl (subEnv_nil _))))) ⟨Nat.zero_le _, E⟩ ?_
  intro k w2 ⟨hk, e2⟩
  repeat' (first | apply Jbq | apply Jbr | apply Jbs | apply Jbt | (apply Jcg; exact Jad rfl rfl; exact rfl))
  refine Jcx rfl (fun hlt0 => ?_) (fun hge => ?_)
  · have hlt : k < ds.length := by omega
    obtain ⟨ad, rfl, hc⟩ := Rd.elem NdC_len (hr.ext e2) hlt
    have hnk : d.nodes[k]'(by omega) = NdP ds[k] := by simp only [← hm, List.getElem_map]
    have hq := pUsed_take (l := d.nodes) (k := k) (by omega)
    have hq2 := pUsed_le (d.nodes.take k)
    have hq3 := pUsed_le (d.nodes.take (k + 1))
    have hq4 := totNd_le_take d.nodes k
    have hq5 := totNd_le_take d.nodes (k + 1)
    rw [hnk] at hq
    obtain ⟨⟨Ab, cb, hvb, _⟩, ⟨As, cs, hvs, _⟩⟩ := hok _ (List.getElem_mem hlt)
    obtain ⟨x, hx⟩ : ∃ x, x = ds[k] := ⟨_, rfl⟩
    rw [← hx] at hc hq hvb hvs
    obtain ⟨id, body, safe, vb, vs⟩ := x
    simp only at hvb hvs
    subst hvb hvs
    simp only [NdM, NdP] at hq
    repeat' (first | apply Jbq | apply Jbr | apply Jbs | apply Jbt | apply Jbx | apply Jby | apply Jbz | (apply Jcg; (first | exact Jaa rfl | exact Jab rfl | exact Jac Us.h rfl | exact Jaf rfl rfl (by omega) | exact Jar Us.h Sz.h rfl rfl (by omega) | exact Jaz rfl rfl | (apply Jbl; exact Us.h; exact rfl; exact Sz.h; exact rfl)); exact rfl) | refine Jcg (Pu_loadAgg (cs := NdC ⟨id, body, safe, .slice Ab body.length cb, .slice As safe.length cs⟩) Us.h rfl Sz.h rfl (fun _ e j u hu => by rw [e]; exact hc j u hu)) rfl ?_ | (refine TL_alloc Zs.h rfl rfl ?_; intro w3 g3 e3 hg3 hz3 hb3) | (refine TL_storeAgg rfl rfl Sz.h rfl hb3 rfl ?_; intro w4 c4 hz4 hb4) | refine Jcg (Pu_load Fl.h rfl (fun _ e => by rw [e]; exact hb4.ld rfl)) rfl ?_)
    exact TN_round (k + 1) (subEnv_cons (congrArg (fun z => some (I z)) hq.symm) (subEnv_cons rfl (subEnv_cons rfl (subEnv_cons rfl (subEnv_nil _))))) ⟨hlt, Ext.then_iv (e2.ext e3) c4 (by have := e2.size; omega)⟩ (by omega)
  · obtain rfl : k = ds.length := by omega
    rw [List.take_of_length_le (by omega)]
    repeat' (first | apply Jbq | apply Jbr | apply Jbs | apply Jbt | apply Jbu | apply Jca | apply Jcb | apply Jcc | (apply Jcg; (first | exact Jaa rfl | exact Jab rfl); exact rfl))
    exact TR_of (res1 rfl rfl) ⟨rfl, e2⟩
end Go.Proofs.YtggaghghclomkaaGreat
