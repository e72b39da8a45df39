/- Contracts: whether a disk is right, by the reference. -/
import Derived.Test.YtggaghghclomkaaGreatDirT

namespace Go.Proofs.YtggaghghclomkaaGreat
open Go.RowKit
section
variable {P : Program} {C : World → Prop} {n : Nat} {l : Env} {dd : Option Nat} {x y : Operand} {t t' ty : TypeId} {pos : String} {af : Array Edge} {a b : List UInt8}
theorem Pu_geqT (hx : ev l x = some (S a)) (hy : ev l y = some (S b)) (h : bytesBefore a b = false) : Pu P C n l ⟨dd, .binOp .geq t x y t', ty, pos, af, none⟩ (.bool true) := by
  have := Pu_geqb (P := P) (C := C) (n := n) (dd := dd) (t := t) (t' := t') (ty := ty) (pos := pos) (af := af) hx hy
  rwa [h] at this
theorem Pu_geqF (hx : ev l x = some (S a)) (hy : ev l y = some (S b)) (h : bytesBefore a b = true) : Pu P C n l ⟨dd, .binOp .geq t x y t', ty, pos, af, none⟩ (.bool false) := by
  have := Pu_geqb (P := P) (C := C) (n := n) (dd := dd) (t := t) (t' := t') (ty := ty) (pos := pos) (af := af) hx hy
  rwa [h] at this
end
theorem RowR.to {α : Type} {f : α → List Value} {s : Nat} {w : World} {lo hi c k : Nat} {A : Option Addr} {l : List α} (hf : ∀ a, (f a).length = s) (h : Rd w lo hi s A l.length (cellsL f l)) (hc : l.length ≤ c) (hk : k ≤ l.length) : RowR f s w lo hi (.slice (cutA A c 0 s) k c) (l.take k) := by
  have h2 := h.cut (a := 0) (b := k) (c := c) (Nat.zero_le _) hk hc
  rw [Nat.zero_mul, List.drop_zero, cellsL_take hf, Nat.sub_zero] at h2
  have hl : (l.take k).length = k := by rw [List.length_take]; omega
  exact ⟨_, _, by rw [hl], by rw [hl]; omega, by rw [hl]; exact h2⟩
theorem nIds_take {l : List NodeP} {k : Nat} (h : k < l.length) : nIds (l.take (k + 1)) = nIds (l.take k) ++ [l[k].1] := by
  unfold nIds
  rw [List.take_succ_eq_append_getElem h, List.map_append]
  rfl
attribute [local irreducible] TL TC TN TX TR TQ TA Pu Ret
set_option maxRecDepth 100000 in
set_option maxHeartbeats 16000000 in
theorem specDiskOk_c {w : World} {lo hi : Nat} {d : DiskP} {sn sk st : Value} (h : RDk w lo hi d sn sk st) (hf : d.fits) (hl : totD d ≤ 1048576) :
    Ret Tryz.prog 57 #[.agg (dskC d sn sk st).toArray] w fun v' w' => v' = .bool (pDOk d) ∧ Ext w w' := by
  obtain ⟨l1, l2, l3⟩ := totD_parts hl
  have nn1 := totNd_nn d.nodes
  have nn2 := totLk_nn d.kept
  have nn3 := totTn_nn d.turns
  have hh := h
  obtain ⟨ds, An, cn, hm, rfl, hcn, hrn, hok⟩ := h.1
  obtain ⟨Ak, ck, rfl, hck, hrk⟩ := h.2.1.row
  obtain ⟨At, ct, rfl, hct, hrt⟩ := h.2.2.row
  have hln : d.nodes.length = ds.length := by rw [← hm, List.length_map]
  obtain ⟨f1, f2, f3, _, ⟨_, f6⟩, ⟨_, f8⟩⟩ := hf
  refine Ret_enter Tryz.func57 rfl rfl rfl ?_
  repeat' (first | apply Jbs | apply Jbt)
  refine TL_box (cs := dskC d (.slice An ds.length cn) (.slice Ak d.kept.length ck) (.slice At d.turns.length ct)) rfl rfl ?_
  intro wb g E hg hz hbk
  clear hz
  have hzb := E.size
  repeat' (first | apply Jbq | apply Jbr | apply Jbs | apply Jbt | apply Jbu | apply Jbv | apply Jbz | (refine Jce rfl ?_) | (apply Jcg; (first | exact Jaa rfl | exact Jab rfl | exact Jac Us.h rfl | exact Jad rfl rfl | exact Jah rfl rfl | exact Jai rfl rfl | exact Jam rfl rfl | (apply Jbl; exact Us.h; exact rfl; exact Sz.h; exact rfl)); exact rfl) | refine Jch rfl rfl rfl ?_ | refine Jci rfl rfl rfl rfl rfl ?_ | refine Jcg (Pu_load Fl.h rfl (fun _ e => by rw [e]; exact hbk.ld rfl)) rfl ?_ | (refine TL_buildSlice0 Us.h Sz.h rfl ?_; intro w1 g1 e1 hg1 hz1 hown1) | (refine Jcs rfl rfl (fun hb => ?_) (fun hb => ?_) <;> (try (exfalso; omega))) | (refine Jcx rfl (fun hb => ?_) (fun hb => ?_) <;> (try (exfalso; omega))))
  all_goals try exact TR_of (res1 rfl rfl) ⟨by rw [pDOk_no (fun h => by have := h.base; unfold dBase at this; omega)], E⟩
  have hB : dBase d := by unfold dBase; omega
  have hb1 := hbk.ext e1
  repeat' (first | apply Jbq | apply Jbr | apply Jby | (apply Jcg; (first | exact Jaa rfl | exact Jac Us.h rfl); exact rfl) | refine Jcg (Pu_load Fl.h rfl (fun _ e => by rw [e]; exact hb1.ld rfl)) rfl ?_)
  refine TC_loop (ι := Nat × Value) (fun x => [(1, .pointer (some ⟨g, 0, none⟩)), (3, x.2), (62, .slice An ds.length cn), (63, I ds.length), (64, I x.1)]) (fun x w' => x.1 ≤ ds.length ∧ (∀ i, i < x.1 → nStep d i) ∧ Ext wb w' ∧ RowO InC 3 1 w' wb.heap.size w'.heap.size x.2 (nIds (d.nodes.take x.1))) (fun x => ds.length - x.1) (0, _) (subEnv_cons rfl (subEnv_cons rfl (subEnv_cons rfl (subEnv_cons rfl (subEnv_cons rfl (subEnv_nil _)))))) ⟨Nat.zero_le _, fun i hi => absurd hi (Nat.not_lt_zero _), e1, RowO.new (l := []) rfl hown1 hg1 hz1⟩ ?_
  rintro ⟨k, vo⟩ w2 ⟨hkk, hst, e2, ho2⟩
  simp only at hkk hst ho2
  have hb2 := hbk.ext e2
  show TC _ _ _ _ [(1, .pointer (some ⟨g, 0, none⟩)), (3, vo), (62, .slice An ds.length cn), (63, I ds.length), (64, I (k : Int))] w2
  repeat' (first | apply Jbq | apply Jbr | apply Jbs | apply Jbt | (apply Jcg; exact Jad rfl rfl; exact rfl))
  refine Jcx rfl (fun hlt0 => ?_) (fun hge => ?_)
  · have hlt : k < ds.length := by omega
    obtain ⟨ad, rfl, hcell⟩ := Rd.elem NdC_len (hrn.ext (E.ext e2)) hlt
    have hcp : 0 < k → w2.cell? ((ad.add (((k : Int) - 1).toNat * 3)).add 0) = some (I (d.nodes[k - 1]'(by omega)).1) := fun h0 => by
      obtain ⟨ad', h1, hc⟩ := Rd.elem NdC_len (hrn.ext (E.ext e2)) (k := k - 1) (by omega)
      injection h1 with h1; subst h1
      rw [show ((k : Int) - 1).toNat = k - 1 by omega]
      have h2 := hc 0 _ rfl
      rw [h2]
      simp only [← hm, List.getElem_map]
      rfl
    have hnk : d.nodes[k]'(by omega) = NdP ds[k] := by simp only [← hm, List.getElem_map]
    have hiff : nStep d k ↔ (1 ≤ ds[k].id ∧ ds[k].id < d.next ∧ (0 < k → (d.nodes[k - 1]'(by omega)).1 < ds[k].id)) := by
      unfold nStep
      constructor
      · intro h; have := h (by omega); rw [hnk] at this; exact this
      · intro h _; rw [hnk]; exact h
    have hid : (d.nodes[k]'(by omega)).1 = ds[k].id := by rw [hnk]; rfl
    have hone := (hok _ (List.getElem_mem hlt)).one
    obtain ⟨x, hx⟩ : ∃ x, x = ds[k] := ⟨_, rfl⟩
    rw [← hx] at hcell hiff hid hone
    obtain ⟨id, body, safe, vb, vs⟩ := x
    simp only at hiff hid
    replace hcell : ∀ j u, [I id, vb, vs][j]? = some u → w2.cell? ((ad.add (k * 3)).add j) = some u := hcell
    replace hone : [I id, vb, vs].all (·.oneCell') = true := hone
    repeat' (first | apply Jbq | apply Jbr | apply Jbs | apply Jbt | apply Jby | apply Jbz | (apply Jcg; (first | exact Jaa rfl | exact Jab rfl | exact Jar Us.h Sz.h rfl rfl (by omega)); exact rfl) | refine Jcg (Pu_loadAgg (cs := [I id, vb, vs]) Us.h rfl Sz.h rfl (fun _ e j u hu => by rw [e]; exact hcell j u hu)) rfl ?_ | (refine TL_alloc Zs.h rfl rfl ?_; intro w3 g3 e3 hg3 hz3 hb3) | (refine TL_storeAgg rfl rfl Sz.h hone hb3 rfl ?_; intro w4 c4 hz4 hb4))
    have E4 : Ext w2 w4 := Ext.then_iv e3 c4 (by omega)
    have hbk4 := hb2.ext E4
    have hcp4 := fun h0 => E4.cell (hcp h0)
    have E4w := e2.ext E4
    generalize hpid : (if h0 : 0 < k then (d.nodes[k - 1]'(by omega)).1 else 0) = pid at *
    have hpid' : ∀ h0 : 0 < k, (d.nodes[k - 1]'(by omega)).1 = pid := fun h0 => by rw [← hpid, dif_pos h0]
    by_cases hS : 1 ≤ id ∧ id < d.next ∧ (0 < k → pid < id)
    · have hSt : nStep d k := hiff.2 ⟨hS.1, hS.2.1, fun h0 => by rw [hpid' h0]; exact hS.2.2 h0⟩
      have hrest : ∀ (w5 : World) (l5 : Env), True := fun _ _ => trivial
      refine TC_quietExt mixed (by kernel_rfl) ?_
      rcases Nat.eq_zero_or_pos k with hk0 | hk0
      · repeat' (first | (apply Jck; (first | exact Jaa rfl | exact Jad rfl rfl | exact Jai rfl rfl | exact Jam rfl rfl | exact Jao rfl rfl | (apply Jbl; exact Us.h; exact rfl; exact Sz.h; exact rfl)); exact rfl) | refine Jcl rfl rfl rfl ?_ | refine Jcm rfl rfl rfl rfl rfl ?_ | refine Jck (Pu_load Fl.h rfl (fun _ e => Ext.cell e (hb4.ld rfl))) rfl ?_ | refine Jck (Pu_load Fl.h rfl (fun _ e => Ext.cell e (hbk4.ld rfl))) rfl ?_ | (refine Jcv rfl rfl (fun hb => ?_) (fun hb => ?_) <;> (try (exfalso; omega))))
        refine TQ_nil (fun w5 e5 => ?_)
        have hb5 := hb4.ext e5
        repeat' (first | apply Jbr | apply Jbt | apply Jbz | (refine Jcf rfl ?_) | (apply Jcg; (first | exact Jaa rfl | (apply Jbl; exact Us.h; exact rfl; exact Sz.h; exact rfl)); exact rfl) | refine Jcg (Pu_load Fl.h rfl (fun _ e => by rw [e]; exact hb5.ld rfl)) rfl ?_)
        refine TL_buildSlice Us.h Zi.h rfl rfl rfl rfl (fillI _) rfl rfl ?_
        intro w6 g6 e6 hg6 hz6 hown6
        skip
        refine TL_appendRow Us.h Inf.h rfl rfl rfl InC_one rfl rfl (ho2.ext ((E4.ext e5).ext e6)) (in_own hown6 rfl hg6 hz6).rd ((E4w.ext e5).ext e6).size (by simp only [nIds, List.length_map, List.length_take, List.length_cons, List.length_nil]; omega) rfl ?_
        intro w7 v7 c7 ho7
        repeat' (first | apply Jbq | apply Jbr | apply Jbt | apply Jbx | (apply Jcg; (first | exact Jaa rfl | exact Jab rfl | exact Jaf rfl rfl (by omega)); exact rfl))
        refine TN_round (k + 1, v7) (subEnv_cons rfl (subEnv_cons rfl (subEnv_cons rfl (subEnv_cons rfl (subEnv_cons rfl (subEnv_nil _)))))) ⟨hlt, ?_, Ext.then_iv ((E4w.ext e5).ext e6) c7 (Nat.le_refl _), ?_⟩ (by simp only; omega)
        · intro i hi
          rcases Nat.lt_or_ge i k with h2 | h2
          · exact hst i h2
          · obtain rfl : i = k := by simp only at hi; omega
            exact hSt
        · simp only
          rw [nIds_take (by omega), hid]
          exact ho7
      · have hc4 := hcp4 hk0
        rw [hpid' hk0] at hc4
        repeat' (first | (apply Jck; (first | exact Jaa rfl | exact Jad rfl rfl | exact Jah rfl rfl | exact Jai rfl rfl | exact Jam rfl rfl | exact Jao rfl rfl | exact Jap rfl rfl (by omega) | exact Jar Us.h Sz.h rfl rfl (by omega) | (apply Jbl; exact Us.h; exact rfl; exact Sz.h; exact rfl)); exact rfl) | refine Jcl rfl rfl rfl ?_ | refine Jck (Pu_load Fl.h rfl (fun _ e => Ext.cell e (hb4.ld rfl))) rfl ?_ | refine Jck (Pu_load Fl.h rfl (fun _ e => Ext.cell e (hbk4.ld rfl))) rfl ?_ | refine Jck (Pu_load Fl.h rfl (fun _ e => Ext.cell e hc4)) rfl ?_ | (refine Jcv rfl rfl (fun hb => ?_) (fun hb => ?_) <;> (try (exfalso; omega))))
        refine TQ_nil (fun w5 e5 => ?_)
        have hb5 := hb4.ext e5
        repeat' (first | apply Jbr | apply Jbt | apply Jbz | (apply Jcg; (first | exact Jaa rfl | (apply Jbl; exact Us.h; exact rfl; exact Sz.h; exact rfl)); exact rfl) | refine Jcg (Pu_load Fl.h rfl (fun _ e => by rw [e]; exact hb5.ld rfl)) rfl ?_ | (refine Jcx rfl (fun hb => ?_) (fun hb => ?_) <;> (try (exfalso; omega))))
        refine TL_buildSlice Us.h Zi.h rfl rfl rfl rfl (fillI _) rfl rfl ?_
        intro w6 g6 e6 hg6 hz6 hown6
        skip
        refine TL_appendRow Us.h Inf.h rfl rfl rfl InC_one rfl rfl (ho2.ext ((E4.ext e5).ext e6)) (in_own hown6 rfl hg6 hz6).rd ((E4w.ext e5).ext e6).size (by simp only [nIds, List.length_map, List.length_take, List.length_cons, List.length_nil]; omega) rfl ?_
        intro w7 v7 c7 ho7
        repeat' (first | apply Jbq | apply Jbr | apply Jbt | apply Jbx | (apply Jcg; (first | exact Jaa rfl | exact Jab rfl | exact Jaf rfl rfl (by omega)); exact rfl))
        refine TN_round (k + 1, v7) (subEnv_cons rfl (subEnv_cons rfl (subEnv_cons rfl (subEnv_cons rfl (subEnv_cons rfl (subEnv_nil _)))))) ⟨hlt, ?_, Ext.then_iv ((E4w.ext e5).ext e6) c7 (Nat.le_refl _), ?_⟩ (by simp only; omega)
        · intro i hi
          rcases Nat.lt_or_ge i k with h2 | h2
          · exact hst i h2
          · obtain rfl : i = k := by simp only at hi; omega
            exact hSt
        · simp only
          rw [nIds_take (by omega), hid]
          exact ho7
    · have hno : pDOk d = false := pDOk_no (fun h => hS (by
        have h3 := hiff.1 (h.node k)
        exact ⟨h3.1, h3.2.1, fun h0 => by rw [← hpid' h0]; exact h3.2.2 h0⟩))
      refine TC_quietExt mixed (by kernel_rfl) ?_
      rcases Nat.eq_zero_or_pos k with hk0 | hk0
      · repeat' (first | (apply Jck; (first | exact Jaa rfl | exact Jad rfl rfl | exact Jah rfl rfl | exact Jai rfl rfl | exact Jao rfl rfl | (apply Jbl; exact Us.h; exact rfl; exact Sz.h; exact rfl)); exact rfl) | refine Jcl rfl rfl rfl ?_ | refine Jcm rfl rfl rfl rfl rfl ?_ | refine Jcn rfl rfl rfl rfl ?_ | refine Jck (Pu_load Fl.h rfl (fun _ e => Ext.cell e (hb4.ld rfl))) rfl ?_ | refine Jck (Pu_load Fl.h rfl (fun _ e => Ext.cell e (hbk4.ld rfl))) rfl ?_ | (refine Jcv rfl rfl (fun hb => ?_) (fun hb => ?_) <;> (try (exfalso; omega))))
        all_goals
          refine TQ_nil (fun w5 e5 => ?_)
          repeat' (first | apply Jbq | apply Jbr | apply Jbs | apply Jbt | apply Jbu | apply Jbv | apply Jbw | (refine Jce rfl ?_) | (apply Jcg; exact Jab rfl; exact rfl))
          exact TR_of (res1 rfl rfl) ⟨by rw [hno], E.ext (E4w.ext e5)⟩
      · have hc4 := hcp4 hk0
        rw [hpid' hk0] at hc4
        repeat' (first | (apply Jck; (first | exact Jaa rfl | exact Jad rfl rfl | exact Jah rfl rfl | exact Jai rfl rfl | exact Jam rfl rfl | exact Jao rfl rfl | exact Jap rfl rfl (by omega) | exact Jar Us.h Sz.h rfl rfl (by omega) | (apply Jbl; exact Us.h; exact rfl; exact Sz.h; exact rfl)); exact rfl) | refine Jcl rfl rfl rfl ?_ | refine Jcm rfl rfl rfl rfl rfl ?_ | refine Jcn rfl rfl rfl rfl ?_ | refine Jck (Pu_load Fl.h rfl (fun _ e => Ext.cell e (hb4.ld rfl))) rfl ?_ | refine Jck (Pu_load Fl.h rfl (fun _ e => Ext.cell e (hbk4.ld rfl))) rfl ?_ | refine Jck (Pu_load Fl.h rfl (fun _ e => Ext.cell e hc4)) rfl ?_ | (refine Jcv rfl rfl (fun hb => ?_) (fun hb => ?_) <;> (try (exfalso; omega))))
        all_goals
          refine TQ_nil (fun w5 e5 => ?_)
          repeat' (first | apply Jbq | apply Jbr | apply Jbs | apply Jbt | apply Jbu | apply Jbv | apply Jbw | (refine Jce rfl ?_) | (apply Jcg; exact Jab rfl; exact rfl) | (refine Jcx rfl (fun hb => ?_) (fun hb => ?_) <;> (try (exfalso; omega))))
          exact TR_of (res1 rfl rfl) ⟨by rw [hno], E.ext (E4w.ext e5)⟩
  · obtain rfl : k = ds.length := by omega
    rw [List.take_of_length_le (by omega)] at ho2
    have hN : ∀ i, nStep d i := fun i => by
      rcases Nat.lt_or_ge i ds.length with h1 | h1
      · exact hst i h1
      · intro h2; omega
    clear hst hge hb1 hown1
    obtain ⟨Ao, co, rfl, hoo⟩ := ho2
    have hnl : (nIds d.nodes).length = d.nodes.length := by unfold nIds; rw [List.length_map]
    repeat' (first | apply Jbq | apply Jbr | apply Jbs | apply Jbt | apply Jby | apply Jca | apply Jcb | apply Jcc | (apply Jcg; (first | exact Jaa rfl | exact Jac Us.h rfl | (apply Jbl; exact Us.h; exact rfl; exact Sz.h; exact rfl)); exact rfl) | refine Jcg (Pu_load Fl.h rfl (fun _ e => by rw [e]; exact hb2.ld rfl)) rfl ?_)
    refine TC_loop (ι := Nat) (fun k => [(1, .pointer (some ⟨g, 0, none⟩)), (3, .slice Ao (nIds d.nodes).length co), (102, .slice Ak d.kept.length ck), (103, I d.kept.length), (104, I k)]) (fun k w' => k ≤ d.kept.length ∧ (∀ i, i < k → kStep d i ∧ ∀ h : i < d.kept.length, 1 ≤ d.kept[i].id) ∧ Ext w2 w') (fun k => d.kept.length - k) 0 (subEnv_cons rfl (subEnv_cons rfl (subEnv_cons rfl (subEnv_cons rfl (subEnv_cons rfl (subEnv_nil _)))))) ⟨Nat.zero_le _, fun i hi => absurd hi (Nat.not_lt_zero _), Ch.refl _ _⟩ ?_
    intro k w3 ⟨hkk, hst, e3⟩
    have hb3 := hb2.ext e3
    repeat' (first | apply Jbq | apply Jbr | apply Jbs | apply Jbt | (apply Jcg; exact Jad rfl rfl; exact rfl))
    refine Jcx rfl (fun hlt0 => ?_) (fun hge => ?_)
    · have hlt : k < d.kept.length := by omega
      obtain ⟨ad, rfl, hcell⟩ := Rd.elem LkC_len (hrk.ext (E.ext (e2.ext e3))) hlt
      have hcp : 0 < k → w3.cell? ((ad.add (((k : Int) - 1).toNat * 2)).add 0) = some (S (d.kept[k - 1]'(by omega)).name) := fun h0 => by
        obtain ⟨ad', h1, hc⟩ := Rd.elem LkC_len (hrk.ext (E.ext (e2.ext e3))) (k := k - 1) (by omega)
        injection h1 with h1; subst h1
        rw [show ((k : Int) - 1).toNat = k - 1 by omega]
        exact hc 0 _ rfl
      have hkl : d.kept[k].name.length ≤ 9223372036854775807 := (f6 _ (List.getElem_mem hlt)).1
      have hiff : (kStep d k ∧ ∀ h : k < d.kept.length, 1 ≤ d.kept[k].id) ↔ (pName d.kept[k].name = true ∧ 1 ≤ d.kept[k].id ∧ (0 < k → bytesBefore (d.kept[k - 1]'(by omega)).name d.kept[k].name = true)) :=
        ⟨fun h => ⟨(h.1 hlt).1, h.2 hlt, (h.1 hlt).2⟩, fun h => ⟨fun _ => ⟨h.1, h.2.2⟩, fun _ => h.2.1⟩⟩
      obtain ⟨x, hx⟩ : ∃ x, x = d.kept[k] := ⟨_, rfl⟩
      rw [← hx] at hcell hiff hkl
      obtain ⟨nm, id⟩ := x
      simp only at hiff hkl
      replace hcell : ∀ j u, [S nm, I id][j]? = some u → w3.cell? ((ad.add (k * 2)).add j) = some u := hcell
      have hno : ¬ (pName nm = true ∧ 1 ≤ id ∧ (0 < k → bytesBefore (d.kept[k - 1]'(by omega)).name nm = true)) → pDOk d = false := fun hn => pDOk_no (fun h => hn (hiff.1 ⟨h.link k, fun _ => h.pos _ (List.getElem_mem hlt)⟩))
      have hyes : pName nm = true → 1 ≤ id → (0 < k → bytesBefore (d.kept[k - 1]'(by omega)).name nm = true) → ∀ i, i < k + 1 → kStep d i ∧ ∀ h : i < d.kept.length, 1 ≤ d.kept[i].id := fun a b c i hi => by
        rcases Nat.lt_or_ge i k with h2 | h2
        · exact hst i h2
        · obtain rfl : i = k := by omega
          exact hiff.2 ⟨a, b, c⟩
      obtain ⟨pn, hpn⟩ : ∃ pn : 0 < k → List UInt8, ∀ h0 : 0 < k, pn h0 = (d.kept[k - 1]'(by omega)).name := ⟨fun h0 => (d.kept[k - 1]'(by omega)).name, fun _ => rfl⟩
      repeat' (first | apply Jbq | apply Jbr | apply Jbs | apply Jbt | apply Jby | apply Jbz | (apply Jcg; (first | exact Jaa rfl | exact Jab rfl | exact Jar Us.h Sz.h rfl rfl (by omega)); exact rfl) | refine Jcg (Pu_loadAgg (cs := [S nm, I id]) Us.h rfl Sz.h rfl (fun _ e j u hu => by rw [e]; exact hcell j u hu)) rfl ?_ | (refine TL_alloc Zs.h rfl rfl ?_; intro w4 g4 e4 hg4 hz4 hb4) | (refine TL_storeAgg rfl rfl Sz.h rfl hb4 rfl ?_; intro w5 c5 hz5 hb5))
      have E5 : Ext w3 w5 := Ext.then_iv e4 c5 (by omega)
      have hbk5 := hb3.ext E5
      refine TC_quietExt mixed (by kernel_rfl) ?_
      cases hp : pName nm with
      | false =>
        have hno := hno (by rw [hp]; rintro ⟨h, _⟩; cases h)
        repeat' (first | (apply Jck; (first | exact Jaa rfl | exact Jah rfl rfl | exact Jaj rfl | (apply Jbl; exact Us.h; exact rfl; exact Sz.h; exact rfl)); exact rfl) | refine Jcm rfl rfl rfl rfl rfl ?_ | refine Jcn rfl rfl rfl rfl ?_ | refine Jck (Pu_load Fl.h rfl (fun _ e => Ext.cell e (hb5.ld rfl))) rfl ?_ | (refine TQ_call rfl en131 (fun w6 e6 => (specNameOk_c _ _ hkl).mono (fun v' w' h => ⟨h.1.trans (by rw [hp]), h.2 ▸ e6⟩)) rfl ?_))
        refine TQ_nil (fun w6 e6 => ?_)
        repeat' (first | apply Jbq | apply Jbr | apply Jbs | apply Jbt | apply Jbu | apply Jbv | apply Jbw | (refine Jce rfl ?_) | (apply Jcg; exact Jab rfl; exact rfl))
        exact TR_of (res1 rfl rfl) ⟨by rw [hno], E.ext (e2.ext (e3.ext (E5.ext e6)))⟩
      | true =>
        by_cases hi : 1 ≤ id
        · rcases Nat.eq_zero_or_pos k with hk0 | hk0
          · repeat' (first | (apply Jck; (first | exact Jaa rfl | exact Jad rfl rfl | exact Jai rfl rfl | exact Jaj rfl | exact Jam rfl rfl | (apply Jbl; exact Us.h; exact rfl; exact Sz.h; exact rfl)); exact rfl) | refine Jcl rfl rfl rfl ?_ | refine Jcm rfl rfl rfl rfl rfl ?_ | refine Jck (Pu_load Fl.h rfl (fun _ e => Ext.cell e (hb5.ld rfl))) rfl ?_ | (refine TQ_call rfl en131 (fun w6 e6 => (specNameOk_c _ _ hkl).mono (fun v' w' h => ⟨h.1.trans (by rw [hp]), h.2 ▸ e6⟩)) rfl ?_) | (refine Jcv rfl rfl (fun hb => ?_) (fun hb => ?_) <;> (try (exfalso; omega))))
            refine TQ_nil (fun w6 e6 => ?_)
            repeat' (first | apply Jbq | apply Jbr | apply Jbt | apply Jbx | apply Jbz | (refine Jcf rfl ?_) | (apply Jcg; (first | exact Jaa rfl | exact Jaf rfl rfl (by omega)); exact rfl))
            exact TN_round (k + 1) (subEnv_cons rfl (subEnv_cons rfl (subEnv_cons rfl (subEnv_cons rfl (subEnv_cons rfl (subEnv_nil _)))))) ⟨hlt, hyes hp hi (fun h0 => by omega), e3.ext (E5.ext e6)⟩ (by omega)
          · have hc5 := E5.cell (hcp hk0)
            cases hbb : bytesBefore (d.kept[k - 1]'(by omega)).name nm with
            | true =>
              repeat' (first | (apply Jck; (first | exact Jaa rfl | exact Jad rfl rfl | exact Jah rfl rfl | exact Jai rfl rfl | exact Jaj rfl | exact Jam rfl rfl | exact Jap rfl rfl (by omega) | exact Jar Us.h Sz.h rfl rfl (by omega) | (apply Jbl; exact Us.h; exact rfl; exact Sz.h; exact rfl)); exact rfl) | refine Jcl rfl rfl rfl ?_ | refine Jck (Pu_load Fl.h rfl (fun _ e => Ext.cell e (hb5.ld rfl))) rfl ?_ | refine Jck (Pu_load Fl.h rfl (fun _ e => Ext.cell e (hbk5.ld rfl))) rfl ?_ | refine Jck (Pu_load Fl.h rfl (fun _ e => Ext.cell e hc5)) rfl ?_ | refine Jck (Pu_geqF rfl rfl hbb) rfl ?_ | (refine TQ_call rfl en131 (fun w6 e6 => (specNameOk_c _ _ hkl).mono (fun v' w' h => ⟨h.1.trans (by rw [hp]), h.2 ▸ e6⟩)) rfl ?_) | (refine Jcv rfl rfl (fun hb => ?_) (fun hb => ?_) <;> (try (exfalso; omega))))
              refine TQ_nil (fun w6 e6 => ?_)
              repeat' (first | apply Jbq | apply Jbr | apply Jbt | apply Jbx | apply Jbz | (refine Jcf rfl ?_) | (apply Jcg; (first | exact Jaa rfl | exact Jaf rfl rfl (by omega)); exact rfl))
              exact TN_round (k + 1) (subEnv_cons rfl (subEnv_cons rfl (subEnv_cons rfl (subEnv_cons rfl (subEnv_cons rfl (subEnv_nil _)))))) ⟨hlt, hyes hp hi (fun _ => hbb), e3.ext (E5.ext e6)⟩ (by omega)
            | false =>
              have hno := hno (by rintro ⟨_, _, h⟩; rw [h hk0] at hbb; cases hbb)
              repeat' (first | (apply Jck; (first | exact Jaa rfl | exact Jad rfl rfl | exact Jah rfl rfl | exact Jai rfl rfl | exact Jaj rfl | exact Jam rfl rfl | exact Jap rfl rfl (by omega) | exact Jar Us.h Sz.h rfl rfl (by omega) | (apply Jbl; exact Us.h; exact rfl; exact Sz.h; exact rfl)); exact rfl) | refine Jcl rfl rfl rfl ?_ | refine Jck (Pu_load Fl.h rfl (fun _ e => Ext.cell e (hb5.ld rfl))) rfl ?_ | refine Jck (Pu_load Fl.h rfl (fun _ e => Ext.cell e (hbk5.ld rfl))) rfl ?_ | refine Jck (Pu_load Fl.h rfl (fun _ e => Ext.cell e hc5)) rfl ?_ | refine Jck (Pu_geqT rfl rfl hbb) rfl ?_ | (refine TQ_call rfl en131 (fun w6 e6 => (specNameOk_c _ _ hkl).mono (fun v' w' h => ⟨h.1.trans (by rw [hp]), h.2 ▸ e6⟩)) rfl ?_) | (refine Jcv rfl rfl (fun hb => ?_) (fun hb => ?_) <;> (try (exfalso; omega))))
              refine TQ_nil (fun w6 e6 => ?_)
              repeat' (first | apply Jbq | apply Jbr | apply Jbs | apply Jbt | apply Jbu | apply Jbv | apply Jbw | (refine Jce rfl ?_) | (apply Jcg; exact Jab rfl; exact rfl))
              exact TR_of (res1 rfl rfl) ⟨by rw [hno], E.ext (e2.ext (e3.ext (E5.ext e6)))⟩
        · have hno := hno (by rintro ⟨_, h, _⟩; exact hi h)
          repeat' (first | (apply Jck; (first | exact Jaa rfl | exact Jad rfl rfl | exact Jah rfl rfl | exact Jai rfl rfl | exact Jaj rfl | (apply Jbl; exact Us.h; exact rfl; exact Sz.h; exact rfl)); exact rfl) | refine Jcl rfl rfl rfl ?_ | refine Jcm rfl rfl rfl rfl rfl ?_ | refine Jcn rfl rfl rfl rfl ?_ | refine Jck (Pu_load Fl.h rfl (fun _ e => Ext.cell e (hb5.ld rfl))) rfl ?_ | (refine TQ_call rfl en131 (fun w6 e6 => (specNameOk_c _ _ hkl).mono (fun v' w' h => ⟨h.1.trans (by rw [hp]), h.2 ▸ e6⟩)) rfl ?_) | (refine Jcv rfl rfl (fun hb => ?_) (fun hb => ?_) <;> (try (exfalso; omega))))
          refine TQ_nil (fun w6 e6 => ?_)
          repeat' (first | apply Jbq | apply Jbr | apply Jbs | apply Jbt | apply Jbu | apply Jbv | apply Jbw | (refine Jce rfl ?_) | (apply Jcg; exact Jab rfl; exact rfl))
          exact TR_of (res1 rfl rfl) ⟨by rw [hno], E.ext (e2.ext (e3.ext (E5.ext e6)))⟩
    · obtain rfl : k = d.kept.length := by omega
      have hK : ∀ i, kStep d i := fun i => by
        rcases Nat.lt_or_ge i d.kept.length with h1 | h1
        · exact (hst i h1).1
        · intro h2; omega
      have hP : Pos d.kept := by
        intro x hx
        obtain ⟨i, hi, rfl⟩ := List.mem_iff_getElem.1 hx
        exact (hst i hi).2 hi
      clear hst hge
      have E3 := E.ext (e2.ext e3)
      repeat' (first | apply Jbr | apply Jbs | apply Jbt | apply Jca | apply Jcb | apply Jcc | refine Jcg (Pu_loadAgg (cs := dskC d (.slice An ds.length cn) (.slice Ak d.kept.length ck) (.slice At d.turns.length ct)) Us.h rfl Sz.h rfl (fun _ e j u hu => by rw [e, add0, hb3.cell]; exact hu)) rfl ?_)
      refine TL_call rfl en90 (l03Ids_c (hh.ext E3) (by omega) (by omega)) rfl rfl ?_
      rintro vi w4 ⟨e4, Ai, ci, rfl, hoi⟩
      have hci := hoi.cap.1
      have hri := hoi.rd
      have hro := hoo.rd.ext (e3.ext e4)
      have hco := hoo.cap.1
      have hb4 := hb3.ext e4
      have E4 := E3.ext e4
      have hpl : (pIds d).length ≤ 48 := by
        unfold pIds
        rw [List.length_append, List.length_map, List.length_map]
        refine Nat.le_trans (Nat.add_le_add_left (List.length_filter_le _ _) _) ?_
        omega
      repeat' (first | apply Jbq | apply Jbr | apply Jbs | apply Jbt | (apply Jcg; (first | exact Jaa rfl | exact Jab rfl | exact Jac Us.h rfl | exact Jal rfl rfl); exact rfl))
      refine Jcy rfl (fun hne => ?_) (fun heq => ?_)
      · repeat' (first | apply Jbq | apply Jbr | apply Jbs | apply Jbt | apply Jbu | apply Jbv | (apply Jcg; exact Jab rfl; exact rfl))
        exact TR_of (res1 rfl rfl) ⟨by rw [pDOk_no (fun h => hne (by rw [hnl]; exact congrArg Nat.cast h.len))], E4⟩
      have hlen : (pIds d).length = d.nodes.length := by omega
      repeat' (first | apply Jbq | apply Jbr | apply Jbs | apply Jbt | apply Jby | apply Jbz | (apply Jcg; (first | exact Jaa rfl | exact Jac Us.h rfl); exact rfl))
      refine TC_loop (ι := Nat) (fun k => [(1, .pointer (some ⟨g, 0, none⟩)), (3, .slice Ao (nIds d.nodes).length co), (8, .slice Ai (pIds d).length ci), (142, .slice Ai (pIds d).length ci), (143, I (pIds d).length), (144, I k)]) (fun k w' => k ≤ (pIds d).length ∧ (∀ j (hj : j < (pIds d).length), j < k → (pIds d)[j] ∉ (pIds d).take j ∧ (pIds d)[j] ∈ nIds d.nodes) ∧ Ext w4 w') (fun k => (pIds d).length - k) 0 (subEnv_cons rfl (subEnv_cons rfl (subEnv_cons rfl (subEnv_cons rfl (subEnv_cons rfl (subEnv_cons rfl (subEnv_nil _))))))) ⟨Nat.zero_le _, fun i _ hi => absurd hi (Nat.not_lt_zero _), Ch.refl _ _⟩ ?_
      intro k w5 ⟨hkk, hst, e5⟩
      repeat' (first | apply Jbq | apply Jbr | apply Jbs | apply Jbt | (apply Jcg; exact Jad rfl rfl; exact rfl))
      refine Jcx rfl (fun hlt0 => ?_) (fun hge => ?_)
      · have hlt : k < (pIds d).length := by omega
        obtain ⟨ad, rfl, hcell⟩ := Rd.elem InC_len (hri.ext e5) hlt
        have hcell : w5.cell? (ad.add k) = some (I (pIds d)[k]) := by have := hcell 0 _ rfl; rwa [add_of_add, Nat.add_zero, Nat.mul_one] at this
        repeat' (first | apply Jbq | apply Jbr | apply Jbs | apply Jbt | apply Jbu | apply Jbv | apply Jbw | apply Jbx | apply Jby | apply Jbz | (refine Jce rfl ?_) | (apply Jcg; (first | exact Jaa rfl | exact Jab rfl | exact Jaf rfl rfl (by omega) | exact Jag Us.h Sz.h rfl rfl (by omega) | exact Jah rfl rfl | exact Jai rfl rfl | exact Jaj rfl | exact Jbe Us.h Sz.h rfl rfl (by omega)); exact rfl) | refine Jch rfl rfl rfl ?_ | refine Jci rfl rfl rfl rfl rfl ?_ | refine Jcg (Pu_load Fl.h rfl (fun _ e => by rw [e]; exact hcell)) rfl ?_ | (refine TL_call rfl en89 (l03HasInt_c (RowR.to InC_len (hri.ext e5) hci hkk) (by rw [List.length_take]; omega)) rfl rfl ?_; rintro _ w6 ⟨rfl, e6⟩) | (refine TL_call rfl en89 (l03HasInt_c ⟨_, _, rfl, hco, (hro.ext e5).ext e6⟩ (by omega)) rfl rfl ?_; rintro _ w7 ⟨rfl, e7⟩) | (refine Jcs rfl rfl (fun hb => ?_) (fun hb => ?_) <;> (try (exfalso; omega))) | (refine Jcy rfl (fun hb => ?_) (fun hb => ?_) <;> (try (exfalso; omega))))
        · exact TR_of (res1 rfl rfl) ⟨by rw [pDOk_no (fun h => absurd hb (h.ids k hlt).1)], E4.ext (e5.ext e6)⟩
        · exact TR_of (res1 rfl rfl) ⟨by rw [pDOk_no (fun h => absurd (h.ids k hlt).2 hb)], E4.ext (e5.ext (e6.ext e7))⟩
        · refine TN_round (k + 1) (subEnv_cons rfl (subEnv_cons rfl (subEnv_cons rfl (subEnv_cons rfl (subEnv_cons rfl (subEnv_cons rfl (subEnv_nil _))))))) ⟨hlt, fun j hj hjk => ?_, e5.ext (e6.ext e7)⟩ (by omega)
          rcases Nat.lt_or_ge j k with h2 | h2
          · exact hst j hj h2
          · obtain rfl : j = k := by omega
            exact ⟨by assumption, by assumption⟩
      · obtain rfl : k = (pIds d).length := by omega
        have hb5 := hb4.ext e5
        have E5 := E4.ext e5
        repeat' (first | apply Jbq | apply Jbr | apply Jbs | apply Jbt | apply Jby | apply Jca | apply Jcb | apply Jcc | (apply Jcg; (first | exact Jaa rfl | exact Jab rfl | exact Jac Us.h rfl | (apply Jbl; exact Us.h; exact rfl; exact Sz.h; exact rfl)); exact rfl) | refine Jcg (Pu_load Fl.h rfl (fun _ e => by rw [e]; exact hb5.ld rfl)) rfl ?_)
        refine TC_loop (ι := Nat × Value) (fun x => [(1, .pointer (some ⟨g, 0, none⟩)), (11, x.2), (164, .slice At d.turns.length ct), (165, I d.turns.length), (166, I x.1)]) (fun x w' => x.1 ≤ d.turns.length ∧ (∀ j (hj : j < d.turns.length), j < x.1 → tOk (runT d.kept (d.turns.take j)) d.turns[j]) ∧ Ext w5 w' ∧ RK w' 0 w'.heap.size x.2 (runT d.kept (d.turns.take x.1))) (fun x => d.turns.length - x.1) (0, _) (subEnv_cons rfl (subEnv_cons rfl (subEnv_cons rfl (subEnv_cons rfl (subEnv_cons rfl (subEnv_nil _)))))) ⟨Nat.zero_le _, fun i _ hi => absurd hi (Nat.not_lt_zero _), Ch.refl _ _, RowR.rk ⟨_, _, rfl, hck, (hrk.ext E5).wide (Nat.zero_le _) (Nat.le_trans hrk.hi_le E5.size) (Nat.le_refl _)⟩⟩ ?_
        rintro ⟨k, vd⟩ w6 ⟨hkk, htt, e6, hrd⟩
        simp only at hkk htt hrd
        show TC _ _ _ _ [(1, .pointer (some ⟨g, 0, none⟩)), (11, vd), (164, .slice At d.turns.length ct), (165, I d.turns.length), (166, I (k : Int))] w6
        have hb6 := hb5.ext e6
        repeat' (first | apply Jbq | apply Jbr | apply Jbs | apply Jbt | (apply Jcg; exact Jad rfl rfl; exact rfl))
        refine Jcx rfl (fun hlt0 => ?_) (fun hge => ?_)
        · have hlt : k < d.turns.length := by omega
          have hrl := runT_length d.kept (d.turns.take k)
          rw [List.length_take] at hrl
          obtain ⟨ad, rfl, hcell⟩ := Rd.elem TnC_len (hrt.ext (E5.ext e6)) hlt
          repeat' (first | apply Jbq | apply Jbr | apply Jbs | apply Jbt | apply Jby | apply Jbz | (apply Jcg; (first | exact Jaa rfl | exact Jar Us.h Sz.h rfl rfl (by omega)); exact rfl) | refine Jcg (Pu_loadAgg (cs := TnC d.turns[k]) Us.h rfl Sz.h rfl (fun _ e j u hu => by rw [e]; exact hcell j u hu)) rfl ?_ | (refine TL_alloc Zs.h rfl rfl ?_; intro w7 g7 e7 hg7 hz7 hb7) | (refine TL_storeAgg rfl rfl Sz.h rfl hb7 rfl ?_; intro w8 c8 hz8 hb8) | refine Jcg (Pu_loadAgg (cs := TnC d.turns[k]) Us.h rfl Sz.h rfl (fun _ e j u hu => by rw [e, add0, hb8.cell]; exact hu)) rfl ?_)
          have E8 : Ext w6 w8 := Ext.then_iv e7 c8 (by omega)
          refine TL_call rfl en132 (l03TurnOk_c (hrd.ext E8) (by omega) (f8 _ (List.getElem_mem hlt))) rfl rfl ?_
          rintro _ w9 ⟨⟨b, rfl, hbt⟩, e9⟩
          have hb9 := hb8.ext e9
          cases b with
          | false =>
            repeat' (first | apply Jbq | apply Jbr | apply Jbs | apply Jbt | apply Jbu | apply Jbv | apply Jbw | (refine Jce rfl ?_) | (apply Jcg; (first | exact Jab rfl | exact Jaj rfl); exact rfl))
            exact TR_of (res1 rfl rfl) ⟨by rw [pDOk_no (fun h => by have := hbt.2 (h.turn k hlt); cases this)], E5.ext (e6.ext (E8.ext e9))⟩
          | true =>
            repeat' (first | apply Jbq | apply Jbr | apply Jbt | apply Jbz | (refine Jcf rfl ?_) | (apply Jcg; (first | exact Jaa rfl | exact Jaj rfl); exact rfl) | refine Jcg (Pu_loadAgg (cs := TnC d.turns[k]) Us.h rfl Sz.h rfl (fun _ e j u hu => by rw [e, add0, hb9.cell]; exact hu)) rfl ?_)
            refine TL_call rfl en133 (l03Turn_c (hrd.ext (E8.ext e9)) (by omega)) rfl rfl ?_
            rintro v10 w10 ⟨e10, hr10⟩
            repeat' (first | apply Jbq | apply Jbr | apply Jbt | apply Jbx | (apply Jcg; (first | exact Jaa rfl | exact Jab rfl | exact Jaf rfl rfl (by omega)); exact rfl))
            refine TN_round (k + 1, v10) (subEnv_cons rfl (subEnv_cons rfl (subEnv_cons rfl (subEnv_cons rfl (subEnv_cons rfl (subEnv_nil _)))))) ⟨hlt, fun j hj hjk => ?_, e6.ext (E8.ext (e9.ext e10)), ?_⟩ (by simp only; omega)
            · rcases Nat.lt_or_ge j k with h2 | h2
              · exact htt j hj h2
              · obtain rfl : j = k := by simp only at hjk; omega
                exact hbt.1 rfl
            · simp only
              rw [runT_take hlt]
              exact hr10
        · obtain rfl : k = d.turns.length := by omega
          repeat' (first | apply Jbr | apply Jbs | apply Jca | apply Jcb | apply Jcc)
          refine TC_quietExt mixed (by kernel_rfl) ?_
          repeat' (first | (apply Jck; (first | exact Jab rfl | exact Jan rfl rfl | (apply Jbl; exact Us.h; exact rfl; exact Sz.h; exact rfl)); exact rfl) | refine Jck (Pu_load Fl.h rfl (fun _ e => Ext.cell e (hb6.ld rfl))) rfl ?_ | refine Jck (Pu_loadAgg (cs := dskC d (.slice An ds.length cn) (.slice Ak d.kept.length ck) (.slice At d.turns.length ct)) Us.h rfl Sz.h rfl (fun _ e j u hu => Ext.cell e (by rw [add0, hb6.cell]; exact hu))) rfl ?_ | (refine TQ_call rfl en87 (fun w7 e7 => (specDiskUsed_c ((hh.ext (E5.ext e6)).ext e7) hl).mono (fun v' w' h => ⟨h.1, e7.ext h.2⟩)) rfl ?_))
          refine TQ_nil (fun w7 e7 => ?_)
          repeat' (first | apply Jbr | apply Jbu)
          refine TR_of (res1 rfl rfl) ⟨?_, E5.ext (e6.ext e7)⟩
          by_cases hu : pUsed d.nodes ≤ d.room
          · rw [decide_eq_true hu, pDOk_yes ⟨hB, hN, hK, hP, hlen, fun j hj => hst j hj hj, fun j hj => htt j hj hj, hu⟩]
          · rw [decide_eq_false hu, pDOk_no (fun h => hu h.used)]
end Go.Proofs.YtggaghghclomkaaGreat
