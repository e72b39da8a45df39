/- Contracts: whether a disk is right, by the program: the whole. -/
import Derived.Test.YtggaghghclomkaaGreatDokJ
namespace Go.Proofs.YtggaghghclomkaaGreat
open Go.RowKit
def lastId (l : List NodeP) : Nat → Int
  | 0 => 0
  | k + 1 => match l[k]? with | some p => p.1 | none => 0
theorem lastId_succ {l : List NodeP} {k : Nat} (h : k < l.length) : lastId l (k + 1) = l[k].1 := by simp [lastId, List.getElem?_eq_getElem h]
theorem lastId_step {d : DiskP} (hB : dBase d) {k : Nat} (h : k < d.nodes.length) (hst : ∀ i, i < k → nStep d i) : (0 ≤ lastId d.nodes k ∧ lastId d.nodes k ≤ 1000000) ∧ (nStep d k ↔ lastId d.nodes k + 1 ≤ d.nodes[k].1 ∧ d.nodes[k].1 ≤ d.next - 1) := by
  have hn := hB.2.2.1
  cases k with
  | zero =>
    have h0 : lastId d.nodes 0 = 0 := rfl
    rw [h0]
    refine ⟨by omega, ?_⟩
    constructor
    · intro h2; have := h2 h; omega
    · intro h2 _; exact ⟨by omega, by omega, fun h3 => absurd h3 (Nat.lt_irrefl 0)⟩
  | succ k =>
    have h1 := hst k (Nat.lt_succ_self k) (by omega)
    rw [lastId_succ (by omega)]
    refine ⟨by omega, ?_⟩
    constructor
    · intro h2
      have h3 : (d.nodes[k]'(by omega)).1 < d.nodes[k + 1].1 := (h2 h).2.2 (by omega)
      have h4 := (h2 h).2.1
      omega
    · intro h2 _
      have h3 : (d.nodes[k]'(by omega)).1 < d.nodes[k + 1].1 := by omega
      exact ⟨by omega, by omega, fun _ => h3⟩
attribute [local irreducible] TL TC TN TX TR TQ TA Pu Ret
set_option maxRecDepth 100000 in
set_option maxHeartbeats 16000000 in
theorem implDiskOk_c {w : World} {lo hi : Nat} {d : DiskP} {sn sk st : Value} (h : RDk w lo hi d sn sk st) (hf : d.fits) (hl : totD d ≤ 1048576) :
    Ret Tryz.prog 65 #[.agg (dskC d sn sk st).toArray] w fun v' w' => v' = .bool (pDOk d) ∧ Ext w w' := by
  obtain ⟨l1, l2, l3⟩ := totD_parts hl
  have nn1 := totNd_nn d.nodes
  have nn2 := totLk_nn d.kept
  have nn3 := totTn_nn d.turns
  have hh := h
  obtain ⟨ds, An, cn, hm, rfl, hcn, hrn, hok⟩ := h.1
  obtain ⟨Ak, ck, rfl, hck, hrk⟩ := h.2.1.row
  obtain ⟨At, ct, rfl, hct, hrt⟩ := h.2.2.row
  have hln : d.nodes.length = ds.length := by rw [← hm, List.length_map]
  have hff := hf
  obtain ⟨f1, f2, f3, _, ⟨_, f6⟩, ⟨_, f8⟩⟩ := hf
  have hdk := dok_iff d
  have bad : ¬ IOk d → pDOk d = false := fun hn => pDOk_no (fun h => hn (hdk.1 h))
  refine Ret_enter Tryz.func65 rfl rfl rfl ?_
  repeat' (first | apply Jbs | apply Jbt)
  refine TL_box (cs := dskC d (.slice An ds.length cn) (.slice Ak d.kept.length ck) (.slice At d.turns.length ct)) rfl rfl ?_
  intro wb g E hg hz hbk
  clear hz
  have hzb := E.size
  repeat' (first | apply Jbq | apply Jbr | apply Jbs | apply Jbt | apply Jbu | apply Jbv | apply Jby | apply Jbz | (refine Jce rfl ?_) | (apply Jcg; (first | exact Jaa rfl | exact Jab rfl | exact Jac Us.h rfl | exact Jah rfl rfl | exact Jai rfl rfl | exact Jaj rfl | exact Jam rfl rfl | (apply Jbl; exact Us.h; exact rfl; exact Sz.h; exact rfl)); exact rfl) | refine Jch rfl rfl rfl ?_ | refine Jci rfl rfl rfl rfl rfl ?_ | refine Jcg (Pu_load Fl.h rfl (fun _ e => by rw [e]; exact hbk.ld rfl)) rfl ?_ | (refine TL_call rfl en101 (in_d _ _ _ _) rfl rfl ?_; rintro _ _ ⟨rfl, rfl⟩) | (refine Jcs rfl rfl (fun hb => ?_) (fun hb => ?_) <;> (try (exfalso; omega))) | (refine Jct rfl rfl (fun hb => ?_) (fun hb => ?_) <;> (try (exfalso; omega))) | (refine Jcx rfl (fun hb => ?_) (fun hb => ?_) <;> (try (exfalso; omega))))
  all_goals try exact TR_of (res1 rfl rfl) ⟨by rw [bad (fun h => by have := h.base; unfold dBase at this; omega)], E⟩
  have hB : dBase d := by unfold dBase; omega
  refine TC_loop (ι := Nat) (fun k => [(1, .pointer (some ⟨g, 0, none⟩)), (3, I (lastId d.nodes k)), (47, .slice An ds.length cn), (48, I ds.length), (49, I k)]) (fun k w' => k ≤ ds.length ∧ (∀ i, i < k → nStep d i) ∧ Ext wb w') (fun k => ds.length - k) 0 (subEnv_cons rfl (subEnv_cons rfl (subEnv_cons rfl (subEnv_cons rfl (subEnv_cons rfl (subEnv_nil _)))))) ⟨Nat.zero_le _, fun i hi => absurd hi (Nat.not_lt_zero _), Ch.refl _ _⟩ ?_
  intro k w2 ⟨hkk, hst, e2⟩
  have hb2 := hbk.ext e2
  repeat' (first | apply Jbq | apply Jbr | apply Jbs | apply Jbt | (apply Jcg; exact Jad rfl rfl; exact rfl))
  refine Jcx rfl (fun hlt0 => ?_) (fun hge => ?_)
  · have hlt : k < ds.length := by omega
    obtain ⟨ad, rfl, hcell⟩ := Rd.elem NdC_len (hrn.ext (E.ext e2)) hlt
    obtain ⟨hlb, hiff⟩ := lastId_step hB (k := k) (by omega) hst
    have hls := lastId_succ (l := d.nodes) (k := k) (by omega)
    have hnk : d.nodes[k]'(by omega) = NdP ds[k] := by simp only [← hm, List.getElem_map]
    have hid : (d.nodes[k]'(by omega)).1 = ds[k].id := by rw [hnk]; rfl
    have hone := (hok _ (List.getElem_mem hlt)).one
    rw [hid] at hiff hls
    obtain ⟨x, hx⟩ : ∃ x, x = ds[k] := ⟨_, rfl⟩
    rw [← hx] at hcell hiff hone hls
    obtain ⟨id, body, safe, vb, vs⟩ := x
    simp only at hiff hls
    replace hcell : ∀ j u, [I id, vb, vs][j]? = some u → w2.cell? ((ad.add (k * 3)).add j) = some u := hcell
    replace hone : [I id, vb, vs].all (·.oneCell') = true := hone
    repeat' (first | apply Jbq | apply Jbr | apply Jbs | apply Jbt | apply Jbu | apply Jbv | apply Jbw | apply Jbx | apply Jby | apply Jbz | (apply Jcg; (first | exact Jaa rfl | exact Jab rfl | exact Jaf rfl rfl (by omega) | exact Jaj rfl | exact Jap rfl rfl (by omega) | exact Jar Us.h Sz.h rfl rfl (by omega) | (apply Jbl; exact Us.h; exact rfl; exact Sz.h; exact rfl)); exact rfl) | refine Jcg (Pu_loadAgg (cs := [I id, vb, vs]) Us.h rfl Sz.h rfl (fun _ e j u hu => by rw [e]; exact hcell j u hu)) rfl ?_ | (refine TL_alloc Zs.h rfl rfl ?_; intro w3 g3 e3 hg3 hz3 hb3; have hbk3 := hb2.ext e3) | (refine TL_storeAgg rfl rfl Sz.h hone hb3 rfl ?_; intro w4 c4 hz4 hb4; have hbk4 := hbk3.ch c4 (by have := e2.size; simp only [Iv]; have := hb2.lt; omega)) | refine Jcg (Pu_load Fl.h rfl (fun _ e => by rw [e]; exact hb4.ld rfl)) rfl ?_ | refine Jcg (Pu_load Fl.h rfl (fun _ e => by rw [e]; exact hbk4.ld rfl)) rfl ?_ | (refine TL_call rfl en101 (in_d _ _ _ _) rfl rfl ?_; rintro _ _ ⟨rfl, rfl⟩) | (refine Jcy rfl (fun hb => ?_) (fun hb => ?_) <;> (try (exfalso; omega))))
    · exact TR_of (res1 rfl rfl) ⟨by rw [bad (fun h => hb (hiff.1 (h.node k)))], E.ext (Ext.then_iv (e2.ext e3) c4 (by have := e2.size; omega))⟩
    · refine TN_round (k + 1) (subEnv_cons rfl (subEnv_cons (congrArg (fun z => some (I z)) hls.symm) (subEnv_cons rfl (subEnv_cons rfl (subEnv_cons rfl (subEnv_nil _)))))) ⟨hlt, fun i hi => ?_, Ext.then_iv (e2.ext e3) c4 (by have := e2.size; omega)⟩ (by omega)
      rcases Nat.lt_or_ge i k with h2 | h2
      · exact hst i h2
      · obtain rfl : i = k := by omega
        exact hiff.2 hb
  · obtain rfl : k = ds.length := by omega
    have hN : ∀ i, nStep d i := fun i => by
      rcases Nat.lt_or_ge i ds.length with h1 | h1
      · exact hst i h1
      · intro h2; omega
    clear hst hge
    repeat' (first | apply Jbq | apply Jbr | apply Jbs | apply Jbt | apply Jby | apply Jca | apply Jcb | apply Jcc | (apply Jcg; (first | exact Jaa rfl | exact Jac Us.h rfl | (apply Jbl; exact Us.h; exact rfl; exact Sz.h; exact rfl)); exact rfl) | refine Jcg (Pu_load Fl.h rfl (fun _ e => by rw [e]; exact hb2.ld rfl)) rfl ?_)
    refine TC_loop (ι := Nat) (fun k => [(1, .pointer (some ⟨g, 0, none⟩)), (66, .slice Ak d.kept.length ck), (67, I d.kept.length), (68, I k)]) (fun k w' => k ≤ d.kept.length ∧ (∀ i, i < k → kStep d i) ∧ Ext w2 w') (fun k => d.kept.length - k) 0 (subEnv_cons rfl (subEnv_cons rfl (subEnv_cons rfl (subEnv_cons rfl (subEnv_nil _))))) ⟨Nat.zero_le _, fun i hi => absurd hi (Nat.not_lt_zero _), Ch.refl _ _⟩ ?_
    intro k w3 ⟨hkk, hst, e3⟩
    have hb3 := hb2.ext e3
    repeat' (first | apply Jbq | apply Jbr | apply Jbs | apply Jbt | (apply Jcg; exact Jad rfl rfl; exact rfl))
    refine Jcx rfl (fun hlt0 => ?_) (fun hge => ?_)
    · have hlt : k < d.kept.length := by omega
      obtain ⟨ad, rfl, hcell⟩ := Rd.elem LkC_len (hrk.ext (E.ext (e2.ext e3))) hlt
      have hcp : 0 < k → w3.cell? ((ad.add (((k : Int) - 1).toNat * 2)).add 0) = some (S (d.kept[k - 1]'(by omega)).name) := fun h0 => by
        obtain ⟨ad', h1, hc⟩ := Rd.elem LkC_len (hrk.ext (E.ext (e2.ext e3))) (k := k - 1) (by omega)
        injection h1 with h1; subst h1
        rw [show ((k : Int) - 1).toNat = k - 1 by omega]
        exact hc 0 _ rfl
      have hkl : d.kept[k].name.length ≤ 9223372036854775807 := (f6 _ (List.getElem_mem hlt)).1
      have hiff : kStep d k ↔ (pName d.kept[k].name = true ∧ (0 < k → bytesBefore (d.kept[k - 1]'(by omega)).name d.kept[k].name = true)) :=
        ⟨fun h => h hlt, fun h _ => h⟩
      obtain ⟨x, hx⟩ : ∃ x, x = d.kept[k] := ⟨_, rfl⟩
      rw [← hx] at hcell hiff hkl
      obtain ⟨nm, id⟩ := x
      simp only at hiff hkl
      replace hcell : ∀ j u, [S nm, I id][j]? = some u → w3.cell? ((ad.add (k * 2)).add j) = some u := hcell
      have hno : ¬ (pName nm = true ∧ (0 < k → bytesBefore (d.kept[k - 1]'(by omega)).name nm = true)) → pDOk d = false := fun hn => bad (fun h => hn (hiff.1 (h.link k)))
      have hyes : pName nm = true → (0 < k → bytesBefore (d.kept[k - 1]'(by omega)).name nm = true) → ∀ i, i < k + 1 → kStep d i := fun a c i hi => by
        rcases Nat.lt_or_ge i k with h2 | h2
        · exact hst i h2
        · obtain rfl : i = k := by omega
          exact hiff.2 ⟨a, c⟩
      repeat' (first | apply Jbq | apply Jbr | apply Jbs | apply Jbt | apply Jby | apply Jbz | (apply Jcg; (first | exact Jaa rfl | exact Jab rfl | exact Jar Us.h Sz.h rfl rfl (by omega)); exact rfl) | refine Jcg (Pu_loadAgg (cs := [S nm, I id]) Us.h rfl Sz.h rfl (fun _ e j u hu => by rw [e]; exact hcell j u hu)) rfl ?_ | (refine TL_alloc Zs.h rfl rfl ?_; intro w4 g4 e4 hg4 hz4 hb4) | (refine TL_storeAgg rfl rfl Sz.h rfl hb4 rfl ?_; intro w5 c5 hz5 hb5))
      have E5 : Ext w3 w5 := Ext.then_iv e4 c5 (by omega)
      have hbk5 := hb3.ext E5
      refine TC_quietExt mixed (by kernel_rfl) ?_
      cases hp : pName nm with
      | false =>
        have hno := hno (by rw [hp]; rintro ⟨h, _⟩; cases h)
        repeat' (first | (apply Jck; (first | exact Jaa rfl | exact Jah rfl rfl | exact Jaj rfl | (apply Jbl; exact Us.h; exact rfl; exact Sz.h; exact rfl)); exact rfl) | refine Jcm rfl rfl rfl rfl rfl ?_ | refine Jcn rfl rfl rfl rfl ?_ | refine Jck (Pu_load Fl.h rfl (fun _ e => Ext.cell e (hb5.ld rfl))) rfl ?_ | (refine TQ_call rfl en139 (fun w6 e6 => (implNameOk_c _ _ hkl).mono (fun v' w' h => ⟨h.1.trans (by rw [hp]), h.2 ▸ e6⟩)) rfl ?_))
        refine TQ_nil (fun w6 e6 => ?_)
        repeat' (first | apply Jbq | apply Jbr | apply Jbs | apply Jbt | apply Jbu | apply Jbv | apply Jbw | (refine Jce rfl ?_) | (apply Jcg; exact Jab rfl; exact rfl))
        exact TR_of (res1 rfl rfl) ⟨by rw [hno], E.ext (e2.ext (e3.ext (E5.ext e6)))⟩
      | true =>
        rcases Nat.eq_zero_or_pos k with hk0 | hk0
        · repeat' (first | (apply Jck; (first | exact Jaa rfl | exact Jai rfl rfl | exact Jaj rfl | exact Jam rfl rfl | (apply Jbl; exact Us.h; exact rfl; exact Sz.h; exact rfl)); exact rfl) | refine Jcl rfl rfl rfl ?_ | refine Jcm rfl rfl rfl rfl rfl ?_ | refine Jck (Pu_load Fl.h rfl (fun _ e => Ext.cell e (hb5.ld rfl))) rfl ?_ | (refine TQ_call rfl en139 (fun w6 e6 => (implNameOk_c _ _ hkl).mono (fun v' w' h => ⟨h.1.trans (by rw [hp]), h.2 ▸ e6⟩)) rfl ?_) | (refine Jcv rfl rfl (fun hb => ?_) (fun hb => ?_) <;> (try (exfalso; omega))))
          refine TQ_nil (fun w6 e6 => ?_)
          repeat' (first | apply Jbq | apply Jbr | apply Jbt | apply Jbx | apply Jbz | (refine Jcf rfl ?_) | (apply Jcg; (first | exact Jaa rfl | exact Jaf rfl rfl (by omega)); exact rfl))
          exact TN_round (k + 1) (subEnv_cons rfl (subEnv_cons rfl (subEnv_cons rfl (subEnv_cons rfl (subEnv_nil _))))) ⟨hlt, hyes hp (fun h0 => by omega), e3.ext (E5.ext e6)⟩ (by omega)
        · have hc5 := E5.cell (hcp hk0)
          cases hbb : bytesBefore (d.kept[k - 1]'(by omega)).name nm with
          | true =>
            repeat' (first | (apply Jck; (first | exact Jaa rfl | exact Jah rfl rfl | exact Jai rfl rfl | exact Jaj rfl | exact Jam rfl rfl | exact Jap rfl rfl (by omega) | exact Jar Us.h Sz.h rfl rfl (by omega) | (apply Jbl; exact Us.h; exact rfl; exact Sz.h; exact rfl)); exact rfl) | refine Jcl rfl rfl rfl ?_ | refine Jck (Pu_load Fl.h rfl (fun _ e => Ext.cell e (hb5.ld rfl))) rfl ?_ | refine Jck (Pu_load Fl.h rfl (fun _ e => Ext.cell e (hbk5.ld rfl))) rfl ?_ | refine Jck (Pu_load Fl.h rfl (fun _ e => Ext.cell e hc5)) rfl ?_ | refine Jck (Pu_geqF' rfl rfl hbb) rfl ?_ | (refine TQ_call rfl en139 (fun w6 e6 => (implNameOk_c _ _ hkl).mono (fun v' w' h => ⟨h.1.trans (by rw [hp]), h.2 ▸ e6⟩)) rfl ?_) | (refine Jcv rfl rfl (fun hb => ?_) (fun hb => ?_) <;> (try (exfalso; omega))))
            refine TQ_nil (fun w6 e6 => ?_)
            repeat' (first | apply Jbq | apply Jbr | apply Jbt | apply Jbx | apply Jbz | (refine Jcf rfl ?_) | (apply Jcg; (first | exact Jaa rfl | exact Jaf rfl rfl (by omega)); exact rfl))
            exact TN_round (k + 1) (subEnv_cons rfl (subEnv_cons rfl (subEnv_cons rfl (subEnv_cons rfl (subEnv_nil _))))) ⟨hlt, hyes hp (fun _ => hbb), e3.ext (E5.ext e6)⟩ (by omega)
          | false =>
            have hno := hno (by rintro ⟨_, h⟩; rw [h hk0] at hbb; cases hbb)
            repeat' (first | (apply Jck; (first | exact Jaa rfl | exact Jah rfl rfl | exact Jai rfl rfl | exact Jaj rfl | exact Jam rfl rfl | exact Jap rfl rfl (by omega) | exact Jar Us.h Sz.h rfl rfl (by omega) | (apply Jbl; exact Us.h; exact rfl; exact Sz.h; exact rfl)); exact rfl) | refine Jcl rfl rfl rfl ?_ | refine Jck (Pu_load Fl.h rfl (fun _ e => Ext.cell e (hb5.ld rfl))) rfl ?_ | refine Jck (Pu_load Fl.h rfl (fun _ e => Ext.cell e (hbk5.ld rfl))) rfl ?_ | refine Jck (Pu_load Fl.h rfl (fun _ e => Ext.cell e hc5)) rfl ?_ | refine Jck (Pu_geqT' rfl rfl hbb) rfl ?_ | (refine TQ_call rfl en139 (fun w6 e6 => (implNameOk_c _ _ hkl).mono (fun v' w' h => ⟨h.1.trans (by rw [hp]), h.2 ▸ e6⟩)) rfl ?_) | (refine Jcv rfl rfl (fun hb => ?_) (fun hb => ?_) <;> (try (exfalso; omega))))
            refine TQ_nil (fun w6 e6 => ?_)
            repeat' (first | apply Jbq | apply Jbr | apply Jbs | apply Jbt | apply Jbu | apply Jbv | apply Jbw | (refine Jce rfl ?_) | (apply Jcg; exact Jab rfl; exact rfl))
            exact TR_of (res1 rfl rfl) ⟨by rw [hno], E.ext (e2.ext (e3.ext (E5.ext e6)))⟩
    · obtain rfl : k = d.kept.length := by omega
      have hK : ∀ i, kStep d i := fun i => by
        rcases Nat.lt_or_ge i d.kept.length with h1 | h1
        · exact hst i h1
        · intro h2; omega
      clear hst hge
      have E3 := E.ext (e2.ext e3)
      repeat' (first | apply Jbq | apply Jbr | apply Jbs | apply Jbt | apply Jby | apply Jca | apply Jcb | apply Jcc | (apply Jcg; (first | exact Jaa rfl | exact Jac Us.h rfl | (apply Jbl; exact Us.h; exact rfl; exact Sz.h; exact rfl)); exact rfl) | refine Jcg (Pu_load Fl.h rfl (fun _ e => by rw [e]; exact hb3.ld rfl)) rfl ?_)
      refine TC_loop (ι := Nat) (fun k => [(1, .pointer (some ⟨g, 0, none⟩)), (95, .slice At d.turns.length ct), (96, I d.turns.length), (97, I k)]) (fun k w' => k ≤ d.turns.length ∧ (∀ j (hj : j < d.turns.length), j < k → tOk0 d.turns[j]) ∧ Ext w3 w') (fun k => d.turns.length - k) 0 (subEnv_cons rfl (subEnv_cons rfl (subEnv_cons rfl (subEnv_cons rfl (subEnv_nil _))))) ⟨Nat.zero_le _, fun i _ hi => absurd hi (Nat.not_lt_zero _), Ch.refl _ _⟩ ?_
      intro k w4 ⟨hkk, htt, e4⟩
      repeat' (first | apply Jbq | apply Jbr | apply Jbs | apply Jbt | (apply Jcg; exact Jad rfl rfl; exact rfl))
      refine Jcx rfl (fun hlt0 => ?_) (fun hge => ?_)
      · have hlt : k < d.turns.length := by omega
        obtain ⟨ad, rfl, hcell⟩ := Rd.elem TnC_len (hrt.ext (E3.ext e4)) hlt
        repeat' (first | apply Jbq | apply Jbr | apply Jbs | apply Jbt | apply Jby | apply Jbz | (apply Jcg; exact Jar Us.h Sz.h rfl rfl (by omega); exact rfl) | refine Jcg (Pu_loadAgg (cs := TnC d.turns[k]) Us.h rfl Sz.h rfl (fun _ e j u hu => by rw [e]; exact hcell j u hu)) rfl ?_ | (refine TL_alloc Zs.h rfl rfl ?_; intro w5 g5 e5 hg5 hz5 hb5) | (refine TL_storeAgg rfl rfl Sz.h rfl hb5 rfl ?_; intro w6 c6 hz6 hb6) | refine Jcg (Pu_loadAgg (cs := TnC d.turns[k]) Us.h rfl Sz.h rfl (fun _ e j u hu => by rw [e, add0, hb6.cell]; exact hu)) rfl ?_)
        have E6 : Ext w4 w6 := Ext.then_iv e5 c6 (by omega)
        refine TL_call rfl en140 (turnOk_c (f8 _ (List.getElem_mem hlt))) rfl rfl ?_
        rintro _ w7 ⟨⟨b, rfl, hbt⟩, e7⟩
        cases b with
        | false =>
          repeat' (first | apply Jbq | apply Jbr | apply Jbs | apply Jbt | apply Jbu | apply Jbv | apply Jbw | (refine Jce rfl ?_) | (apply Jcg; (first | exact Jab rfl | exact Jaj rfl); exact rfl))
          exact TR_of (res1 rfl rfl) ⟨by rw [bad (fun h => by have := hbt.2 (h.turn0 k hlt); cases this)], E3.ext (e4.ext (E6.ext e7))⟩
        | true =>
          repeat' (first | apply Jbq | apply Jbr | apply Jbt | apply Jbx | apply Jbz | (refine Jcf rfl ?_) | (apply Jcg; (first | exact Jaa rfl | exact Jaf rfl rfl (by omega) | exact Jaj rfl); exact rfl))
          refine TN_round (k + 1) (subEnv_cons rfl (subEnv_cons rfl (subEnv_cons rfl (subEnv_cons rfl (subEnv_nil _))))) ⟨hlt, fun j hj hjk => ?_, e4.ext (E6.ext e7)⟩ (by omega)
          rcases Nat.lt_or_ge j k with h2 | h2
          · exact htt j hj h2
          · obtain rfl : j = k := by omega
            exact hbt.1 rfl
      · obtain rfl : k = d.turns.length := by omega
        have hb4 := hb3.ext e4
        have E4 := E3.ext e4
        have hNb : ∀ p ∈ d.nodes, 1 ≤ p.1 ∧ p.1 ≤ 1000000 := fun p hp => by
          obtain ⟨i, hi, rfl⟩ := List.mem_iff_getElem.1 hp
          have := hN i hi
          have := hB.2.2.1
          omega
        repeat' (first | apply Jbr | apply Jbs | apply Jbt | apply Jca | apply Jcb | apply Jcc | (apply Jcg; (apply Jbl; exact Us.h; exact rfl; exact Sz.h; exact rfl); exact rfl) | refine Jcg (Pu_load Fl.h rfl (fun _ e => by rw [e]; exact hb4.ld rfl)) rfl ?_)
        refine TL_call rfl en67 (dirOf_c (hh.2.1.ext E4) (hh.2.2.ext E4) (kept_asc hK) (by omega) (by omega) f6 f8) rfl rfl ?_
        rintro _ w5 ⟨e5, hq⟩
        have hb5 := hb4.ext e5
        have E5 := E4.ext e5
        rcases hq with ⟨hA, b, kb, rfl, _, _, hM⟩ | ⟨hA, rfl⟩
        · repeat' (first | apply Jbq | apply Jbr | apply Jbs | (apply Jcg; (first | exact Jaa rfl | exact Jab rfl | exact Jae rfl rfl); exact rfl))
          refine TC_quietExt mixed (by kernel_rfl) ?_
          cases hfit : pFit d with
          | true =>
            have hF := pFit_of hfit
            repeat' (first | (apply Jck; (first | exact Jaa rfl | exact Jab rfl | exact Jah rfl rfl | exact Jan rfl rfl | (apply Jbl; exact Us.h; exact rfl; exact Sz.h; exact rfl)); exact rfl) | refine Jcl rfl rfl rfl ?_ | refine Jck (Pu_load Fl.h rfl (fun _ e => Ext.cell e (hb5.ld rfl))) rfl ?_ | refine Jck (Pu_loadAgg (cs := dskC d (.slice An ds.length cn) (.slice Ak d.kept.length ck) (.slice At d.turns.length ct)) Us.h rfl Sz.h rfl (fun _ e j u hu => Ext.cell e (by rw [add0, hb5.cell]; exact hu))) rfl ?_ | (refine TQ_call rfl en95 (fun w7 e7 => (implDiskUsed_c ((hh.ext E5).ext e7) hl).mono (fun v' w' h => ⟨h.1, e7.ext h.2⟩)) rfl ?_) | (refine TQ_call rfl en141 (fun w7 e7 => (idsFit_c ((hh.ext E5).ext e7) hff (by omega) (by omega) (by omega) hNb).mono (fun v' w' h => ⟨h.1.trans (by rw [hfit]), e7.ext h.2⟩)) rfl ?_))
            refine TQ_nil (fun w6 e6 => ?_)
            repeat' (first | apply Jbr | apply Jbu)
            refine TR_of (res1 rfl rfl) ⟨?_, E5.ext e6⟩
            by_cases hu : pUsed d.nodes ≤ d.room
            · rw [decide_eq_true hu, pDOk_yes (hdk.2 ⟨hB, hN, hK, fun j hj => htt j hj hj, hA, hF.1, hF.2.1, hF.2.2, hu⟩)]
            · rw [decide_eq_false hu, bad (fun h => hu h.used)]
          | false =>
            have hF := pFit_not hfit
            repeat' (first | (apply Jck; (first | exact Jaa rfl | exact Jab rfl | exact Jah rfl rfl | exact Jai rfl rfl); exact rfl) | refine Jcl rfl rfl rfl ?_ | refine Jcm rfl rfl rfl rfl rfl ?_ | refine Jck (Pu_loadAgg (cs := dskC d (.slice An ds.length cn) (.slice Ak d.kept.length ck) (.slice At d.turns.length ct)) Us.h rfl Sz.h rfl (fun _ e j u hu => Ext.cell e (by rw [add0, hb5.cell]; exact hu))) rfl ?_ | (refine TQ_call rfl en141 (fun w7 e7 => (idsFit_c ((hh.ext E5).ext e7) hff (by omega) (by omega) (by omega) hNb).mono (fun v' w' h => ⟨h.1.trans (by rw [hfit]), e7.ext h.2⟩)) rfl ?_))
            refine TQ_nil (fun w6 e6 => ?_)
            repeat' (first | apply Jbr | apply Jbu)
            exact TR_of (res1 rfl rfl) ⟨by rw [bad (fun h => hF ⟨h.nodup, h.len, h.ids⟩)], E5.ext e6⟩
        · repeat' (first | apply Jbq | apply Jbr | apply Jbs | (apply Jcg; (first | exact Jaa rfl | exact Jab rfl | exact Jae rfl rfl); exact rfl))
          refine TC_quietExt mixed (by kernel_rfl) ?_
          repeat' (first | (apply Jck; (first | exact Jaa rfl | exact Jab rfl | exact Jai rfl rfl); exact rfl) | refine Jcm rfl rfl rfl rfl rfl ?_)
          refine TQ_nil (fun w6 e6 => ?_)
          repeat' (first | apply Jbr | apply Jbu)
          exact TR_of (res1 rfl rfl) ⟨by rw [bad (fun h => hA h.turn)], E5.ext e6⟩
end Go.Proofs.YtggaghghclomkaaGreat
