/- FnExactDiskRun: the law answers true for every input and leaves its arguments as they were. Conditions: none but those of the given row. -/
import Derived.Test.YtggaghghclomkaaGreatQFEDDFEDR21l
import Derived.Test.YtggaghghclomkaaGreatRows
namespace Go.Proofs.YtggaghghclomkaaGreat.FnExactDiskRunP
open Go.RowKit Go.ChangeShapes Go.WideShapes Go.ChangeAt Go.Deep
open Go.ChangeMaps (open_string shut_string)
section
attribute [local irreducible] TL TC TN TX TR TQ TA Pu Ret
set_option maxRecDepth 100000 in
set_option maxHeartbeats 16000000 in
theorem law_c (d : DiskP) (l : List OpD) {vo : Value} {sn sk st : Value} (W : World) (hp : RDk W 0 W.heap.size d sn sk st) (hf : d.fits) (ho : ROps W 0 W.heap.size vo l) (hol0 : l.length ≤ 9223372036854775807) (hof : ∀ p ∈ l, OdFit p) : Ret Tryz.prog 5 #[.agg (dskC d sn sk st).toArray, vo] W fun v' w' => v' = .bool true ∧ Ext W w' := by
  refine Ret_enter Tryz.func5 rfl rfl rfl ?_
  repeat' (first | apply Jbq | apply Jbr | apply Jbs | apply Jbt | apply Jbu | apply Jbv | apply Jbw | apply Jbx | apply Jby | apply Jbz | apply Jca | apply Jcb | apply Jcc | (refine Jcd rfl ?_) | (refine Jce rfl ?_) | (refine Jcf rfl ?_) | (apply Jcg; (first | exact Jaa rfl | exact Jab rfl | exact Jad rfl rfl | exact Jae rfl rfl | exact Jah rfl rfl | exact Jai rfl rfl | exact Jaj rfl | exact Jal rfl rfl | exact Jat rfl rfl | exact Jav Us.h rfl rfl); exact rfl) | refine Jch rfl rfl rfl ?_ | refine Jci rfl rfl rfl rfl rfl ?_ | refine Jcj rfl rfl rfl rfl ?_)
  refine TL_box (cs := dskC d sn sk st) rfl rfl ?_
  intro w1 g E hg hz hbk
  have z0 := E.size
  repeat' (first | apply Jbq | apply Jbr | apply Jbs | apply Jbt | apply Jbu | apply Jbv | apply Jbw | apply Jbx | apply Jby | apply Jbz | apply Jca | apply Jcb | apply Jcc | (refine Jcd rfl ?_) | (refine Jce rfl ?_) | (refine Jcf rfl ?_) | (apply Jcg; (first | exact Jaa rfl | exact Jab rfl | exact Jad rfl rfl | exact Jae rfl rfl | exact Jah rfl rfl | exact Jai rfl rfl | exact Jaj rfl | exact Jal rfl rfl | exact Jat rfl rfl | exact Jav Us.h rfl rfl); exact rfl) | refine Jch rfl rfl rfl ?_ | refine Jci rfl rfl rfl rfl rfl ?_ | refine Jcj rfl rfl rfl rfl ?_ | refine Jcg (Pu_loadAgg (cs := dskC d sn sk st) Us.h rfl Sz.h rfl (fun _ e j u hu => by rw [e, add0, hbk.cell]; exact hu)) rfl ?_)
  refine TL_call rfl en11 (szDisk_c (hp.ext E) hf (by omega) (by omega)) rfl rfl ?_
  rintro _ w2 ⟨hv, e⟩
  replace hbk := hbk.ext e
  replace E := E.ext e
  have z2 := e.size
  clear e
  rcases hv with rfl | ⟨rfl, hd⟩
  · repeat' (first | apply Jbq | apply Jbr | apply Jbs | apply Jbt | apply Jbu | apply Jbv | apply Jbw | apply Jbx | apply Jby | apply Jbz | apply Jca | apply Jcb | apply Jcc | (refine Jcd rfl ?_) | (refine Jce rfl ?_) | (refine Jcf rfl ?_) | (apply Jcg; (first | exact Jbm rfl rfl | exact Jbn Us.h rfl rfl | exact Jbo rfl rfl | exact Jaa rfl | exact Jab rfl | exact Jad rfl rfl | exact Jae rfl rfl | exact Jah rfl rfl | exact Jai rfl rfl | exact Jaj rfl | exact Jal rfl rfl | exact Jat rfl rfl | exact Jav Us.h rfl rfl); exact rfl) | refine Jch rfl rfl rfl ?_ | refine Jci rfl rfl rfl rfl rfl ?_ | refine Jcj rfl rfl rfl rfl ?_ | (refine Jcs rfl rfl (fun hb => ?_) (fun hb => ?_) <;> (try (exfalso; omega))) | (refine Jct rfl rfl (fun hb => ?_) (fun hb => ?_) <;> (try (exfalso; omega))) | refine Jcr rfl rfl (fun hb => ?_) (fun hb => ?_) | (refine Jcx rfl (fun hb => ?_) (fun hb => ?_) <;> (try (exfalso; omega))) | (refine Jcy rfl (fun hb => ?_) (fun hb => ?_) <;> (try (exfalso; omega))) | refine Jcz rfl (fun hb => ?_) (fun hb => ?_))
    exact TR_of (res1 rfl rfl) ⟨rfl, E⟩
  have hlt := hbk.lt
  have htn := totD_nn d
  repeat' (first | apply Jbq | apply Jbr | apply Jbs | apply Jbt | apply Jbu | apply Jbv | apply Jbw | apply Jbx | apply Jby | apply Jbz | apply Jca | apply Jcb | apply Jcc | (refine Jcd rfl ?_) | (refine Jce rfl ?_) | (refine Jcf rfl ?_) | (apply Jcg; (first | exact Jbm rfl rfl | exact Jbn Us.h rfl rfl | exact Jbo rfl rfl | exact Jaa rfl | exact Jab rfl | exact Jad rfl rfl | exact Jae rfl rfl | exact Jah rfl rfl | exact Jai rfl rfl | exact Jaj rfl | exact Jal rfl rfl | exact Jat rfl rfl | exact Jav Us.h rfl rfl); exact rfl) | refine Jch rfl rfl rfl ?_ | refine Jci rfl rfl rfl rfl rfl ?_ | refine Jcj rfl rfl rfl rfl ?_ | (refine Jcs rfl rfl (fun hb => ?_) (fun hb => ?_) <;> (try (exfalso; omega))) | (refine Jct rfl rfl (fun hb => ?_) (fun hb => ?_) <;> (try (exfalso; omega))) | refine Jcr rfl rfl (fun hb => ?_) (fun hb => ?_) | (refine Jcx rfl (fun hb => ?_) (fun hb => ?_) <;> (try (exfalso; omega))) | (refine Jcy rfl (fun hb => ?_) (fun hb => ?_) <;> (try (exfalso; omega))) | refine Jcz rfl (fun hb => ?_) (fun hb => ?_))
  refine TL_call rfl en27 (szOpS_k (ho.ext E) hol0 (by omega) (by omega) hof) rfl rfl ?_
  rintro _ w3 ⟨hv, e⟩
  replace hbk := hbk.ext e
  replace E := E.ext e
  have z3 := e.size
  clear e
  rcases hv with rfl | ⟨rfl, hod⟩
  · repeat' (first | apply Jbq | apply Jbr | apply Jbs | apply Jbt | apply Jbu | apply Jbv | apply Jbw | apply Jbx | apply Jby | apply Jbz | apply Jca | apply Jcb | apply Jcc | (refine Jcd rfl ?_) | (refine Jce rfl ?_) | (refine Jcf rfl ?_) | (apply Jcg; (first | exact Jbm rfl rfl | exact Jbn Us.h rfl rfl | exact Jbo rfl rfl | exact Jaa rfl | exact Jab rfl | exact Jad rfl rfl | exact Jae rfl rfl | exact Jah rfl rfl | exact Jai rfl rfl | exact Jaj rfl | exact Jal rfl rfl | exact Jat rfl rfl | exact Jav Us.h rfl rfl); exact rfl) | refine Jch rfl rfl rfl ?_ | refine Jci rfl rfl rfl rfl rfl ?_ | refine Jcj rfl rfl rfl rfl ?_ | (refine Jcs rfl rfl (fun hb => ?_) (fun hb => ?_) <;> (try (exfalso; omega))) | (refine Jct rfl rfl (fun hb => ?_) (fun hb => ?_) <;> (try (exfalso; omega))) | refine Jcr rfl rfl (fun hb => ?_) (fun hb => ?_) | (refine Jcx rfl (fun hb => ?_) (fun hb => ?_) <;> (try (exfalso; omega))) | (refine Jcy rfl (fun hb => ?_) (fun hb => ?_) <;> (try (exfalso; omega))) | refine Jcz rfl (fun hb => ?_) (fun hb => ?_))
    exact TR_of (res1 rfl rfl) ⟨rfl, E⟩
  have hol : l.length + totOd l ≤ 1048576 := by omega
  have hnn2 := totOd_nn l
  obtain ⟨r, hr⟩ : ∃ r, r = (pRuns d l).1 := ⟨_, rfl⟩
  have hrt : totD r ≤ 1048576 := by rw [hr]; exact pRuns_tot hd
  repeat' (first | apply Jbq | apply Jbr | apply Jbs | apply Jbt | apply Jbu | apply Jbv | apply Jbw | apply Jbx | apply Jby | apply Jbz | apply Jca | apply Jcb | apply Jcc | (refine Jcd rfl ?_) | (refine Jce rfl ?_) | (refine Jcf rfl ?_) | (apply Jcg; (first | exact Jbm rfl rfl | exact Jbn Us.h rfl rfl | exact Jbo rfl rfl | exact Jaa rfl | exact Jab rfl | exact Jad rfl rfl | exact Jae rfl rfl | exact Jah rfl rfl | exact Jai rfl rfl | exact Jaj rfl | exact Jal rfl rfl | exact Jat rfl rfl | exact Jav Us.h rfl rfl); exact rfl) | refine Jch rfl rfl rfl ?_ | refine Jci rfl rfl rfl rfl rfl ?_ | refine Jcj rfl rfl rfl rfl ?_ | refine Jcg (Pu_loadAgg (cs := dskC d sn sk st) Us.h rfl Sz.h rfl (fun _ e j u hu => by rw [e, add0, hbk.cell]; exact hu)) rfl ?_ | (refine Jcs rfl rfl (fun hb => ?_) (fun hb => ?_) <;> (try (exfalso; omega))) | (refine Jct rfl rfl (fun hb => ?_) (fun hb => ?_) <;> (try (exfalso; omega))) | refine Jcr rfl rfl (fun hb => ?_) (fun hb => ?_) | (refine Jcx rfl (fun hb => ?_) (fun hb => ?_) <;> (try (exfalso; omega))) | (refine Jcy rfl (fun hb => ?_) (fun hb => ?_) <;> (try (exfalso; omega))) | refine Jcz rfl (fun hb => ?_) (fun hb => ?_))
  refine TL_call rfl en13 (toDisk_c (hp.ext E) hd) rfl rfl ?_
  rintro _ w4 ⟨sn1, sk1, st1, rfl, e, ho1⟩
  replace hbk := hbk.ext e
  replace E := E.ext e
  have z4 := e.size
  clear e
  repeat' (first | apply Jbq | apply Jbr | apply Jbs | apply Jbt | apply Jbu | apply Jbv | apply Jbw | apply Jbx | apply Jby | apply Jbz | apply Jca | apply Jcb | apply Jcc | (refine Jcd rfl ?_) | (refine Jce rfl ?_) | (refine Jcf rfl ?_) | (apply Jcg; (first | exact Jaa rfl | exact Jab rfl | exact Jad rfl rfl | exact Jae rfl rfl | exact Jah rfl rfl | exact Jai rfl rfl | exact Jaj rfl | exact Jal rfl rfl | exact Jat rfl rfl | exact Jav Us.h rfl rfl); exact rfl) | refine Jch rfl rfl rfl ?_ | refine Jci rfl rfl rfl rfl rfl ?_ | refine Jcj rfl rfl rfl rfl ?_)
  refine TL_call rfl en29 (toOpS_k (ho.ext E) hol) rfl rfl ?_
  rintro vi1 w5 ⟨e, hi1⟩
  replace hbk := hbk.ext e
  replace ho1 := ho1.ext e
  replace E := E.ext e
  have z5 := e.size
  clear e
  repeat' (first | apply Jbq | apply Jbr | apply Jbs | apply Jbt | apply Jbu | apply Jbv | apply Jbw | apply Jbx | apply Jby | apply Jbz | apply Jca | apply Jcb | apply Jcc | (refine Jcd rfl ?_) | (refine Jce rfl ?_) | (refine Jcf rfl ?_) | (apply Jcg; (first | exact Jaa rfl | exact Jab rfl | exact Jad rfl rfl | exact Jae rfl rfl | exact Jah rfl rfl | exact Jai rfl rfl | exact Jaj rfl | exact Jal rfl rfl | exact Jat rfl rfl | exact Jav Us.h rfl rfl); exact rfl) | refine Jch rfl rfl rfl ?_ | refine Jci rfl rfl rfl rfl rfl ?_ | refine Jcj rfl rfl rfl rfl ?_)
  refine TL_call rfl en28 (specDiskRun_c ho1 hf hd hi1.rd.op (fun o h => (hof o h).1) (by omega)) rfl rfl ?_
  rintro _ w6 ⟨snw, skw, stw, rfl, e, hw⟩
  rw [← hr] at hw ⊢
  clear ho1 hi1
  replace hbk := hbk.ext e
  replace E := E.ext e
  have z6 := e.size
  clear e
  have onew := hw.one
  repeat' (first | apply Jbq | apply Jbr | apply Jbs | apply Jbt | apply Jbu | apply Jbv | apply Jbw | apply Jbx | apply Jby | apply Jbz | apply Jca | apply Jcb | apply Jcc | (refine Jcd rfl ?_) | (refine Jce rfl ?_) | (refine Jcf rfl ?_) | (apply Jcg; (first | exact Jaa rfl | exact Jab rfl | exact Jad rfl rfl | exact Jae rfl rfl | exact Jah rfl rfl | exact Jai rfl rfl | exact Jaj rfl | exact Jal rfl rfl | exact Jat rfl rfl | exact Jav Us.h rfl rfl); exact rfl) | refine Jch rfl rfl rfl ?_ | refine Jci rfl rfl rfl rfl rfl ?_ | refine Jcj rfl rfl rfl rfl ?_)
  refine TL_alloc Zs.h rfl rfl ?_
  intro w7 ghbw e hghbw hzghbw hbw
  replace hbk := hbk.ext e
  replace hw := hw.ext e
  replace E := E.ext e
  have z7 := e.size
  clear e
  have hlthbw := hbw.lt
  repeat' (first | apply Jbq | apply Jbr | apply Jbs | apply Jbt | apply Jbu | apply Jbv | apply Jbw | apply Jbx | apply Jby | apply Jbz | apply Jca | apply Jcb | apply Jcc | (refine Jcd rfl ?_) | (refine Jce rfl ?_) | (refine Jcf rfl ?_) | (apply Jcg; (first | exact Jaa rfl | exact Jab rfl | exact Jad rfl rfl | exact Jae rfl rfl | exact Jah rfl rfl | exact Jai rfl rfl | exact Jaj rfl | exact Jal rfl rfl | exact Jat rfl rfl | exact Jav Us.h rfl rfl); exact rfl) | refine Jch rfl rfl rfl ?_ | refine Jci rfl rfl rfl rfl rfl ?_ | refine Jcj rfl rfl rfl rfl ?_)
  refine TL_storeAgg rfl rfl Sz.h onew hbw rfl ?_
  clear hbw
  intro w8 c hzz hbw
  replace hbk := hbk.ch c (by simp only [Iv]; omega)
  replace hw := hw.ch c (by intro k _ _; simp only [Iv]; omega)
  replace E : Ext W _ := Ext.then_iv E c (by omega)
  have z8 := c.size
  clear c
  repeat' (first | apply Jbq | apply Jbr | apply Jbs | apply Jbt | apply Jbu | apply Jbv | apply Jbw | apply Jbx | apply Jby | apply Jbz | apply Jca | apply Jcb | apply Jcc | (refine Jcd rfl ?_) | (refine Jce rfl ?_) | (refine Jcf rfl ?_) | (apply Jcg; (first | exact Jaa rfl | exact Jab rfl | exact Jad rfl rfl | exact Jae rfl rfl | exact Jah rfl rfl | exact Jai rfl rfl | exact Jaj rfl | exact Jal rfl rfl | exact Jat rfl rfl | exact Jav Us.h rfl rfl); exact rfl) | refine Jch rfl rfl rfl ?_ | refine Jci rfl rfl rfl rfl rfl ?_ | refine Jcj rfl rfl rfl rfl ?_ | refine Jcg (Pu_loadAgg (cs := dskC d sn sk st) Us.h rfl Sz.h rfl (fun _ e j u hu => by rw [e, add0, hbk.cell]; exact hu)) rfl ?_)
  refine TL_call rfl en13 (toDisk_o (hp.ext E) hd) rfl rfl ?_
  rintro _ w9 ⟨sn2, sk2, st2, rfl, e, hx⟩
  replace hbk := hbk.ext e
  replace hw := hw.ext e
  replace hbw := hbw.ext e
  replace E := E.ext e
  have z9 := e.size
  clear e
  have onex := hx.one
  repeat' (first | apply Jbq | apply Jbr | apply Jbs | apply Jbt | apply Jbu | apply Jbv | apply Jbw | apply Jbx | apply Jby | apply Jbz | apply Jca | apply Jcb | apply Jcc | (refine Jcd rfl ?_) | (refine Jce rfl ?_) | (refine Jcf rfl ?_) | (apply Jcg; (first | exact Jaa rfl | exact Jab rfl | exact Jad rfl rfl | exact Jae rfl rfl | exact Jah rfl rfl | exact Jai rfl rfl | exact Jaj rfl | exact Jal rfl rfl | exact Jat rfl rfl | exact Jav Us.h rfl rfl); exact rfl) | refine Jch rfl rfl rfl ?_ | refine Jci rfl rfl rfl rfl rfl ?_ | refine Jcj rfl rfl rfl rfl ?_)
  refine TL_alloc Zs.h rfl rfl ?_
  intro w10 ghbx e hghbx hzghbx hbx
  replace hbk := hbk.ext e
  replace hw := hw.ext e
  replace hbw := hbw.ext e
  replace hx := hx.ext e
  replace E := E.ext e
  have z10 := e.size
  clear e
  have hlthbx := hbx.lt
  repeat' (first | apply Jbq | apply Jbr | apply Jbs | apply Jbt | apply Jbu | apply Jbv | apply Jbw | apply Jbx | apply Jby | apply Jbz | apply Jca | apply Jcb | apply Jcc | (refine Jcd rfl ?_) | (refine Jce rfl ?_) | (refine Jcf rfl ?_) | (apply Jcg; (first | exact Jaa rfl | exact Jab rfl | exact Jad rfl rfl | exact Jae rfl rfl | exact Jah rfl rfl | exact Jai rfl rfl | exact Jaj rfl | exact Jal rfl rfl | exact Jat rfl rfl | exact Jav Us.h rfl rfl); exact rfl) | refine Jch rfl rfl rfl ?_ | refine Jci rfl rfl rfl rfl rfl ?_ | refine Jcj rfl rfl rfl rfl ?_)
  refine TL_storeAgg rfl rfl Sz.h onex hbx rfl ?_
  clear hbx
  intro w11 c hzz hbx
  replace hbk := hbk.ch c (by simp only [Iv]; omega)
  replace hw := hw.ch c (by intro k _ _; simp only [Iv]; omega)
  replace hbw := hbw.ch c (by simp only [Iv]; omega)
  replace hx := hx.ch c (by intro k _ _; simp only [Iv]; omega)
  replace E : Ext W _ := Ext.then_iv E c (by omega)
  have z11 := c.size
  clear c
  repeat' (first | apply Jbq | apply Jbr | apply Jbs | apply Jbt | apply Jbu | apply Jbv | apply Jbw | apply Jbx | apply Jby | apply Jbz | apply Jca | apply Jcb | apply Jcc | (refine Jcd rfl ?_) | (refine Jce rfl ?_) | (refine Jcf rfl ?_) | (apply Jcg; (first | exact Jaa rfl | exact Jab rfl | exact Jad rfl rfl | exact Jae rfl rfl | exact Jah rfl rfl | exact Jai rfl rfl | exact Jaj rfl | exact Jal rfl rfl | exact Jat rfl rfl | exact Jav Us.h rfl rfl); exact rfl) | refine Jch rfl rfl rfl ?_ | refine Jci rfl rfl rfl rfl rfl ?_ | refine Jcj rfl rfl rfl rfl ?_)
  refine TL_call rfl en29 (toOpS_k (ho.ext E) hol) rfl rfl ?_
  rintro vi2 w12 ⟨e, hx2⟩
  replace hbk := hbk.ext e
  replace hw := hw.ext e
  replace hbw := hbw.ext e
  replace hx := hx.ext e
  replace hbx := hbx.ext e
  replace E := E.ext e
  have z12 := e.size
  clear e
  repeat' (first | apply Jbq | apply Jbr | apply Jbs | apply Jbt | apply Jbu | apply Jbv | apply Jbw | apply Jbx | apply Jby | apply Jbz | apply Jca | apply Jcb | apply Jcc | (refine Jcd rfl ?_) | (refine Jce rfl ?_) | (refine Jcf rfl ?_) | (apply Jcg; (first | exact Jaa rfl | exact Jab rfl | exact Jad rfl rfl | exact Jae rfl rfl | exact Jah rfl rfl | exact Jai rfl rfl | exact Jaj rfl | exact Jal rfl rfl | exact Jat rfl rfl | exact Jav Us.h rfl rfl); exact rfl) | refine Jch rfl rfl rfl ?_ | refine Jci rfl rfl rfl rfl rfl ?_ | refine Jcj rfl rfl rfl rfl ?_ | refine Jcg (Pu_loadAgg (cs := dskC d sn2 sk2 st2) Us.h rfl Sz.h rfl (fun _ e j u hu => by rw [e, add0, hbx.cell]; exact hu)) rfl ?_)
  refine TL_call rfl en30 (implDiskRun_c hx.rd hf hd hx2.rd.op (fun o h => (hof o h).1) (by omega)) rfl rfl ?_
  rintro _ w13 ⟨sng, skg, stg, rfl, e, hgd⟩
  rw [← hr] at hgd ⊢
  replace hbk := hbk.ext e
  replace hw := hw.ext e
  replace hbw := hbw.ext e
  replace hx := hx.ext e
  replace hbx := hbx.ext e
  replace hx2 := hx2.ext e
  replace E := E.ext e
  have z13 := e.size
  clear e
  have oneg := hgd.one
  repeat' (first | apply Jbq | apply Jbr | apply Jbs | apply Jbt | apply Jbu | apply Jbv | apply Jbw | apply Jbx | apply Jby | apply Jbz | apply Jca | apply Jcb | apply Jcc | (refine Jcd rfl ?_) | (refine Jce rfl ?_) | (refine Jcf rfl ?_) | (apply Jcg; (first | exact Jaa rfl | exact Jab rfl | exact Jad rfl rfl | exact Jae rfl rfl | exact Jah rfl rfl | exact Jai rfl rfl | exact Jaj rfl | exact Jal rfl rfl | exact Jat rfl rfl | exact Jav Us.h rfl rfl); exact rfl) | refine Jch rfl rfl rfl ?_ | refine Jci rfl rfl rfl rfl rfl ?_ | refine Jcj rfl rfl rfl rfl ?_)
  refine TL_alloc Zs.h rfl rfl ?_
  intro w14 ghbg e hghbg hzghbg hbg
  replace hbk := hbk.ext e
  replace hw := hw.ext e
  replace hbw := hbw.ext e
  replace hx := hx.ext e
  replace hbx := hbx.ext e
  replace hx2 := hx2.ext e
  replace hgd := hgd.ext e
  replace E := E.ext e
  have z14 := e.size
  clear e
  have hlthbg := hbg.lt
  repeat' (first | apply Jbq | apply Jbr | apply Jbs | apply Jbt | apply Jbu | apply Jbv | apply Jbw | apply Jbx | apply Jby | apply Jbz | apply Jca | apply Jcb | apply Jcc | (refine Jcd rfl ?_) | (refine Jce rfl ?_) | (refine Jcf rfl ?_) | (apply Jcg; (first | exact Jaa rfl | exact Jab rfl | exact Jad rfl rfl | exact Jae rfl rfl | exact Jah rfl rfl | exact Jai rfl rfl | exact Jaj rfl | exact Jal rfl rfl | exact Jat rfl rfl | exact Jav Us.h rfl rfl); exact rfl) | refine Jch rfl rfl rfl ?_ | refine Jci rfl rfl rfl rfl rfl ?_ | refine Jcj rfl rfl rfl rfl ?_)
  refine TL_storeAgg rfl rfl Sz.h oneg hbg rfl ?_
  clear hbg
  intro w15 c hzz hbg
  replace hbk := hbk.ch c (by simp only [Iv]; omega)
  replace hw := hw.ch c (by intro k _ _; simp only [Iv]; omega)
  replace hbw := hbw.ch c (by simp only [Iv]; omega)
  replace hx := hx.ch c (by intro k _ _; simp only [Iv]; omega)
  replace hbx := hbx.ch c (by simp only [Iv]; omega)
  replace hx2 := hx2.ch c (by intro k _ _; simp only [Iv]; omega)
  replace hgd := hgd.ch c (by intro k _ _; simp only [Iv]; omega)
  replace E : Ext W _ := Ext.then_iv E c (by omega)
  have z15 := c.size
  clear c
  repeat' (first | apply Jbq | apply Jbr | apply Jbs | apply Jbt | apply Jbu | apply Jbv | apply Jbw | apply Jbx | apply Jby | apply Jbz | apply Jca | apply Jcb | apply Jcc | (refine Jcd rfl ?_) | (refine Jce rfl ?_) | (refine Jcf rfl ?_) | (apply Jcg; (first | exact Jbm rfl rfl | exact Jbn Us.h rfl rfl | exact Jbo rfl rfl | exact Jaa rfl | exact Jab rfl | exact Jad rfl rfl | exact Jae rfl rfl | exact Jah rfl rfl | exact Jai rfl rfl | exact Jaj rfl | exact Jal rfl rfl | exact Jat rfl rfl | exact Jav Us.h rfl rfl); exact rfl) | refine Jch rfl rfl rfl ?_ | refine Jci rfl rfl rfl rfl rfl ?_ | refine Jcj rfl rfl rfl rfl ?_ | refine Jcg (Pu_loadAgg (cs := dskC r sng skg stg) Us.h rfl Sz.h rfl (fun _ e j u hu => by rw [e, add0, hbg.cell]; exact hu)) rfl ?_ | refine Jcg (Pu_loadAgg (cs := dskC r snw skw stw) Us.h rfl Sz.h rfl (fun _ e j u hu => by rw [e, add0, hbw.cell]; exact hu)) rfl ?_ | (refine Jcs rfl rfl (fun hb => ?_) (fun hb => ?_) <;> (try (exfalso; omega))) | (refine Jct rfl rfl (fun hb => ?_) (fun hb => ?_) <;> (try (exfalso; omega))) | refine Jcr rfl rfl (fun hb => ?_) (fun hb => ?_) | (refine Jcx rfl (fun hb => ?_) (fun hb => ?_) <;> (try (exfalso; omega))) | (refine Jcy rfl (fun hb => ?_) (fun hb => ?_) <;> (try (exfalso; omega))) | refine Jcz rfl (fun hb => ?_) (fun hb => ?_))
  refine TL_call rfl en16 (eqDisk_c hgd.rd hw.rd hrt) rfl rfl ?_
  rintro _ w16 ⟨rfl, e⟩
  replace hbk := hbk.ext e
  replace hw := hw.ext e
  replace hbw := hbw.ext e
  replace hx := hx.ext e
  replace hbx := hbx.ext e
  replace hx2 := hx2.ext e
  replace hgd := hgd.ext e
  replace hbg := hbg.ext e
  replace E := E.ext e
  have z16 := e.size
  clear e
  repeat' (first | apply Jbq | apply Jbr | apply Jbs | apply Jbt | apply Jbu | apply Jbv | apply Jbw | apply Jbx | apply Jby | apply Jbz | apply Jca | apply Jcb | apply Jcc | (refine Jcd rfl ?_) | (refine Jce rfl ?_) | (refine Jcf rfl ?_) | (apply Jcg; (first | exact Jbm rfl rfl | exact Jbn Us.h rfl rfl | exact Jbo rfl rfl | exact Jaa rfl | exact Jab rfl | exact Jad rfl rfl | exact Jae rfl rfl | exact Jah rfl rfl | exact Jai rfl rfl | exact Jaj rfl | exact Jal rfl rfl | exact Jat rfl rfl | exact Jav Us.h rfl rfl); exact rfl) | refine Jch rfl rfl rfl ?_ | refine Jci rfl rfl rfl rfl rfl ?_ | refine Jcj rfl rfl rfl rfl ?_ | (refine Jcs rfl rfl (fun hb => ?_) (fun hb => ?_) <;> (try (exfalso; omega))) | (refine Jct rfl rfl (fun hb => ?_) (fun hb => ?_) <;> (try (exfalso; omega))) | refine Jcr rfl rfl (fun hb => ?_) (fun hb => ?_) | (refine Jcx rfl (fun hb => ?_) (fun hb => ?_) <;> (try (exfalso; omega))) | (refine Jcy rfl (fun hb => ?_) (fun hb => ?_) <;> (try (exfalso; omega))) | refine Jcz rfl (fun hb => ?_) (fun hb => ?_))
  have hA : ∀ w', Ext w16 w' → ∀ j u, (dskC d sn sk st)[j]? = some u → w'.cell? ((⟨g, 0, none⟩ : Addr).add j) = some u := fun w' e j u hu => by rw [add0]; exact e.cell ((hbk.cell j).trans hu)
  have hB : ∀ w', Ext w16 w' → ∀ j u, (dskC d sn2 sk2 st2)[j]? = some u → w'.cell? ((⟨ghbx, 0, none⟩ : Addr).add j) = some u := fun w' e j u hu => by rw [add0]; exact e.cell ((hbx.cell j).trans hu)
  refine TC_any mixed rfl ?_
  intro w17 hE hzw17
  (refine Jco 0 rfl (by kernel_rfl) (by kernel_rfl) (by kernel_rfl) (fun _ _ _ h => h) hE (by (first | exact Pu_loadAgg (cs := dskC d sn2 sk2 st2) Us.h rfl Sz.h rfl hB | exact Pu_loadAgg (cs := dskC d sn sk st) Us.h rfl Sz.h rfl hA | exact Jaa rfl | exact Jab rfl | exact Jad rfl rfl | exact Jae rfl rfl | exact Jah rfl rfl | exact Jai rfl rfl | exact Jaj rfl | exact Jal rfl rfl | exact Jat rfl rfl | exact Jav Us.h rfl rfl)) rfl ?_; refine Jco 1 rfl (by kernel_rfl) (by kernel_rfl) (by kernel_rfl) (fun _ _ _ h => h) hE (by (first | exact Pu_loadAgg (cs := dskC d sn2 sk2 st2) Us.h rfl Sz.h rfl hB | exact Pu_loadAgg (cs := dskC d sn sk st) Us.h rfl Sz.h rfl hA | exact Jaa rfl | exact Jab rfl | exact Jad rfl rfl | exact Jae rfl rfl | exact Jah rfl rfl | exact Jai rfl rfl | exact Jaj rfl | exact Jal rfl rfl | exact Jat rfl rfl | exact Jav Us.h rfl rfl)) rfl ?_)
  refine TA_one 2 (by kernel_rfl) rfl ?_
  refine TL_call rfl en13 (toDisk_c (hp.ext (E.ext hE)) hd) rfl rfl ?_
  rintro _ w18 ⟨sn3, sk3, st3, rfl, e3, ho3⟩
  replace hE := hE.ext e3
  refine Jbq (TN_any hE ?_)
  refine TA_one 3 (by kernel_rfl) rfl ?_
  refine TL_call rfl en16 (eqDisk_c (hx.rd.ext hE) ho3 hd) rfl rfl ?_
  rintro _ w19 ⟨rfl, e4⟩
  replace hE := hE.ext e4
  refine Jbq (TN_any hE ?_)
  (refine Jco 4 rfl (by kernel_rfl) (by kernel_rfl) (by kernel_rfl) (fun _ _ _ h => h) hE (by (first | exact Jaa rfl | exact Jab rfl | exact Jad rfl rfl | exact Jae rfl rfl | exact Jah rfl rfl | exact Jai rfl rfl | exact Jaj rfl | exact Jal rfl rfl | exact Jat rfl rfl | exact Jav Us.h rfl rfl)) rfl ?_)
  refine TA_done (by kernel_rfl) ?_
  clear hA hB ho3 e3 e4
  replace hbk := hbk.ext hE
  replace hw := hw.ext hE
  replace hbw := hbw.ext hE
  replace hx := hx.ext hE
  replace hbx := hbx.ext hE
  replace hx2 := hx2.ext hE
  replace hgd := hgd.ext hE
  replace hbg := hbg.ext hE
  replace E := E.ext hE
  have z19 := hE.size
  clear hE
  repeat' (first | apply Jbq | apply Jbr | apply Jbs | apply Jbt | apply Jbu | apply Jbv | apply Jbw | apply Jbx | apply Jby | apply Jbz | apply Jca | apply Jcb | apply Jcc | (refine Jcd rfl ?_) | (refine Jce rfl ?_) | (refine Jcf rfl ?_) | (apply Jcg; (first | exact Jbm rfl rfl | exact Jbn Us.h rfl rfl | exact Jbo rfl rfl | exact Jaa rfl | exact Jab rfl | exact Jad rfl rfl | exact Jae rfl rfl | exact Jah rfl rfl | exact Jai rfl rfl | exact Jaj rfl | exact Jal rfl rfl | exact Jat rfl rfl | exact Jav Us.h rfl rfl); exact rfl) | refine Jch rfl rfl rfl ?_ | refine Jci rfl rfl rfl rfl rfl ?_ | refine Jcj rfl rfl rfl rfl ?_ | (refine Jcs rfl rfl (fun hb => ?_) (fun hb => ?_) <;> (try (exfalso; omega))) | (refine Jct rfl rfl (fun hb => ?_) (fun hb => ?_) <;> (try (exfalso; omega))) | refine Jcr rfl rfl (fun hb => ?_) (fun hb => ?_) | (refine Jcx rfl (fun hb => ?_) (fun hb => ?_) <;> (try (exfalso; omega))) | (refine Jcy rfl (fun hb => ?_) (fun hb => ?_) <;> (try (exfalso; omega))) | refine Jcz rfl (fun hb => ?_) (fun hb => ?_))
  refine TL_call rfl en29 (toOpS_k (ho.ext E) hol) rfl rfl ?_
  rintro vi3 w20 ⟨e, hx3⟩
  replace hbk := hbk.ext e
  replace hw := hw.ext e
  replace hbw := hbw.ext e
  replace hx := hx.ext e
  replace hbx := hbx.ext e
  replace hx2 := hx2.ext e
  replace hgd := hgd.ext e
  replace hbg := hbg.ext e
  replace E := E.ext e
  have z20 := e.size
  clear e
  repeat' (first | apply Jbq | apply Jbr | apply Jbs | apply Jbt | apply Jbu | apply Jbv | apply Jbw | apply Jbx | apply Jby | apply Jbz | apply Jca | apply Jcb | apply Jcc | (refine Jcd rfl ?_) | (refine Jce rfl ?_) | (refine Jcf rfl ?_) | (apply Jcg; (first | exact Jaa rfl | exact Jab rfl | exact Jad rfl rfl | exact Jae rfl rfl | exact Jah rfl rfl | exact Jai rfl rfl | exact Jaj rfl | exact Jal rfl rfl | exact Jat rfl rfl | exact Jav Us.h rfl rfl); exact rfl) | refine Jch rfl rfl rfl ?_ | refine Jci rfl rfl rfl rfl rfl ?_ | refine Jcj rfl rfl rfl rfl ?_)
  refine TL_call rfl en31 (eqOpS_k hx2.rd hx3.rd hol) rfl rfl ?_
  rintro _ w21 ⟨rfl, e⟩
  clear hx3
  replace hbk := hbk.ext e
  replace hw := hw.ext e
  replace hbw := hbw.ext e
  replace hx := hx.ext e
  replace hbx := hbx.ext e
  replace hx2 := hx2.ext e
  replace hgd := hgd.ext e
  replace hbg := hbg.ext e
  replace E := E.ext e
  have z21 := e.size
  clear e
  repeat' (first | apply Jbq | apply Jbr | apply Jbs | apply Jbt | apply Jbu | apply Jbv | apply Jbw | apply Jbx | apply Jby | apply Jbz | apply Jca | apply Jcb | apply Jcc | (refine Jcd rfl ?_) | (refine Jce rfl ?_) | (refine Jcf rfl ?_) | (apply Jcg; (first | exact Jbm rfl rfl | exact Jbn Us.h rfl rfl | exact Jbo rfl rfl | exact Jaa rfl | exact Jab rfl | exact Jad rfl rfl | exact Jae rfl rfl | exact Jah rfl rfl | exact Jai rfl rfl | exact Jaj rfl | exact Jal rfl rfl | exact Jat rfl rfl | exact Jav Us.h rfl rfl); exact rfl) | refine Jch rfl rfl rfl ?_ | refine Jci rfl rfl rfl rfl rfl ?_ | refine Jcj rfl rfl rfl rfl ?_ | refine Jcg (Pu_loadAgg (cs := dskC d sn2 sk2 st2) Us.h rfl Sz.h rfl (fun _ e j u hu => by rw [e, add0, hbx.cell]; exact hu)) rfl ?_ | (refine Jcs rfl rfl (fun hb => ?_) (fun hb => ?_) <;> (try (exfalso; omega))) | (refine Jct rfl rfl (fun hb => ?_) (fun hb => ?_) <;> (try (exfalso; omega))) | refine Jcr rfl rfl (fun hb => ?_) (fun hb => ?_) | (refine Jcx rfl (fun hb => ?_) (fun hb => ?_) <;> (try (exfalso; omega))) | (refine Jcy rfl (fun hb => ?_) (fun hb => ?_) <;> (try (exfalso; omega))) | refine Jcz rfl (fun hb => ?_) (fun hb => ?_))
  refine TL_call rfl en18 (markDisk_k hx hd (by omega) (by omega)) rfl rfl ?_
  rintro _ w22 ⟨rfl, c, _⟩
  obtain ⟨_, _, _, _, _, hc0, hc1⟩ := cntD_le hd
  obtain ⟨_, _, _, _, _, hq0, hq1⟩ := cntD_le hrt
  clear hx hbx
  replace hbk := hbk.ch c (by simp only [Iv]; omega)
  replace hw := hw.ch c (by intro k _ _; simp only [Iv]; omega)
  replace hbw := hbw.ch c (by simp only [Iv]; omega)
  replace hx2 := hx2.ch c (by intro k _ _; simp only [Iv]; omega)
  replace hgd := hgd.ch c (by intro k _ _; simp only [Iv]; omega)
  replace hbg := hbg.ch c (by simp only [Iv]; omega)
  replace E : Ext W _ := Ext.then_iv E c (by omega)
  have z22 := c.size
  clear c
  repeat' (first | apply Jbq | apply Jbr | apply Jbs | apply Jbt | apply Jbu | apply Jbv | apply Jbw | apply Jbx | apply Jby | apply Jbz | apply Jca | apply Jcb | apply Jcc | (refine Jcd rfl ?_) | (refine Jce rfl ?_) | (refine Jcf rfl ?_) | (apply Jcg; (first | exact Jbm rfl rfl | exact Jbn Us.h rfl rfl | exact Jbo rfl rfl | exact Jaa rfl | exact Jab rfl | exact Jad rfl rfl | exact Jae rfl rfl | exact Jah rfl rfl | exact Jai rfl rfl | exact Jaj rfl | exact Jal rfl rfl | exact Jat rfl rfl | exact Jav Us.h rfl rfl); exact rfl) | refine Jch rfl rfl rfl ?_ | refine Jci rfl rfl rfl rfl rfl ?_ | refine Jcj rfl rfl rfl rfl ?_ | (refine Jcs rfl rfl (fun hb => ?_) (fun hb => ?_) <;> (try (exfalso; omega))) | (refine Jct rfl rfl (fun hb => ?_) (fun hb => ?_) <;> (try (exfalso; omega))) | refine Jcr rfl rfl (fun hb => ?_) (fun hb => ?_) | (refine Jcx rfl (fun hb => ?_) (fun hb => ?_) <;> (try (exfalso; omega))) | (refine Jcy rfl (fun hb => ?_) (fun hb => ?_) <;> (try (exfalso; omega))) | refine Jcz rfl (fun hb => ?_) (fun hb => ?_))
  refine TL_call rfl en32 (markOpS_k hx2 hol (by omega) (by omega)) rfl rfl ?_
  rintro _ w23 ⟨mk, rfl, hmk0, hmk1, c⟩
  clear hx2
  replace hbk := hbk.ch c (by simp only [Iv]; omega)
  replace hw := hw.ch c (by intro k _ _; simp only [Iv]; omega)
  replace hbw := hbw.ch c (by simp only [Iv]; omega)
  replace hgd := hgd.ch c (by intro k _ _; simp only [Iv]; omega)
  replace hbg := hbg.ch c (by simp only [Iv]; omega)
  replace E : Ext W _ := Ext.then_iv E c (by omega)
  have z23 := c.size
  clear c
  repeat' (first | apply Jbq | apply Jbr | apply Jbs | apply Jbt | apply Jbu | apply Jbv | apply Jbw | apply Jbx | apply Jby | apply Jbz | apply Jca | apply Jcb | apply Jcc | (refine Jcd rfl ?_) | (refine Jce rfl ?_) | (refine Jcf rfl ?_) | (apply Jcg; (first | exact Jbm rfl rfl | exact Jbn Us.h rfl rfl | exact Jbo rfl rfl | exact Jaa rfl | exact Jab rfl | exact Jad rfl rfl | exact Jae rfl rfl | exact Jah rfl rfl | exact Jai rfl rfl | exact Jaj rfl | exact Jal rfl rfl | exact Jat rfl rfl | exact Jav Us.h rfl rfl); exact rfl) | refine Jch rfl rfl rfl ?_ | refine Jci rfl rfl rfl rfl rfl ?_ | refine Jcj rfl rfl rfl rfl ?_ | refine Jcg (Pu_loadAgg (cs := dskC r sng skg stg) Us.h rfl Sz.h rfl (fun _ e j u hu => by rw [e, add0, hbg.cell]; exact hu)) rfl ?_ | refine Jcg (Pu_loadAgg (cs := dskC r snw skw stw) Us.h rfl Sz.h rfl (fun _ e j u hu => by rw [e, add0, hbw.cell]; exact hu)) rfl ?_ | (refine Jcs rfl rfl (fun hb => ?_) (fun hb => ?_) <;> (try (exfalso; omega))) | (refine Jct rfl rfl (fun hb => ?_) (fun hb => ?_) <;> (try (exfalso; omega))) | refine Jcr rfl rfl (fun hb => ?_) (fun hb => ?_) | (refine Jcx rfl (fun hb => ?_) (fun hb => ?_) <;> (try (exfalso; omega))) | (refine Jcy rfl (fun hb => ?_) (fun hb => ?_) <;> (try (exfalso; omega))) | refine Jcz rfl (fun hb => ?_) (fun hb => ?_))
  refine TL_call rfl en16 (eqDisk_c hgd.rd hw.rd hrt) rfl rfl ?_
  rintro _ w24 ⟨rfl, e⟩
  replace hbk := hbk.ext e
  replace hw := hw.ext e
  replace hbw := hbw.ext e
  replace hgd := hgd.ext e
  replace hbg := hbg.ext e
  replace E := E.ext e
  have z24 := e.size
  clear e
  repeat' (first | apply Jbq | apply Jbr | apply Jbs | apply Jbt | apply Jbu | apply Jbv | apply Jbw | apply Jbx | apply Jby | apply Jbz | apply Jca | apply Jcb | apply Jcc | (refine Jcd rfl ?_) | (refine Jce rfl ?_) | (refine Jcf rfl ?_) | (apply Jcg; (first | exact Jbm rfl rfl | exact Jbn Us.h rfl rfl | exact Jbo rfl rfl | exact Jaa rfl | exact Jab rfl | exact Jad rfl rfl | exact Jae rfl rfl | exact Jah rfl rfl | exact Jai rfl rfl | exact Jaj rfl | exact Jal rfl rfl | exact Jat rfl rfl | exact Jav Us.h rfl rfl); exact rfl) | refine Jch rfl rfl rfl ?_ | refine Jci rfl rfl rfl rfl rfl ?_ | refine Jcj rfl rfl rfl rfl ?_ | refine Jcg (Pu_loadAgg (cs := dskC r sng skg stg) Us.h rfl Sz.h rfl (fun _ e j u hu => by rw [e, add0, hbg.cell]; exact hu)) rfl ?_ | (refine Jcs rfl rfl (fun hb => ?_) (fun hb => ?_) <;> (try (exfalso; omega))) | (refine Jct rfl rfl (fun hb => ?_) (fun hb => ?_) <;> (try (exfalso; omega))) | refine Jcr rfl rfl (fun hb => ?_) (fun hb => ?_) | (refine Jcx rfl (fun hb => ?_) (fun hb => ?_) <;> (try (exfalso; omega))) | (refine Jcy rfl (fun hb => ?_) (fun hb => ?_) <;> (try (exfalso; omega))) | refine Jcz rfl (fun hb => ?_) (fun hb => ?_))
  refine TL_call rfl en18 (markDisk_k hgd hrt (by omega) (by omega)) rfl rfl ?_
  rintro _ w25 ⟨rfl, c, hgm⟩
  clear hgd
  replace hbk := hbk.ch c (by simp only [Iv]; omega)
  replace hw := hw.ch c (by intro k _ _; simp only [Iv]; omega)
  replace hbw := hbw.ch c (by simp only [Iv]; omega)
  replace hbg := hbg.ch c (by simp only [Iv]; omega)
  replace E : Ext W _ := Ext.then_iv E c (by omega)
  have z25 := c.size
  clear c
  repeat' (first | apply Jbq | apply Jbr | apply Jbs | apply Jbt | apply Jbu | apply Jbv | apply Jbw | apply Jbx | apply Jby | apply Jbz | apply Jca | apply Jcb | apply Jcc | (refine Jcd rfl ?_) | (refine Jce rfl ?_) | (refine Jcf rfl ?_) | (apply Jcg; (first | exact Jbm rfl rfl | exact Jbn Us.h rfl rfl | exact Jbo rfl rfl | exact Jaa rfl | exact Jab rfl | exact Jad rfl rfl | exact Jae rfl rfl | exact Jah rfl rfl | exact Jai rfl rfl | exact Jaj rfl | exact Jal rfl rfl | exact Jat rfl rfl | exact Jav Us.h rfl rfl); exact rfl) | refine Jch rfl rfl rfl ?_ | refine Jci rfl rfl rfl rfl rfl ?_ | refine Jcj rfl rfl rfl rfl ?_ | refine Jcg (Pu_loadAgg (cs := dskC r sng skg stg) Us.h rfl Sz.h rfl (fun _ e j u hu => by rw [e, add0, hbg.cell]; exact hu)) rfl ?_ | (refine Jcs rfl rfl (fun hb => ?_) (fun hb => ?_) <;> (try (exfalso; omega))) | (refine Jct rfl rfl (fun hb => ?_) (fun hb => ?_) <;> (try (exfalso; omega))) | refine Jcr rfl rfl (fun hb => ?_) (fun hb => ?_) | (refine Jcx rfl (fun hb => ?_) (fun hb => ?_) <;> (try (exfalso; omega))) | (refine Jcy rfl (fun hb => ?_) (fun hb => ?_) <;> (try (exfalso; omega))) | refine Jcz rfl (fun hb => ?_) (fun hb => ?_))
  refine TL_call rfl en20 (heldDisk_k hgm hrt (by omega) (by omega)) rfl rfl ?_
  rintro _ w26 ⟨rfl, e⟩
  replace hbk := hbk.ext e
  replace hw := hw.ext e
  replace hbw := hbw.ext e
  replace hbg := hbg.ext e
  replace hgm := hgm.ext e
  replace E := E.ext e
  have z26 := e.size
  clear e
  repeat' (first | apply Jbq | apply Jbr | apply Jbs | apply Jbt | apply Jbu | apply Jbv | apply Jbw | apply Jbx | apply Jby | apply Jbz | apply Jca | apply Jcb | apply Jcc | (refine Jcd rfl ?_) | (refine Jce rfl ?_) | (refine Jcf rfl ?_) | (apply Jcg; (first | exact Jbm rfl rfl | exact Jbn Us.h rfl rfl | exact Jbo rfl rfl | exact Jaa rfl | exact Jab rfl | exact Jad rfl rfl | exact Jae rfl rfl | exact Jah rfl rfl | exact Jai rfl rfl | exact Jaj rfl | exact Jal rfl rfl | exact Jat rfl rfl | exact Jav Us.h rfl rfl); exact rfl) | refine Jch rfl rfl rfl ?_ | refine Jci rfl rfl rfl rfl rfl ?_ | refine Jcj rfl rfl rfl rfl ?_ | refine Jcg (Pu_loadAgg (cs := dskC d sn sk st) Us.h rfl Sz.h rfl (fun _ e j u hu => by rw [e, add0, hbk.cell]; exact hu)) rfl ?_ | (refine Jcs rfl rfl (fun hb => ?_) (fun hb => ?_) <;> (try (exfalso; omega))) | (refine Jct rfl rfl (fun hb => ?_) (fun hb => ?_) <;> (try (exfalso; omega))) | refine Jcr rfl rfl (fun hb => ?_) (fun hb => ?_) | (refine Jcx rfl (fun hb => ?_) (fun hb => ?_) <;> (try (exfalso; omega))) | (refine Jcy rfl (fun hb => ?_) (fun hb => ?_) <;> (try (exfalso; omega))) | refine Jcz rfl (fun hb => ?_) (fun hb => ?_))
  refine TL_call rfl en13 (toDisk_c (hp.ext E) hd) rfl rfl ?_
  rintro _ w27 ⟨sn4, sk4, st4, rfl, e, ho4⟩
  replace hbk := hbk.ext e
  replace hw := hw.ext e
  replace hbw := hbw.ext e
  replace hbg := hbg.ext e
  replace hgm := hgm.ext e
  replace E := E.ext e
  have z27 := e.size
  clear e
  repeat' (first | apply Jbq | apply Jbr | apply Jbs | apply Jbt | apply Jbu | apply Jbv | apply Jbw | apply Jbx | apply Jby | apply Jbz | apply Jca | apply Jcb | apply Jcc | (refine Jcd rfl ?_) | (refine Jce rfl ?_) | (refine Jcf rfl ?_) | (apply Jcg; (first | exact Jaa rfl | exact Jab rfl | exact Jad rfl rfl | exact Jae rfl rfl | exact Jah rfl rfl | exact Jai rfl rfl | exact Jaj rfl | exact Jal rfl rfl | exact Jat rfl rfl | exact Jav Us.h rfl rfl); exact rfl) | refine Jch rfl rfl rfl ?_ | refine Jci rfl rfl rfl rfl rfl ?_ | refine Jcj rfl rfl rfl rfl ?_)
  refine TL_call rfl en29 (toOpS_k (ho.ext E) hol) rfl rfl ?_
  rintro vi4 w28 ⟨e, hx4⟩
  replace hbk := hbk.ext e
  replace hw := hw.ext e
  replace hbw := hbw.ext e
  replace hbg := hbg.ext e
  replace hgm := hgm.ext e
  replace ho4 := ho4.ext e
  replace E := E.ext e
  have z28 := e.size
  clear e
  repeat' (first | apply Jbq | apply Jbr | apply Jbs | apply Jbt | apply Jbu | apply Jbv | apply Jbw | apply Jbx | apply Jby | apply Jbz | apply Jca | apply Jcb | apply Jcc | (refine Jcd rfl ?_) | (refine Jce rfl ?_) | (refine Jcf rfl ?_) | (apply Jcg; (first | exact Jaa rfl | exact Jab rfl | exact Jad rfl rfl | exact Jae rfl rfl | exact Jah rfl rfl | exact Jai rfl rfl | exact Jaj rfl | exact Jal rfl rfl | exact Jat rfl rfl | exact Jav Us.h rfl rfl); exact rfl) | refine Jch rfl rfl rfl ?_ | refine Jci rfl rfl rfl rfl rfl ?_ | refine Jcj rfl rfl rfl rfl ?_)
  refine TL_call rfl en30 (implDiskRun_c ho4 hf hd hx4.rd.op (fun o h => (hof o h).1) (by omega)) rfl rfl ?_
  rintro _ w29 ⟨snh, skh, sth, rfl, e, hh⟩
  rw [← hr] at hh ⊢
  clear ho4 hx4
  replace hbk := hbk.ext e
  replace hw := hw.ext e
  replace hbw := hbw.ext e
  replace hbg := hbg.ext e
  replace hgm := hgm.ext e
  replace E := E.ext e
  have z29 := e.size
  clear e
  have oneh := hh.one
  repeat' (first | apply Jbq | apply Jbr | apply Jbs | apply Jbt | apply Jbu | apply Jbv | apply Jbw | apply Jbx | apply Jby | apply Jbz | apply Jca | apply Jcb | apply Jcc | (refine Jcd rfl ?_) | (refine Jce rfl ?_) | (refine Jcf rfl ?_) | (apply Jcg; (first | exact Jaa rfl | exact Jab rfl | exact Jad rfl rfl | exact Jae rfl rfl | exact Jah rfl rfl | exact Jai rfl rfl | exact Jaj rfl | exact Jal rfl rfl | exact Jat rfl rfl | exact Jav Us.h rfl rfl); exact rfl) | refine Jch rfl rfl rfl ?_ | refine Jci rfl rfl rfl rfl rfl ?_ | refine Jcj rfl rfl rfl rfl ?_)
  refine TL_alloc Zs.h rfl rfl ?_
  intro w30 ghbh e hghbh hzghbh hbh
  replace hbk := hbk.ext e
  replace hw := hw.ext e
  replace hbw := hbw.ext e
  replace hbg := hbg.ext e
  replace hgm := hgm.ext e
  replace hh := hh.ext e
  replace E := E.ext e
  have z30 := e.size
  clear e
  have hlthbh := hbh.lt
  repeat' (first | apply Jbq | apply Jbr | apply Jbs | apply Jbt | apply Jbu | apply Jbv | apply Jbw | apply Jbx | apply Jby | apply Jbz | apply Jca | apply Jcb | apply Jcc | (refine Jcd rfl ?_) | (refine Jce rfl ?_) | (refine Jcf rfl ?_) | (apply Jcg; (first | exact Jaa rfl | exact Jab rfl | exact Jad rfl rfl | exact Jae rfl rfl | exact Jah rfl rfl | exact Jai rfl rfl | exact Jaj rfl | exact Jal rfl rfl | exact Jat rfl rfl | exact Jav Us.h rfl rfl); exact rfl) | refine Jch rfl rfl rfl ?_ | refine Jci rfl rfl rfl rfl rfl ?_ | refine Jcj rfl rfl rfl rfl ?_)
  refine TL_storeAgg rfl rfl Sz.h oneh hbh rfl ?_
  clear hbh
  intro w31 c hzz hbh
  replace hbk := hbk.ch c (by simp only [Iv]; omega)
  replace hw := hw.ch c (by intro k _ _; simp only [Iv]; omega)
  replace hbw := hbw.ch c (by simp only [Iv]; omega)
  replace hbg := hbg.ch c (by simp only [Iv]; omega)
  replace hgm := hgm.ch c (by intro k _ _; simp only [Iv]; omega)
  replace hh := hh.ch c (by intro k _ _; simp only [Iv]; omega)
  replace E : Ext W _ := Ext.then_iv E c (by omega)
  have z31 := c.size
  clear c
  repeat' (first | apply Jbq | apply Jbr | apply Jbs | apply Jbt | apply Jbu | apply Jbv | apply Jbw | apply Jbx | apply Jby | apply Jbz | apply Jca | apply Jcb | apply Jcc | (refine Jcd rfl ?_) | (refine Jce rfl ?_) | (refine Jcf rfl ?_) | (apply Jcg; (first | exact Jbm rfl rfl | exact Jbn Us.h rfl rfl | exact Jbo rfl rfl | exact Jaa rfl | exact Jab rfl | exact Jad rfl rfl | exact Jae rfl rfl | exact Jah rfl rfl | exact Jai rfl rfl | exact Jaj rfl | exact Jal rfl rfl | exact Jat rfl rfl | exact Jav Us.h rfl rfl); exact rfl) | refine Jch rfl rfl rfl ?_ | refine Jci rfl rfl rfl rfl rfl ?_ | refine Jcj rfl rfl rfl rfl ?_ | refine Jcg (Pu_loadAgg (cs := dskC r snh skh sth) Us.h rfl Sz.h rfl (fun _ e j u hu => by rw [e, add0, hbh.cell]; exact hu)) rfl ?_ | refine Jcg (Pu_loadAgg (cs := dskC r snw skw stw) Us.h rfl Sz.h rfl (fun _ e j u hu => by rw [e, add0, hbw.cell]; exact hu)) rfl ?_ | (refine Jcs rfl rfl (fun hb => ?_) (fun hb => ?_) <;> (try (exfalso; omega))) | (refine Jct rfl rfl (fun hb => ?_) (fun hb => ?_) <;> (try (exfalso; omega))) | refine Jcr rfl rfl (fun hb => ?_) (fun hb => ?_) | (refine Jcx rfl (fun hb => ?_) (fun hb => ?_) <;> (try (exfalso; omega))) | (refine Jcy rfl (fun hb => ?_) (fun hb => ?_) <;> (try (exfalso; omega))) | refine Jcz rfl (fun hb => ?_) (fun hb => ?_))
  refine TL_call rfl en16 (eqDisk_c hh.rd hw.rd hrt) rfl rfl ?_
  rintro _ w32 ⟨rfl, e⟩
  replace hbk := hbk.ext e
  replace hw := hw.ext e
  replace hbw := hbw.ext e
  replace hbg := hbg.ext e
  replace hgm := hgm.ext e
  replace hh := hh.ext e
  replace hbh := hbh.ext e
  replace E := E.ext e
  have z32 := e.size
  clear e
  repeat' (first | apply Jbq | apply Jbr | apply Jbs | apply Jbt | apply Jbu | apply Jbv | apply Jbw | apply Jbx | apply Jby | apply Jbz | apply Jca | apply Jcb | apply Jcc | (refine Jcd rfl ?_) | (refine Jce rfl ?_) | (refine Jcf rfl ?_) | (apply Jcg; (first | exact Jbm rfl rfl | exact Jbn Us.h rfl rfl | exact Jbo rfl rfl | exact Jaa rfl | exact Jab rfl | exact Jad rfl rfl | exact Jae rfl rfl | exact Jah rfl rfl | exact Jai rfl rfl | exact Jaj rfl | exact Jal rfl rfl | exact Jat rfl rfl | exact Jav Us.h rfl rfl); exact rfl) | refine Jch rfl rfl rfl ?_ | refine Jci rfl rfl rfl rfl rfl ?_ | refine Jcj rfl rfl rfl rfl ?_ | refine Jcg (Pu_loadAgg (cs := dskC r sng skg stg) Us.h rfl Sz.h rfl (fun _ e j u hu => by rw [e, add0, hbg.cell]; exact hu)) rfl ?_ | (refine Jcs rfl rfl (fun hb => ?_) (fun hb => ?_) <;> (try (exfalso; omega))) | (refine Jct rfl rfl (fun hb => ?_) (fun hb => ?_) <;> (try (exfalso; omega))) | refine Jcr rfl rfl (fun hb => ?_) (fun hb => ?_) | (refine Jcx rfl (fun hb => ?_) (fun hb => ?_) <;> (try (exfalso; omega))) | (refine Jcy rfl (fun hb => ?_) (fun hb => ?_) <;> (try (exfalso; omega))) | refine Jcz rfl (fun hb => ?_) (fun hb => ?_))
  refine TL_call rfl en20 (heldDisk_k hgm hrt (by omega) (by omega)) rfl rfl ?_
  rintro _ w33 ⟨rfl, e⟩
  replace hbk := hbk.ext e
  replace hw := hw.ext e
  replace hbw := hbw.ext e
  replace hbg := hbg.ext e
  replace hgm := hgm.ext e
  replace hh := hh.ext e
  replace hbh := hbh.ext e
  replace E := E.ext e
  have z33 := e.size
  clear e
  repeat' (first | apply Jbq | apply Jbr | apply Jbs | apply Jbt | apply Jbu | apply Jbv | apply Jbw | apply Jbx | apply Jby | apply Jbz | apply Jca | apply Jcb | apply Jcc | (refine Jcd rfl ?_) | (refine Jce rfl ?_) | (refine Jcf rfl ?_) | (apply Jcg; (first | exact Jbm rfl rfl | exact Jbn Us.h rfl rfl | exact Jbo rfl rfl | exact Jaa rfl | exact Jab rfl | exact Jad rfl rfl | exact Jae rfl rfl | exact Jah rfl rfl | exact Jai rfl rfl | exact Jaj rfl | exact Jal rfl rfl | exact Jat rfl rfl | exact Jav Us.h rfl rfl); exact rfl) | refine Jch rfl rfl rfl ?_ | refine Jci rfl rfl rfl rfl rfl ?_ | refine Jcj rfl rfl rfl rfl ?_ | (refine Jcs rfl rfl (fun hb => ?_) (fun hb => ?_) <;> (try (exfalso; omega))) | (refine Jct rfl rfl (fun hb => ?_) (fun hb => ?_) <;> (try (exfalso; omega))) | refine Jcr rfl rfl (fun hb => ?_) (fun hb => ?_) | (refine Jcx rfl (fun hb => ?_) (fun hb => ?_) <;> (try (exfalso; omega))) | (refine Jcy rfl (fun hb => ?_) (fun hb => ?_) <;> (try (exfalso; omega))) | refine Jcz rfl (fun hb => ?_) (fun hb => ?_))
  exact TR_of (res1 rfl rfl) ⟨rfl, E⟩
end
theorem own : ownKnob Tryz.prog.godebug = none := by kernel_rfl
theorem laidOut : laidOutB Tryz.prog = true := by kernel_rfl
set_option maxRecDepth 100000 in
theorem lifted (os : Os) (started : os.Started) (H : Type) (enc : TypeId × Value → H) :
    ReturnsInHanded {} Tryz.checked os 5 .any (Rows.fnExactDiskRunSpec.pre6 enc Tryz.prog Tryz.f5 Rows.fnExactDiskRunRow.domain false) (Rows.fnExactDiskRunSpec.post enc Tryz.prog Tryz.f5 false true false false) := by
  refine returnsInHanded_of_change (C := Tryz.checked) own started (by kernel_rfl) Tryz.func5
    (ChangeSpec.witness6 (enc := enc) (C := Tryz.checked) false ⟨#[], #[.agg #[.int .i64 0, .int .i64 0, .int .i64 0, .slice none 0 0, .slice none 0 0, .slice none 0 0], .slice none 0 0], []⟩ 8 (by kernel_rfl) (by kernel_rfl) (by kernel_rfl) (by kernel_rfl)) ?_
  intro W base args ds gs before hval0 hW hcnd _
  have hval : ∀ (j : Nat) t v, Tryz.f5.params[j]? = some t → args[j]? = some v → Value.okWide Tryz.prog W .any base t v := hval0
  have hW' := hW
  obtain ⟨p, q, hA0, hV, rfl, hfz, hnd⟩ := hW
  have hA : DataW.TrodAll enc Tryz.prog W 0 (fun _ => true) true Tryz.f5.params.toList args.toList ds p := hA0
  rw [Tryz.params5] at hA hval
  obtain ⟨v0, vs0, d0, ds0, p0, q0, hargs, rfl, rfl, h0, r0⟩ := trodAll_cons hA
  obtain ⟨v1, vs1, d1, ds1, p1, q1, rfl, rfl, rfl, h1, r1⟩ := trodAll_cons r0
  obtain ⟨rfl, rfl, rfl⟩ := trodAll_nil r1
  obtain rfl : args = #[v0, v1] := by cases args; simp_all
  obtain ⟨rfl, rfl⟩ := trodVars_none hV
  have k0 := h0
  have lt0 : ∀ x ∈ p0, x.block < W.heap.size := by obtain ⟨m, hm⟩ := k0; exact DataW.trod_lt m _ _ _ hm
  obtain ⟨cs0, rfl, hz0⟩ := okWide_struct Tryz.underlying26 (hval 0 26 v0 rfl rfl)
  obtain ⟨fuel0, hf0⟩ := h0
  obtain ⟨d, sn0, sk0, st0, e0, f0, R0⟩ := cell_disk Tryz.underlying26 (by kernel_rfl) rfl rfl rfl rfl rfl rfl Tryz.underlying3 Tryz.underlying3 Tryz.underlying3 Tryz.underlying22 Tryz.underlying23 Tryz.underlying24 (by kernel_rfl) (by kernel_rfl) (by kernel_rfl) (by kernel_rfl) (by kernel_rfl) (by kernel_rfl) (by kernel_rfl) (by kernel_rfl) (by kernel_rfl) (fun n cs x h => cell_node Tryz.underlying156 (by kernel_rfl) rfl rfl rfl Tryz.underlying3 Tryz.underlying43 Tryz.underlying43 Tryz.underlying5 (by kernel_rfl) (by kernel_rfl) (by kernel_rfl) (by kernel_rfl) h) (fun n cs x h => cell_link Tryz.underlying159 (by kernel_rfl) rfl rfl Tryz.underlying9 Tryz.underlying3 (by kernel_rfl) (by kernel_rfl) h) (fun n cs x h => cell_turn Tryz.underlying161 (by kernel_rfl) rfl rfl rfl rfl Tryz.underlying3 Tryz.underlying9 Tryz.underlying9 Tryz.underlying3 (by kernel_rfl) (by kernel_rfl) (by kernel_rfl) (by kernel_rfl) h) hf0
  have e0 : Value.agg cs0 = Value.agg (dskC d sn0 sk0 st0).toArray := by rw [← e0]; simp [Value.cells]
  have k1 := h1
  have lt1 : ∀ x ∈ p1, x.block < W.heap.size := by obtain ⟨m, hm⟩ := k1; exact DataW.trod_lt m _ _ _ hm
  obtain ⟨a1, len1, cap1, rfl⟩ := okWide_slice Tryz.underlying54 (hval 1 54 v1 rfl rfl)
  obtain ⟨fuel1, hf1⟩ := h1
  obtain ⟨A1, c1, l, e1, b1, m1, R1, z1⟩ := arg_rows (f := OdC) (s := 5) OdC_len (by omega) Tryz.underlying54 (by kernel_rfl) (fun n cs x h => cell_od Tryz.underlying45 (by kernel_rfl) rfl rfl rfl rfl rfl Tryz.underlying3 Tryz.underlying9 Tryz.underlying9 Tryz.underlying3 Tryz.underlying43 Tryz.underlying5 (by kernel_rfl) (by kernel_rfl) (by kernel_rfl) (by kernel_rfl) (by kernel_rfl) (by kernel_rfl) h) hf1
  clear hA0 hval0
  have hc := law_c d (l.map OdP) W R0 f0 ⟨l, _, _, rfl, rfl, b1, R1, fun x hx => (z1 x hx).1⟩ (by rw [List.length_map]; omega) (fun p hp => by obtain ⟨x, hx, rfl⟩ := List.mem_map.1 hp; exact (z1 x hx).2)
  have hc : Calls Tryz.prog 5 _ W _ := hc
  rw [← e0] at hc
  rw [← e1] at hc
  refine hc.mono fun e W' ⟨v, he, hv, hx⟩ => ?_
  subst hv
  subst he
  have bel := Ch.below hx
  exact ⟨_, rfl, _, _, _, [], _, [], hW', trodAll_mk1 (shut_bool Tryz.underlying4 _), (trodAll_cons_mk (Below.trod laidOut (by kernel_rfl) (of_decide_eq_true (by kernel_rfl)) k0 bel lt0) (trodAll_cons_mk (Below.trod laidOut (by kernel_rfl) (of_decide_eq_true (by kernel_rfl)) k1 bel lt1) trodAll_mk0)), rfl, bel.frame _, fun h => by cases h⟩
theorem over : Rows.fnExactDiskRunRow.holds Tryz.pinned (OpenSpec.ofChange Rows.fnExactDiskRunSpec) :=
  OpenClaim.holds_of_wide 5 Tryz.f5 rfl rfl rfl rfl rfl rfl rfl ⟨rfl, rfl, rfl, rfl, rfl⟩ rfl rfl rfl rfl rfl (by kernel_rfl) Tryz.func5 (by kernel_rfl)
    (of_decide_eq_true (by kernel_rfl)) (by unfold Func.isWrapper; first | (rw [if_pos (by decide +kernel)]; kernel_rfl) | (rw [if_neg (by decide +kernel)]; exact ⟨rfl, rfl⟩))
    (fun os started H enc _ => lifted os started H enc)
theorem proved : Rows.FnExactDiskRunSaid := over
#print axioms proved
end Go.Proofs.YtggaghghclomkaaGreat.FnExactDiskRunP
