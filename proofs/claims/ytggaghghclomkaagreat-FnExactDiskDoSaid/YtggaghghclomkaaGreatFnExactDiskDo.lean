/- FnExactDiskDo: the law answers true for every input and leaves its arguments as they were. Conditions: none but those of the given row. -/
import Derived.Test.YtggaghghclomkaaGreatQFEDDFEDR21l
import Derived.Test.YtggaghghclomkaaGreatRows
namespace Go.Proofs.YtggaghghclomkaaGreat.FnExactDiskDoP
open Go.RowKit Go.ChangeShapes Go.WideShapes Go.ChangeAt Go.Deep
open Go.ChangeMaps (open_string shut_string)
section
attribute [local irreducible] TL TC TN TX TR TQ TA Pu Ret
set_option maxRecDepth 100000 in
set_option maxHeartbeats 16000000 in
theorem law_c (d : DiskP) (o : OpD) {vo : Value} {sn sk st : Value} (W : World) (hp : RDk W 0 W.heap.size d sn sk st) (hf : d.fits) (ho : RB W 0 W.heap.size vo o.data) (hof : o.fits) (hod0 : o.data.length ≤ 9223372036854775807) : Ret Tryz.prog 4 #[.agg (dskC d sn sk st).toArray, .agg (opC o vo).toArray] W fun v' w' => v' = .bool true ∧ Ext W w' := by
  refine Ret_enter Tryz.func4 rfl rfl rfl ?_
  repeat' (first | apply Jbq | apply Jbr | apply Jbs | apply Jbt | apply Jbu | apply Jbv | apply Jbw | apply Jbx | apply Jby | apply Jbz | apply Jca | apply Jcb | apply Jcc | (refine Jcd rfl ?_) | (refine Jce rfl ?_) | (refine Jcf rfl ?_) | (apply Jcg; (first | exact Jaa rfl | exact Jab rfl | exact Jad rfl rfl | exact Jae rfl rfl | exact Jah rfl rfl | exact Jai rfl rfl | exact Jaj rfl | exact Jal rfl rfl | exact Jat rfl rfl | exact Jav Us.h rfl rfl); exact rfl) | refine Jch rfl rfl rfl ?_ | refine Jci rfl rfl rfl rfl rfl ?_ | refine Jcj rfl rfl rfl rfl ?_)
  refine TL_box (cs := dskC d sn sk st) rfl rfl ?_
  intro w1 g E hg hz hbk
  have z0 := E.size
  repeat' (first | apply Jbq | apply Jbr | apply Jbs | apply Jbt | apply Jbu | apply Jbv | apply Jbw | apply Jbx | apply Jby | apply Jbz | apply Jca | apply Jcb | apply Jcc | (refine Jcd rfl ?_) | (refine Jce rfl ?_) | (refine Jcf rfl ?_) | (apply Jcg; (first | exact Jaa rfl | exact Jab rfl | exact Jad rfl rfl | exact Jae rfl rfl | exact Jah rfl rfl | exact Jai rfl rfl | exact Jaj rfl | exact Jal rfl rfl | exact Jat rfl rfl | exact Jav Us.h rfl rfl); exact rfl) | refine Jch rfl rfl rfl ?_ | refine Jci rfl rfl rfl rfl rfl ?_ | refine Jcj rfl rfl rfl rfl ?_)
  refine TL_box (cs := opC o vo) rfl rfl ?_
  intro w2 go e hgo hzo hbo
  replace hbk := hbk.ext e
  replace E := E.ext e
  have z2 := e.size
  clear e
  repeat' (first | apply Jbq | apply Jbr | apply Jbs | apply Jbt | apply Jbu | apply Jbv | apply Jbw | apply Jbx | apply Jby | apply Jbz | apply Jca | apply Jcb | apply Jcc | (refine Jcd rfl ?_) | (refine Jce rfl ?_) | (refine Jcf rfl ?_) | (apply Jcg; (first | exact Jaa rfl | exact Jab rfl | exact Jad rfl rfl | exact Jae rfl rfl | exact Jah rfl rfl | exact Jai rfl rfl | exact Jaj rfl | exact Jal rfl rfl | exact Jat rfl rfl | exact Jav Us.h rfl rfl); exact rfl) | refine Jch rfl rfl rfl ?_ | refine Jci rfl rfl rfl rfl rfl ?_ | refine Jcj rfl rfl rfl rfl ?_ | refine Jcg (Pu_loadAgg (cs := dskC d sn sk st) Us.h rfl Sz.h rfl (fun _ e j u hu => by rw [e, add0, hbk.cell]; exact hu)) rfl ?_)
  refine TL_call rfl en11 (szDisk_c (hp.ext E) hf (by omega) (by omega)) rfl rfl ?_
  rintro _ w3 ⟨hv, e⟩
  replace hbk := hbk.ext e
  replace hbo := hbo.ext e
  replace E := E.ext e
  have z3 := e.size
  clear e
  rcases hv with rfl | ⟨rfl, hd⟩
  · repeat' (first | apply Jbq | apply Jbr | apply Jbs | apply Jbt | apply Jbu | apply Jbv | apply Jbw | apply Jbx | apply Jby | apply Jbz | apply Jca | apply Jcb | apply Jcc | (refine Jcd rfl ?_) | (refine Jce rfl ?_) | (refine Jcf rfl ?_) | (apply Jcg; (first | exact Jbm rfl rfl | exact Jbn Us.h rfl rfl | exact Jbo rfl rfl | exact Jaa rfl | exact Jab rfl | exact Jad rfl rfl | exact Jae rfl rfl | exact Jah rfl rfl | exact Jai rfl rfl | exact Jaj rfl | exact Jal rfl rfl | exact Jat rfl rfl | exact Jav Us.h rfl rfl); exact rfl) | refine Jch rfl rfl rfl ?_ | refine Jci rfl rfl rfl rfl rfl ?_ | refine Jcj rfl rfl rfl rfl ?_ | (refine Jcs rfl rfl (fun hb => ?_) (fun hb => ?_) <;> (try (exfalso; omega))) | (refine Jct rfl rfl (fun hb => ?_) (fun hb => ?_) <;> (try (exfalso; omega))) | refine Jcr rfl rfl (fun hb => ?_) (fun hb => ?_) | (refine Jcx rfl (fun hb => ?_) (fun hb => ?_) <;> (try (exfalso; omega))) | (refine Jcy rfl (fun hb => ?_) (fun hb => ?_) <;> (try (exfalso; omega))) | refine Jcz rfl (fun hb => ?_) (fun hb => ?_))
    exact TR_of (res1 rfl rfl) ⟨rfl, E⟩
  have hlt := hbk.lt
  have htn := totD_nn d
  have hlto := hbo.lt
  repeat' (first | apply Jbq | apply Jbr | apply Jbs | apply Jbt | apply Jbu | apply Jbv | apply Jbw | apply Jbx | apply Jby | apply Jbz | apply Jca | apply Jcb | apply Jcc | (refine Jcd rfl ?_) | (refine Jce rfl ?_) | (refine Jcf rfl ?_) | (apply Jcg; (first | exact Jbm rfl rfl | exact Jbn Us.h rfl rfl | exact Jbo rfl rfl | exact Jaa rfl | exact Jab rfl | exact Jad rfl rfl | exact Jae rfl rfl | exact Jah rfl rfl | exact Jai rfl rfl | exact Jaj rfl | exact Jal rfl rfl | exact Jat rfl rfl | exact Jav Us.h rfl rfl); exact rfl) | refine Jch rfl rfl rfl ?_ | refine Jci rfl rfl rfl rfl rfl ?_ | refine Jcj rfl rfl rfl rfl ?_ | refine Jcg (Pu_loadAgg (cs := opC o vo) Us.h rfl Sz.h rfl (fun _ e j u hu => by rw [e, add0, hbo.cell]; exact hu)) rfl ?_ | (refine Jcs rfl rfl (fun hb => ?_) (fun hb => ?_) <;> (try (exfalso; omega))) | (refine Jct rfl rfl (fun hb => ?_) (fun hb => ?_) <;> (try (exfalso; omega))) | refine Jcr rfl rfl (fun hb => ?_) (fun hb => ?_) | (refine Jcx rfl (fun hb => ?_) (fun hb => ?_) <;> (try (exfalso; omega))) | (refine Jcy rfl (fun hb => ?_) (fun hb => ?_) <;> (try (exfalso; omega))) | refine Jcz rfl (fun hb => ?_) (fun hb => ?_))
  have hof2 := hof
  obtain ⟨_, _, _, _⟩ := hof2
  refine TL_call rfl en21 (szOp_c2 (ho.ext E) hof hod0 (by omega) (by omega)) rfl rfl ?_
  rintro _ w4 ⟨hv, e⟩
  replace hbk := hbk.ext e
  replace hbo := hbo.ext e
  replace E := E.ext e
  have z4 := e.size
  clear e
  rcases hv with rfl | ⟨rfl, hod⟩
  · repeat' (first | apply Jbq | apply Jbr | apply Jbs | apply Jbt | apply Jbu | apply Jbv | apply Jbw | apply Jbx | apply Jby | apply Jbz | apply Jca | apply Jcb | apply Jcc | (refine Jcd rfl ?_) | (refine Jce rfl ?_) | (refine Jcf rfl ?_) | (apply Jcg; (first | exact Jbm rfl rfl | exact Jbn Us.h rfl rfl | exact Jbo rfl rfl | exact Jaa rfl | exact Jab rfl | exact Jad rfl rfl | exact Jae rfl rfl | exact Jah rfl rfl | exact Jai rfl rfl | exact Jaj rfl | exact Jal rfl rfl | exact Jat rfl rfl | exact Jav Us.h rfl rfl); exact rfl) | refine Jch rfl rfl rfl ?_ | refine Jci rfl rfl rfl rfl rfl ?_ | refine Jcj rfl rfl rfl rfl ?_ | (refine Jcs rfl rfl (fun hb => ?_) (fun hb => ?_) <;> (try (exfalso; omega))) | (refine Jct rfl rfl (fun hb => ?_) (fun hb => ?_) <;> (try (exfalso; omega))) | refine Jcr rfl rfl (fun hb => ?_) (fun hb => ?_) | (refine Jcx rfl (fun hb => ?_) (fun hb => ?_) <;> (try (exfalso; omega))) | (refine Jcy rfl (fun hb => ?_) (fun hb => ?_) <;> (try (exfalso; omega))) | refine Jcz rfl (fun hb => ?_) (fun hb => ?_))
    exact TR_of (res1 rfl rfl) ⟨rfl, E⟩
  have hol : o.data.length ≤ 1048576 := by unfold OpW at hod; omega
  obtain ⟨r, hr⟩ : ∃ r, r = (pDo d o).1 := ⟨_, rfl⟩
  have hrt : totD r ≤ 1048576 := by rw [hr]; exact pDo_tot d o
  repeat' (first | apply Jbq | apply Jbr | apply Jbt | apply Jbu | apply Jbv | apply Jbw | apply Jbx | apply Jby | apply Jbz | apply Jca | apply Jcb | apply Jcc | (refine Jcd rfl ?_) | (refine Jce rfl ?_) | (refine Jcf rfl ?_) | (apply Jcg; (first | exact Jbm rfl rfl | exact Jbn Us.h rfl rfl | exact Jbo rfl rfl | exact Jaa rfl | exact Jab rfl | exact Jad rfl rfl | exact Jae rfl rfl | exact Jah rfl rfl | exact Jai rfl rfl | exact Jaj rfl | exact Jal rfl rfl | exact Jat rfl rfl | exact Jav Us.h rfl rfl); exact rfl) | refine Jch rfl rfl rfl ?_ | refine Jci rfl rfl rfl rfl rfl ?_ | refine Jcj rfl rfl rfl rfl ?_ | (refine Jcs rfl rfl (fun hb => ?_) (fun hb => ?_) <;> (try (exfalso; omega))) | (refine Jct rfl rfl (fun hb => ?_) (fun hb => ?_) <;> (try (exfalso; omega))) | refine Jcr rfl rfl (fun hb => ?_) (fun hb => ?_) | (refine Jcx rfl (fun hb => ?_) (fun hb => ?_) <;> (try (exfalso; omega))) | (refine Jcy rfl (fun hb => ?_) (fun hb => ?_) <;> (try (exfalso; omega))) | refine Jcz rfl (fun hb => ?_) (fun hb => ?_))
  apply Jbs
  repeat' (first | apply Jbq | apply Jbr | apply Jbt | apply Jbu | apply Jbv | apply Jbw | apply Jbx | apply Jby | apply Jbz | apply Jca | apply Jcb | apply Jcc | (refine Jcd rfl ?_) | (refine Jce rfl ?_) | (refine Jcf rfl ?_) | (apply Jcg; (first | exact Jbm rfl rfl | exact Jbn Us.h rfl rfl | exact Jbo rfl rfl | exact Jaa rfl | exact Jab rfl | exact Jad rfl rfl | exact Jae rfl rfl | exact Jah rfl rfl | exact Jai rfl rfl | exact Jaj rfl | exact Jal rfl rfl | exact Jat rfl rfl | exact Jav Us.h rfl rfl); exact rfl) | refine Jch rfl rfl rfl ?_ | refine Jci rfl rfl rfl rfl rfl ?_ | refine Jcj rfl rfl rfl rfl ?_ | (refine Jcs rfl rfl (fun hb => ?_) (fun hb => ?_) <;> (try (exfalso; omega))) | (refine Jct rfl rfl (fun hb => ?_) (fun hb => ?_) <;> (try (exfalso; omega))) | refine Jcr rfl rfl (fun hb => ?_) (fun hb => ?_) | (refine Jcx rfl (fun hb => ?_) (fun hb => ?_) <;> (try (exfalso; omega))) | (refine Jcy rfl (fun hb => ?_) (fun hb => ?_) <;> (try (exfalso; omega))) | refine Jcz rfl (fun hb => ?_) (fun hb => ?_))
  apply Jbs
  repeat' (first | apply Jbq | apply Jbr | apply Jbt | apply Jbu | apply Jbv | apply Jbw | apply Jbx | apply Jby | apply Jbz | apply Jca | apply Jcb | apply Jcc | (refine Jcd rfl ?_) | (refine Jce rfl ?_) | (refine Jcf rfl ?_) | (apply Jcg; (first | exact Jbm rfl rfl | exact Jbn Us.h rfl rfl | exact Jbo rfl rfl | exact Jaa rfl | exact Jab rfl | exact Jad rfl rfl | exact Jae rfl rfl | exact Jah rfl rfl | exact Jai rfl rfl | exact Jaj rfl | exact Jal rfl rfl | exact Jat rfl rfl | exact Jav Us.h rfl rfl); exact rfl) | refine Jch rfl rfl rfl ?_ | refine Jci rfl rfl rfl rfl rfl ?_ | refine Jcj rfl rfl rfl rfl ?_ | (refine Jcs rfl rfl (fun hb => ?_) (fun hb => ?_) <;> (try (exfalso; omega))) | (refine Jct rfl rfl (fun hb => ?_) (fun hb => ?_) <;> (try (exfalso; omega))) | refine Jcr rfl rfl (fun hb => ?_) (fun hb => ?_) | (refine Jcx rfl (fun hb => ?_) (fun hb => ?_) <;> (try (exfalso; omega))) | (refine Jcy rfl (fun hb => ?_) (fun hb => ?_) <;> (try (exfalso; omega))) | refine Jcz rfl (fun hb => ?_) (fun hb => ?_))
  have hA : ∀ w', Ext w4 w' → ∀ j u, (dskC d sn sk st)[j]? = some u → w'.cell? ((⟨g, 0, none⟩ : Addr).add j) = some u := fun w' e j u hu => by rw [add0]; exact e.cell ((hbk.cell j).trans hu)
  have hAo : ∀ w', Ext w4 w' → ∀ j u, (opC o vo)[j]? = some u → w'.cell? ((⟨go, 0, none⟩ : Addr).add j) = some u := fun w' e j u hu => by rw [add0]; exact e.cell ((hbo.cell j).trans hu)
  refine TC_join (ι := Nat × Nat × Nat × Value × Value × Value) (fun x => [(2, .pointer (some ⟨g, 0, none⟩)), (3, .pointer (some ⟨go, 0, none⟩)), (6, .pointer (some ⟨x.1, 0, none⟩)), (7, I (pDo d o).2)]) (fun x w' => Ext w4 w' ∧ (w4.heap.size ≤ x.2.1 ∧ x.2.2.1 ≤ w'.heap.size ∧ w4.heap.size ≤ x.1 ∧ x.1 < w'.heap.size ∧ (x.1 < x.2.1 ∨ x.2.2.1 ≤ x.1)) ∧ Blk w' x.1 33 (dskC r x.2.2.2.1 x.2.2.2.2.1 x.2.2.2.2.2) ∧ ODk w' x.2.1 x.2.2.1 r x.2.2.2.1 x.2.2.2.2.1 x.2.2.2.2.2) ?_ ?_
  · repeat' (first | apply Jbq | apply Jbr | apply Jbs | apply Jbt | apply Jbu | apply Jbv | apply Jbw | apply Jbx | apply Jby | apply Jbz | apply Jca | apply Jcb | apply Jcc | (refine Jcd rfl ?_) | (refine Jce rfl ?_) | (refine Jcf rfl ?_) | (apply Jcg; (first | exact Jaa rfl | exact Jab rfl | exact Jad rfl rfl | exact Jae rfl rfl | exact Jah rfl rfl | exact Jai rfl rfl | exact Jaj rfl | exact Jal rfl rfl | exact Jat rfl rfl | exact Jav Us.h rfl rfl); exact rfl) | refine Jch rfl rfl rfl ?_ | refine Jci rfl rfl rfl rfl rfl ?_ | refine Jcj rfl rfl rfl rfl ?_)
    refine TC_any mixed rfl ?_
    intro wa hE hza
    have za := hE.size
    (refine Jco 0 rfl (by kernel_rfl) (by kernel_rfl) (by kernel_rfl) (fun _ _ _ h => h) hE (by (first | exact Pu_loadAgg (cs := dskC d sn sk st) Us.h rfl Sz.h rfl hA | exact Pu_loadAgg (cs := opC o vo) Us.h rfl Sz.h rfl hAo | exact Jaa rfl | exact Jab rfl | exact Jad rfl rfl | exact Jae rfl rfl | exact Jah rfl rfl | exact Jai rfl rfl | exact Jaj rfl | exact Jal rfl rfl | exact Jat rfl rfl | exact Jav Us.h rfl rfl)) rfl ?_; refine Jco 2 rfl (by kernel_rfl) (by kernel_rfl) (by kernel_rfl) (fun _ _ _ h => h) hE (by (first | exact Pu_loadAgg (cs := dskC d sn sk st) Us.h rfl Sz.h rfl hA | exact Pu_loadAgg (cs := opC o vo) Us.h rfl Sz.h rfl hAo | exact Jaa rfl | exact Jab rfl | exact Jad rfl rfl | exact Jae rfl rfl | exact Jah rfl rfl | exact Jai rfl rfl | exact Jaj rfl | exact Jal rfl rfl | exact Jat rfl rfl | exact Jav Us.h rfl rfl)) rfl ?_)
    refine TA_two 1 8 (by kernel_rfl) rfl rfl ?_ ?_
    · refine TL_call rfl en13 (toDisk_c (hp.ext (E.ext hE)) hd) rfl rfl ?_
      rintro _ wb1 ⟨sn1, sk1, st1, rfl, e, ho1⟩
      replace hE := hE.ext e
      have zwb1 := e.size
      clear e
      refine Jbq (TN_any hE ?_)
      refine TA_two 3 8 (by kernel_rfl) rfl rfl ?_ ?_
      · refine TL_call rfl en23 (toOp_c (ho.ext (E.ext hE)) hol) rfl rfl ?_
        rintro _ wb2 ⟨vo1, rfl, e, hp1⟩
        replace ho1 := ho1.ext e
        replace hE := hE.ext e
        have zwb2 := e.size
        clear e
        refine Jbq (TN_any hE ?_)
        refine TA_two 4 8 (by kernel_rfl) rfl rfl ?_ ?_
        · refine TL_call rfl en22 (specDiskDo_c ho1 hf hd hp1.rd hof) rfl rfl ?_
          rintro _ wb3 ⟨snw, skw, stw, rfl, e, hw⟩
          rw [← hr] at hw ⊢
          have onehw := hw.one
          replace ho1 := ho1.ext e
          replace hp1 := hp1.ext e
          replace hE := hE.ext e
          have zwb3 := e.size
          clear e
          refine Jbq (TN_any hE ?_)
          (refine Jco 5 rfl (by kernel_rfl) (by kernel_rfl) (by kernel_rfl) (fun _ _ _ h => h) hE (by (first | exact Jaa rfl | exact Jab rfl | exact Jad rfl rfl | exact Jae rfl rfl | exact Jah rfl rfl | exact Jai rfl rfl | exact Jaj rfl | exact Jal rfl rfl | exact Jat rfl rfl | exact Jav Us.h rfl rfl)) rfl ?_; refine Jco 6 rfl (by kernel_rfl) (by kernel_rfl) (by kernel_rfl) (fun _ _ _ h => h) hE (by (first | exact Jaa rfl | exact Jab rfl | exact Jad rfl rfl | exact Jae rfl rfl | exact Jah rfl rfl | exact Jai rfl rfl | exact Jaj rfl | exact Jal rfl rfl | exact Jat rfl rfl | exact Jav Us.h rfl rfl)) rfl ?_; refine Jco 7 rfl (by kernel_rfl) (by kernel_rfl) (by kernel_rfl) (fun _ _ _ h => h) hE (by (first | exact Jaa rfl | exact Jab rfl | exact Jad rfl rfl | exact Jae rfl rfl | exact Jah rfl rfl | exact Jai rfl rfl | exact Jaj rfl | exact Jal rfl rfl | exact Jat rfl rfl | exact Jav Us.h rfl rfl)) rfl ?_)
          refine TA_one 8 (by kernel_rfl) rfl ?_
          refine TL_alloc Zs.h rfl rfl ?_
          intro wb4 ghbw e hghbw hzhbw hbw
          replace ho1 := ho1.ext e
          replace hp1 := hp1.ext e
          replace hw := hw.ext e
          replace hE := hE.ext e
          have zwb4 := e.size
          clear e
          refine Jbq (TN_any hE ?_)
          refine TA_one 9 (by kernel_rfl) rfl ?_
          refine TL_storeAgg rfl rfl Sz.h onehw hbw rfl ?_
          clear hbw
          intro wbz c hzz hbw
          replace hE := Ext.then_iv hE c (by omega)
          replace hw := hw.ch c (by intro k _ _; simp only [Iv]; omega)
          refine Jbq (TN_any hE ?_)
          (refine Jco 10 rfl (by kernel_rfl) (by kernel_rfl) (by kernel_rfl) (fun _ _ _ h => h) hE (by (first | exact Jaa rfl | exact Jab rfl | exact Jad rfl rfl | exact Jae rfl rfl | exact Jah rfl rfl | exact Jai rfl rfl | exact Jaj rfl | exact Jal rfl rfl | exact Jat rfl rfl | exact Jav Us.h rfl rfl)) rfl ?_)
          refine TA_done (by kernel_rfl) ?_
          exact TN_join (ghbw, wb2.heap.size, wb3.heap.size, snw, skw, stw) (subEnv_cons rfl (subEnv_cons rfl (subEnv_cons rfl (subEnv_cons rfl (subEnv_nil _))))) ⟨hE, by simp only; exact ⟨by omega, by omega, by omega, by omega, by omega⟩, hbw, hw⟩
        · refine TL_alloc Zs.h rfl rfl ?_
          intro wb5 ghbw e hghbw hzhbw hbw
          replace ho1 := ho1.ext e
          replace hp1 := hp1.ext e
          replace hE := hE.ext e
          have zwb5 := e.size
          clear e
          refine Jbq (TN_any hE ?_)
          refine TA_one 4 (by kernel_rfl) rfl ?_
          refine TL_call rfl en22 (specDiskDo_c ho1 hf hd hp1.rd hof) rfl rfl ?_
          rintro _ wb6 ⟨snw, skw, stw, rfl, e, hw⟩
          rw [← hr] at hw ⊢
          have onehw := hw.one
          replace ho1 := ho1.ext e
          replace hp1 := hp1.ext e
          replace hbw := hbw.ext e
          replace hE := hE.ext e
          have zwb6 := e.size
          clear e
          refine Jbq (TN_any hE ?_)
          (refine Jco 5 rfl (by kernel_rfl) (by kernel_rfl) (by kernel_rfl) (fun _ _ _ h => h) hE (by (first | exact Jaa rfl | exact Jab rfl | exact Jad rfl rfl | exact Jae rfl rfl | exact Jah rfl rfl | exact Jai rfl rfl | exact Jaj rfl | exact Jal rfl rfl | exact Jat rfl rfl | exact Jav Us.h rfl rfl)) rfl ?_; refine Jco 6 rfl (by kernel_rfl) (by kernel_rfl) (by kernel_rfl) (fun _ _ _ h => h) hE (by (first | exact Jaa rfl | exact Jab rfl | exact Jad rfl rfl | exact Jae rfl rfl | exact Jah rfl rfl | exact Jai rfl rfl | exact Jaj rfl | exact Jal rfl rfl | exact Jat rfl rfl | exact Jav Us.h rfl rfl)) rfl ?_; refine Jco 7 rfl (by kernel_rfl) (by kernel_rfl) (by kernel_rfl) (fun _ _ _ h => h) hE (by (first | exact Jaa rfl | exact Jab rfl | exact Jad rfl rfl | exact Jae rfl rfl | exact Jah rfl rfl | exact Jai rfl rfl | exact Jaj rfl | exact Jal rfl rfl | exact Jat rfl rfl | exact Jav Us.h rfl rfl)) rfl ?_)
          refine TA_one 9 (by kernel_rfl) rfl ?_
          refine TL_storeAgg rfl rfl Sz.h onehw hbw rfl ?_
          clear hbw
          intro wbz c hzz hbw
          replace hE := Ext.then_iv hE c (by omega)
          replace hw := hw.ch c (by intro k _ _; simp only [Iv]; omega)
          refine Jbq (TN_any hE ?_)
          (refine Jco 10 rfl (by kernel_rfl) (by kernel_rfl) (by kernel_rfl) (fun _ _ _ h => h) hE (by (first | exact Jaa rfl | exact Jab rfl | exact Jad rfl rfl | exact Jae rfl rfl | exact Jah rfl rfl | exact Jai rfl rfl | exact Jaj rfl | exact Jal rfl rfl | exact Jat rfl rfl | exact Jav Us.h rfl rfl)) rfl ?_)
          refine TA_done (by kernel_rfl) ?_
          exact TN_join (ghbw, wb5.heap.size, wb6.heap.size, snw, skw, stw) (subEnv_cons rfl (subEnv_cons rfl (subEnv_cons rfl (subEnv_cons rfl (subEnv_nil _))))) ⟨hE, by simp only; exact ⟨by omega, by omega, by omega, by omega, by omega⟩, hbw, hw⟩
      · refine TL_alloc Zs.h rfl rfl ?_
        intro wb7 ghbw e hghbw hzhbw hbw
        replace ho1 := ho1.ext e
        replace hE := hE.ext e
        have zwb7 := e.size
        clear e
        refine Jbq (TN_any hE ?_)
        refine TA_one 3 (by kernel_rfl) rfl ?_
        refine TL_call rfl en23 (toOp_c (ho.ext (E.ext hE)) hol) rfl rfl ?_
        rintro _ wb8 ⟨vo1, rfl, e, hp1⟩
        replace ho1 := ho1.ext e
        replace hbw := hbw.ext e
        replace hE := hE.ext e
        have zwb8 := e.size
        clear e
        refine Jbq (TN_any hE ?_)
        refine TA_one 4 (by kernel_rfl) rfl ?_
        refine TL_call rfl en22 (specDiskDo_c ho1 hf hd hp1.rd hof) rfl rfl ?_
        rintro _ wb9 ⟨snw, skw, stw, rfl, e, hw⟩
        rw [← hr] at hw ⊢
        have onehw := hw.one
        replace ho1 := ho1.ext e
        replace hbw := hbw.ext e
        replace hp1 := hp1.ext e
        replace hE := hE.ext e
        have zwb9 := e.size
        clear e
        refine Jbq (TN_any hE ?_)
        (refine Jco 5 rfl (by kernel_rfl) (by kernel_rfl) (by kernel_rfl) (fun _ _ _ h => h) hE (by (first | exact Jaa rfl | exact Jab rfl | exact Jad rfl rfl | exact Jae rfl rfl | exact Jah rfl rfl | exact Jai rfl rfl | exact Jaj rfl | exact Jal rfl rfl | exact Jat rfl rfl | exact Jav Us.h rfl rfl)) rfl ?_; refine Jco 6 rfl (by kernel_rfl) (by kernel_rfl) (by kernel_rfl) (fun _ _ _ h => h) hE (by (first | exact Jaa rfl | exact Jab rfl | exact Jad rfl rfl | exact Jae rfl rfl | exact Jah rfl rfl | exact Jai rfl rfl | exact Jaj rfl | exact Jal rfl rfl | exact Jat rfl rfl | exact Jav Us.h rfl rfl)) rfl ?_; refine Jco 7 rfl (by kernel_rfl) (by kernel_rfl) (by kernel_rfl) (fun _ _ _ h => h) hE (by (first | exact Jaa rfl | exact Jab rfl | exact Jad rfl rfl | exact Jae rfl rfl | exact Jah rfl rfl | exact Jai rfl rfl | exact Jaj rfl | exact Jal rfl rfl | exact Jat rfl rfl | exact Jav Us.h rfl rfl)) rfl ?_)
        refine TA_one 9 (by kernel_rfl) rfl ?_
        refine TL_storeAgg rfl rfl Sz.h onehw hbw rfl ?_
        clear hbw
        intro wbz c hzz hbw
        replace hE := Ext.then_iv hE c (by omega)
        replace hw := hw.ch c (by intro k _ _; simp only [Iv]; omega)
        refine Jbq (TN_any hE ?_)
        (refine Jco 10 rfl (by kernel_rfl) (by kernel_rfl) (by kernel_rfl) (fun _ _ _ h => h) hE (by (first | exact Jaa rfl | exact Jab rfl | exact Jad rfl rfl | exact Jae rfl rfl | exact Jah rfl rfl | exact Jai rfl rfl | exact Jaj rfl | exact Jal rfl rfl | exact Jat rfl rfl | exact Jav Us.h rfl rfl)) rfl ?_)
        refine TA_done (by kernel_rfl) ?_
        exact TN_join (ghbw, wb8.heap.size, wb9.heap.size, snw, skw, stw) (subEnv_cons rfl (subEnv_cons rfl (subEnv_cons rfl (subEnv_cons rfl (subEnv_nil _))))) ⟨hE, by simp only; exact ⟨by omega, by omega, by omega, by omega, by omega⟩, hbw, hw⟩
    · refine TL_alloc Zs.h rfl rfl ?_
      intro wb10 ghbw e hghbw hzhbw hbw
      replace hE := hE.ext e
      have zwb10 := e.size
      clear e
      refine Jbq (TN_any hE ?_)
      refine TA_one 1 (by kernel_rfl) rfl ?_
      refine TL_call rfl en13 (toDisk_c (hp.ext (E.ext hE)) hd) rfl rfl ?_
      rintro _ wb11 ⟨sn1, sk1, st1, rfl, e, ho1⟩
      replace hbw := hbw.ext e
      replace hE := hE.ext e
      have zwb11 := e.size
      clear e
      refine Jbq (TN_any hE ?_)
      refine TA_one 3 (by kernel_rfl) rfl ?_
      refine TL_call rfl en23 (toOp_c (ho.ext (E.ext hE)) hol) rfl rfl ?_
      rintro _ wb12 ⟨vo1, rfl, e, hp1⟩
      replace hbw := hbw.ext e
      replace ho1 := ho1.ext e
      replace hE := hE.ext e
      have zwb12 := e.size
      clear e
      refine Jbq (TN_any hE ?_)
      refine TA_one 4 (by kernel_rfl) rfl ?_
      refine TL_call rfl en22 (specDiskDo_c ho1 hf hd hp1.rd hof) rfl rfl ?_
      rintro _ wb13 ⟨snw, skw, stw, rfl, e, hw⟩
      rw [← hr] at hw ⊢
      have onehw := hw.one
      replace hbw := hbw.ext e
      replace ho1 := ho1.ext e
      replace hp1 := hp1.ext e
      replace hE := hE.ext e
      have zwb13 := e.size
      clear e
      refine Jbq (TN_any hE ?_)
      (refine Jco 5 rfl (by kernel_rfl) (by kernel_rfl) (by kernel_rfl) (fun _ _ _ h => h) hE (by (first | exact Jaa rfl | exact Jab rfl | exact Jad rfl rfl | exact Jae rfl rfl | exact Jah rfl rfl | exact Jai rfl rfl | exact Jaj rfl | exact Jal rfl rfl | exact Jat rfl rfl | exact Jav Us.h rfl rfl)) rfl ?_; refine Jco 6 rfl (by kernel_rfl) (by kernel_rfl) (by kernel_rfl) (fun _ _ _ h => h) hE (by (first | exact Jaa rfl | exact Jab rfl | exact Jad rfl rfl | exact Jae rfl rfl | exact Jah rfl rfl | exact Jai rfl rfl | exact Jaj rfl | exact Jal rfl rfl | exact Jat rfl rfl | exact Jav Us.h rfl rfl)) rfl ?_; refine Jco 7 rfl (by kernel_rfl) (by kernel_rfl) (by kernel_rfl) (fun _ _ _ h => h) hE (by (first | exact Jaa rfl | exact Jab rfl | exact Jad rfl rfl | exact Jae rfl rfl | exact Jah rfl rfl | exact Jai rfl rfl | exact Jaj rfl | exact Jal rfl rfl | exact Jat rfl rfl | exact Jav Us.h rfl rfl)) rfl ?_)
      refine TA_one 9 (by kernel_rfl) rfl ?_
      refine TL_storeAgg rfl rfl Sz.h onehw hbw rfl ?_
      clear hbw
      intro wbz c hzz hbw
      replace hE := Ext.then_iv hE c (by omega)
      replace hw := hw.ch c (by intro k _ _; simp only [Iv]; omega)
      refine Jbq (TN_any hE ?_)
      (refine Jco 10 rfl (by kernel_rfl) (by kernel_rfl) (by kernel_rfl) (fun _ _ _ h => h) hE (by (first | exact Jaa rfl | exact Jab rfl | exact Jad rfl rfl | exact Jae rfl rfl | exact Jah rfl rfl | exact Jai rfl rfl | exact Jaj rfl | exact Jal rfl rfl | exact Jat rfl rfl | exact Jav Us.h rfl rfl)) rfl ?_)
      refine TA_done (by kernel_rfl) ?_
      exact TN_join (ghbw, wb12.heap.size, wb13.heap.size, snw, skw, stw) (subEnv_cons rfl (subEnv_cons rfl (subEnv_cons rfl (subEnv_cons rfl (subEnv_nil _))))) ⟨hE, by simp only; exact ⟨by omega, by omega, by omega, by omega, by omega⟩, hbw, hw⟩
  rintro ⟨ghbw, lww, hiw, snw, skw, stw⟩ w5 ⟨e, hlww, hbw, hw⟩
  simp only at hlww hbw hw
  clear hA hAo
  replace hbk := hbk.ext e
  replace hbo := hbo.ext e
  replace E := E.ext e
  have z5 := e.size
  clear e
  have hlthbw := hbw.lt
  repeat' (first | apply Jbq | apply Jbr | apply Jbs | apply Jbt | apply Jbu | apply Jbv | apply Jbw | apply Jbx | apply Jby | apply Jbz | apply Jca | apply Jcb | apply Jcc | (refine Jcd rfl ?_) | (refine Jce rfl ?_) | (refine Jcf rfl ?_) | (apply Jcg; (first | exact Jaa rfl | exact Jab rfl | exact Jad rfl rfl | exact Jae rfl rfl | exact Jah rfl rfl | exact Jai rfl rfl | exact Jaj rfl | exact Jal rfl rfl | exact Jat rfl rfl | exact Jav Us.h rfl rfl); exact rfl) | refine Jch rfl rfl rfl ?_ | refine Jci rfl rfl rfl rfl rfl ?_ | refine Jcj rfl rfl rfl rfl ?_ | refine Jcg (Pu_loadAgg (cs := dskC d sn sk st) Us.h rfl Sz.h rfl (fun _ e j u hu => by rw [e, add0, hbk.cell]; exact hu)) rfl ?_)
  refine TL_call rfl en13 (toDisk_o (hp.ext E) hd) rfl rfl ?_
  rintro _ w6 ⟨sn2, sk2, st2, rfl, e, hx⟩
  replace hbk := hbk.ext e
  replace hbo := hbo.ext e
  replace hw := hw.ext e
  replace hbw := hbw.ext e
  replace E := E.ext e
  have z6 := e.size
  clear e
  have onex := hx.one
  repeat' (first | apply Jbq | apply Jbr | apply Jbs | apply Jbt | apply Jbu | apply Jbv | apply Jbw | apply Jbx | apply Jby | apply Jbz | apply Jca | apply Jcb | apply Jcc | (refine Jcd rfl ?_) | (refine Jce rfl ?_) | (refine Jcf rfl ?_) | (apply Jcg; (first | exact Jaa rfl | exact Jab rfl | exact Jad rfl rfl | exact Jae rfl rfl | exact Jah rfl rfl | exact Jai rfl rfl | exact Jaj rfl | exact Jal rfl rfl | exact Jat rfl rfl | exact Jav Us.h rfl rfl); exact rfl) | refine Jch rfl rfl rfl ?_ | refine Jci rfl rfl rfl rfl rfl ?_ | refine Jcj rfl rfl rfl rfl ?_)
  refine TL_alloc Zs.h rfl rfl ?_
  intro w7 ghbx e hghbx hzghbx hbx
  replace hbk := hbk.ext e
  replace hbo := hbo.ext e
  replace hw := hw.ext e
  replace hbw := hbw.ext e
  replace hx := hx.ext e
  replace E := E.ext e
  have z7 := e.size
  clear e
  have hlthbx := hbx.lt
  repeat' (first | apply Jbq | apply Jbr | apply Jbs | apply Jbt | apply Jbu | apply Jbv | apply Jbw | apply Jbx | apply Jby | apply Jbz | apply Jca | apply Jcb | apply Jcc | (refine Jcd rfl ?_) | (refine Jce rfl ?_) | (refine Jcf rfl ?_) | (apply Jcg; (first | exact Jaa rfl | exact Jab rfl | exact Jad rfl rfl | exact Jae rfl rfl | exact Jah rfl rfl | exact Jai rfl rfl | exact Jaj rfl | exact Jal rfl rfl | exact Jat rfl rfl | exact Jav Us.h rfl rfl); exact rfl) | refine Jch rfl rfl rfl ?_ | refine Jci rfl rfl rfl rfl rfl ?_ | refine Jcj rfl rfl rfl rfl ?_)
  refine TL_storeAgg rfl rfl Sz.h onex hbx rfl ?_
  clear hbx
  intro w8 c hzz hbx
  replace hbk := hbk.ch c (by simp only [Iv]; omega)
  replace hbo := hbo.ch c (by simp only [Iv]; omega)
  replace hw := hw.ch c (by intro k _ _; simp only [Iv]; omega)
  replace hbw := hbw.ch c (by simp only [Iv]; omega)
  replace hx := hx.ch c (by intro k _ _; simp only [Iv]; omega)
  replace E : Ext W _ := Ext.then_iv E c (by omega)
  have z8 := c.size
  clear c
  repeat' (first | apply Jbq | apply Jbr | apply Jbs | apply Jbt | apply Jbu | apply Jbv | apply Jbw | apply Jbx | apply Jby | apply Jbz | apply Jca | apply Jcb | apply Jcc | (refine Jcd rfl ?_) | (refine Jce rfl ?_) | (refine Jcf rfl ?_) | (apply Jcg; (first | exact Jaa rfl | exact Jab rfl | exact Jad rfl rfl | exact Jae rfl rfl | exact Jah rfl rfl | exact Jai rfl rfl | exact Jaj rfl | exact Jal rfl rfl | exact Jat rfl rfl | exact Jav Us.h rfl rfl); exact rfl) | refine Jch rfl rfl rfl ?_ | refine Jci rfl rfl rfl rfl rfl ?_ | refine Jcj rfl rfl rfl rfl ?_ | refine Jcg (Pu_loadAgg (cs := opC o vo) Us.h rfl Sz.h rfl (fun _ e j u hu => by rw [e, add0, hbo.cell]; exact hu)) rfl ?_)
  refine TL_call rfl en23 (toOp_c (ho.ext E) hol) rfl rfl ?_
  rintro _ w9 ⟨vo2, rfl, e, hx2⟩
  replace hbk := hbk.ext e
  replace hbo := hbo.ext e
  replace hw := hw.ext e
  replace hbw := hbw.ext e
  replace hx := hx.ext e
  replace hbx := hbx.ext e
  replace E := E.ext e
  have z9 := e.size
  clear e
  have onex2 : (opC o vo2).all (·.oneCell') = true := by obtain ⟨A, c, rfl, _⟩ := hx2; rfl
  repeat' (first | apply Jbq | apply Jbr | apply Jbs | apply Jbt | apply Jbu | apply Jbv | apply Jbw | apply Jbx | apply Jby | apply Jbz | apply Jca | apply Jcb | apply Jcc | (refine Jcd rfl ?_) | (refine Jce rfl ?_) | (refine Jcf rfl ?_) | (apply Jcg; (first | exact Jaa rfl | exact Jab rfl | exact Jad rfl rfl | exact Jae rfl rfl | exact Jah rfl rfl | exact Jai rfl rfl | exact Jaj rfl | exact Jal rfl rfl | exact Jat rfl rfl | exact Jav Us.h rfl rfl); exact rfl) | refine Jch rfl rfl rfl ?_ | refine Jci rfl rfl rfl rfl rfl ?_ | refine Jcj rfl rfl rfl rfl ?_)
  refine TL_alloc Zs.h rfl rfl ?_
  intro w10 ghbp e hghbp hzghbp hbp
  replace hbk := hbk.ext e
  replace hbo := hbo.ext e
  replace hw := hw.ext e
  replace hbw := hbw.ext e
  replace hx := hx.ext e
  replace hbx := hbx.ext e
  replace hx2 := hx2.ext e
  replace E := E.ext e
  have z10 := e.size
  clear e
  have hlthbp := hbp.lt
  repeat' (first | apply Jbq | apply Jbr | apply Jbs | apply Jbt | apply Jbu | apply Jbv | apply Jbw | apply Jbx | apply Jby | apply Jbz | apply Jca | apply Jcb | apply Jcc | (refine Jcd rfl ?_) | (refine Jce rfl ?_) | (refine Jcf rfl ?_) | (apply Jcg; (first | exact Jaa rfl | exact Jab rfl | exact Jad rfl rfl | exact Jae rfl rfl | exact Jah rfl rfl | exact Jai rfl rfl | exact Jaj rfl | exact Jal rfl rfl | exact Jat rfl rfl | exact Jav Us.h rfl rfl); exact rfl) | refine Jch rfl rfl rfl ?_ | refine Jci rfl rfl rfl rfl rfl ?_ | refine Jcj rfl rfl rfl rfl ?_)
  refine TL_storeAgg rfl rfl Sz.h onex2 hbp rfl ?_
  clear hbp
  intro w11 c hzz hbp
  replace hbk := hbk.ch c (by simp only [Iv]; omega)
  replace hbo := hbo.ch c (by simp only [Iv]; omega)
  replace hw := hw.ch c (by intro k _ _; simp only [Iv]; omega)
  replace hbw := hbw.ch c (by simp only [Iv]; omega)
  replace hx := hx.ch c (by intro k _ _; simp only [Iv]; omega)
  replace hbx := hbx.ch c (by simp only [Iv]; omega)
  replace hx2 := hx2.ch c (by intro k _ _; simp only [Iv]; omega)
  replace E : Ext W _ := Ext.then_iv E c (by omega)
  have z11 := c.size
  clear c
  repeat' (first | apply Jbq | apply Jbr | apply Jbs | apply Jbt | apply Jbu | apply Jbv | apply Jbw | apply Jbx | apply Jby | apply Jbz | apply Jca | apply Jcb | apply Jcc | (refine Jcd rfl ?_) | (refine Jce rfl ?_) | (refine Jcf rfl ?_) | (apply Jcg; (first | exact Jaa rfl | exact Jab rfl | exact Jad rfl rfl | exact Jae rfl rfl | exact Jah rfl rfl | exact Jai rfl rfl | exact Jaj rfl | exact Jal rfl rfl | exact Jat rfl rfl | exact Jav Us.h rfl rfl); exact rfl) | refine Jch rfl rfl rfl ?_ | refine Jci rfl rfl rfl rfl rfl ?_ | refine Jcj rfl rfl rfl rfl ?_ | refine Jcg (Pu_loadAgg (cs := dskC d sn2 sk2 st2) Us.h rfl Sz.h rfl (fun _ e j u hu => by rw [e, add0, hbx.cell]; exact hu)) rfl ?_ | refine Jcg (Pu_loadAgg (cs := opC o vo2) Us.h rfl Sz.h rfl (fun _ e j u hu => by rw [e, add0, hbp.cell]; exact hu)) rfl ?_)
  refine TL_call rfl en24 (implDiskDo_c hx.rd hf hd hx2.rd hof) rfl rfl ?_
  rintro _ w12 ⟨sng, skg, stg, rfl, e, hgd⟩
  rw [← hr] at hgd ⊢
  replace hbk := hbk.ext e
  replace hbo := hbo.ext e
  replace hw := hw.ext e
  replace hbw := hbw.ext e
  replace hx := hx.ext e
  replace hbx := hbx.ext e
  replace hx2 := hx2.ext e
  replace hbp := hbp.ext e
  replace E := E.ext e
  have z12 := e.size
  clear e
  have oneg := hgd.one
  repeat' (first | apply Jbq | apply Jbr | apply Jbs | apply Jbt | apply Jbu | apply Jbv | apply Jbw | apply Jbx | apply Jby | apply Jbz | apply Jca | apply Jcb | apply Jcc | (refine Jcd rfl ?_) | (refine Jce rfl ?_) | (refine Jcf rfl ?_) | (apply Jcg; (first | exact Jaa rfl | exact Jab rfl | exact Jad rfl rfl | exact Jae rfl rfl | exact Jah rfl rfl | exact Jai rfl rfl | exact Jaj rfl | exact Jal rfl rfl | exact Jat rfl rfl | exact Jav Us.h rfl rfl); exact rfl) | refine Jch rfl rfl rfl ?_ | refine Jci rfl rfl rfl rfl rfl ?_ | refine Jcj rfl rfl rfl rfl ?_)
  refine TL_alloc Zs.h rfl rfl ?_
  intro w13 ghbg e hghbg hzghbg hbg
  replace hbk := hbk.ext e
  replace hbo := hbo.ext e
  replace hw := hw.ext e
  replace hbw := hbw.ext e
  replace hx := hx.ext e
  replace hbx := hbx.ext e
  replace hx2 := hx2.ext e
  replace hbp := hbp.ext e
  replace hgd := hgd.ext e
  replace E := E.ext e
  have z13 := e.size
  clear e
  have hlthbg := hbg.lt
  repeat' (first | apply Jbq | apply Jbr | apply Jbs | apply Jbt | apply Jbu | apply Jbv | apply Jbw | apply Jbx | apply Jby | apply Jbz | apply Jca | apply Jcb | apply Jcc | (refine Jcd rfl ?_) | (refine Jce rfl ?_) | (refine Jcf rfl ?_) | (apply Jcg; (first | exact Jaa rfl | exact Jab rfl | exact Jad rfl rfl | exact Jae rfl rfl | exact Jah rfl rfl | exact Jai rfl rfl | exact Jaj rfl | exact Jal rfl rfl | exact Jat rfl rfl | exact Jav Us.h rfl rfl); exact rfl) | refine Jch rfl rfl rfl ?_ | refine Jci rfl rfl rfl rfl rfl ?_ | refine Jcj rfl rfl rfl rfl ?_)
  refine TL_storeAgg rfl rfl Sz.h oneg hbg rfl ?_
  clear hbg
  intro w14 c hzz hbg
  replace hbk := hbk.ch c (by simp only [Iv]; omega)
  replace hbo := hbo.ch c (by simp only [Iv]; omega)
  replace hw := hw.ch c (by intro k _ _; simp only [Iv]; omega)
  replace hbw := hbw.ch c (by simp only [Iv]; omega)
  replace hx := hx.ch c (by intro k _ _; simp only [Iv]; omega)
  replace hbx := hbx.ch c (by simp only [Iv]; omega)
  replace hx2 := hx2.ch c (by intro k _ _; simp only [Iv]; omega)
  replace hbp := hbp.ch c (by simp only [Iv]; omega)
  replace hgd := hgd.ch c (by intro k _ _; simp only [Iv]; omega)
  replace E : Ext W _ := Ext.then_iv E c (by omega)
  have z14 := c.size
  clear c
  repeat' (first | apply Jbq | apply Jbr | apply Jbs | apply Jbt | apply Jbu | apply Jbv | apply Jbw | apply Jbx | apply Jby | apply Jbz | apply Jca | apply Jcb | apply Jcc | (refine Jcd rfl ?_) | (refine Jce rfl ?_) | (refine Jcf rfl ?_) | (apply Jcg; (first | exact Jbm rfl rfl | exact Jbn Us.h rfl rfl | exact Jbo rfl rfl | exact Jaa rfl | exact Jab rfl | exact Jad rfl rfl | exact Jae rfl rfl | exact Jah rfl rfl | exact Jai rfl rfl | exact Jaj rfl | exact Jal rfl rfl | exact Jat rfl rfl | exact Jav Us.h rfl rfl); exact rfl) | refine Jch rfl rfl rfl ?_ | refine Jci rfl rfl rfl rfl rfl ?_ | refine Jcj rfl rfl rfl rfl ?_ | refine Jcg (Pu_loadAgg (cs := dskC r sng skg stg) Us.h rfl Sz.h rfl (fun _ e j u hu => by rw [e, add0, hbg.cell]; exact hu)) rfl ?_ | refine Jcg (Pu_loadAgg (cs := dskC r snw skw stw) Us.h rfl Sz.h rfl (fun _ e j u hu => by rw [e, add0, hbw.cell]; exact hu)) rfl ?_ | (refine Jcs rfl rfl (fun hb => ?_) (fun hb => ?_) <;> (try (exfalso; omega))) | (refine Jct rfl rfl (fun hb => ?_) (fun hb => ?_) <;> (try (exfalso; omega))) | refine Jcr rfl rfl (fun hb => ?_) (fun hb => ?_) | (refine Jcx rfl (fun hb => ?_) (fun hb => ?_) <;> (try (exfalso; omega))) | (refine Jcy rfl (fun hb => ?_) (fun hb => ?_) <;> (try (exfalso; omega))) | refine Jcz rfl (fun hb => ?_) (fun hb => ?_))
  refine TL_call rfl en16 (eqDisk_c hgd.rd hw.rd hrt) rfl rfl ?_
  rintro _ w15 ⟨rfl, e⟩
  replace hbk := hbk.ext e
  replace hbo := hbo.ext e
  replace hw := hw.ext e
  replace hbw := hbw.ext e
  replace hx := hx.ext e
  replace hbx := hbx.ext e
  replace hx2 := hx2.ext e
  replace hbp := hbp.ext e
  replace hgd := hgd.ext e
  replace hbg := hbg.ext e
  replace E := E.ext e
  have z15 := e.size
  clear e
  repeat' (first | apply Jbq | apply Jbr | apply Jbs | apply Jbt | apply Jbu | apply Jbv | apply Jbw | apply Jbx | apply Jby | apply Jbz | apply Jca | apply Jcb | apply Jcc | (refine Jcd rfl ?_) | (refine Jce rfl ?_) | (refine Jcf rfl ?_) | (apply Jcg; (first | exact Jbm rfl rfl | exact Jbn Us.h rfl rfl | exact Jbo rfl rfl | exact Jaa rfl | exact Jab rfl | exact Jad rfl rfl | exact Jae rfl rfl | exact Jah rfl rfl | exact Jai rfl rfl | exact Jaj rfl | exact Jal rfl rfl | exact Jat rfl rfl | exact Jav Us.h rfl rfl); exact rfl) | refine Jch rfl rfl rfl ?_ | refine Jci rfl rfl rfl rfl rfl ?_ | refine Jcj rfl rfl rfl rfl ?_ | (refine Jcs rfl rfl (fun hb => ?_) (fun hb => ?_) <;> (try (exfalso; omega))) | (refine Jct rfl rfl (fun hb => ?_) (fun hb => ?_) <;> (try (exfalso; omega))) | refine Jcr rfl rfl (fun hb => ?_) (fun hb => ?_) | (refine Jcx rfl (fun hb => ?_) (fun hb => ?_) <;> (try (exfalso; omega))) | (refine Jcy rfl (fun hb => ?_) (fun hb => ?_) <;> (try (exfalso; omega))) | refine Jcz rfl (fun hb => ?_) (fun hb => ?_))
  have hA : ∀ w', Ext w15 w' → ∀ j u, (dskC d sn sk st)[j]? = some u → w'.cell? ((⟨g, 0, none⟩ : Addr).add j) = some u := fun w' e j u hu => by rw [add0]; exact e.cell ((hbk.cell j).trans hu)
  have hB : ∀ w', Ext w15 w' → ∀ j u, (dskC d sn2 sk2 st2)[j]? = some u → w'.cell? ((⟨ghbx, 0, none⟩ : Addr).add j) = some u := fun w' e j u hu => by rw [add0]; exact e.cell ((hbx.cell j).trans hu)
  refine TC_any mixed rfl ?_
  intro w16 hE hzw16
  (refine Jco 0 rfl (by kernel_rfl) (by kernel_rfl) (by kernel_rfl) (fun _ _ _ h => h) hE (by (first | exact Pu_loadAgg (cs := dskC d sn2 sk2 st2) Us.h rfl Sz.h rfl hB | exact Pu_loadAgg (cs := dskC d sn sk st) Us.h rfl Sz.h rfl hA | exact Jaa rfl | exact Jab rfl | exact Jad rfl rfl | exact Jae rfl rfl | exact Jah rfl rfl | exact Jai rfl rfl | exact Jaj rfl | exact Jal rfl rfl | exact Jat rfl rfl | exact Jav Us.h rfl rfl)) rfl ?_; refine Jco 1 rfl (by kernel_rfl) (by kernel_rfl) (by kernel_rfl) (fun _ _ _ h => h) hE (by (first | exact Pu_loadAgg (cs := dskC d sn2 sk2 st2) Us.h rfl Sz.h rfl hB | exact Pu_loadAgg (cs := dskC d sn sk st) Us.h rfl Sz.h rfl hA | exact Jaa rfl | exact Jab rfl | exact Jad rfl rfl | exact Jae rfl rfl | exact Jah rfl rfl | exact Jai rfl rfl | exact Jaj rfl | exact Jal rfl rfl | exact Jat rfl rfl | exact Jav Us.h rfl rfl)) rfl ?_)
  refine TA_one 2 (by kernel_rfl) rfl ?_
  refine TL_call rfl en13 (toDisk_c (hp.ext (E.ext hE)) hd) rfl rfl ?_
  rintro _ w17 ⟨sn3, sk3, st3, rfl, e3, ho3⟩
  replace hE := hE.ext e3
  refine Jbq (TN_any hE ?_)
  refine TA_one 3 (by kernel_rfl) rfl ?_
  refine TL_call rfl en16 (eqDisk_c (hx.rd.ext hE) ho3 hd) rfl rfl ?_
  rintro _ w18 ⟨rfl, e4⟩
  replace hE := hE.ext e4
  refine Jbq (TN_any hE ?_)
  (refine Jco 4 rfl (by kernel_rfl) (by kernel_rfl) (by kernel_rfl) (fun _ _ _ h => h) hE (by (first | exact Jaa rfl | exact Jab rfl | exact Jad rfl rfl | exact Jae rfl rfl | exact Jah rfl rfl | exact Jai rfl rfl | exact Jaj rfl | exact Jal rfl rfl | exact Jat rfl rfl | exact Jav Us.h rfl rfl)) rfl ?_)
  refine TA_done (by kernel_rfl) ?_
  clear hA hB ho3 e3 e4
  replace hbk := hbk.ext hE
  replace hbo := hbo.ext hE
  replace hw := hw.ext hE
  replace hbw := hbw.ext hE
  replace hx := hx.ext hE
  replace hbx := hbx.ext hE
  replace hx2 := hx2.ext hE
  replace hbp := hbp.ext hE
  replace hgd := hgd.ext hE
  replace hbg := hbg.ext hE
  replace E := E.ext hE
  have z18 := hE.size
  clear hE
  repeat' (first | apply Jbq | apply Jbr | apply Jbs | apply Jbt | apply Jbu | apply Jbv | apply Jbw | apply Jbx | apply Jby | apply Jbz | apply Jca | apply Jcb | apply Jcc | (refine Jcd rfl ?_) | (refine Jce rfl ?_) | (refine Jcf rfl ?_) | (apply Jcg; (first | exact Jbm rfl rfl | exact Jbn Us.h rfl rfl | exact Jbo rfl rfl | exact Jaa rfl | exact Jab rfl | exact Jad rfl rfl | exact Jae rfl rfl | exact Jah rfl rfl | exact Jai rfl rfl | exact Jaj rfl | exact Jal rfl rfl | exact Jat rfl rfl | exact Jav Us.h rfl rfl); exact rfl) | refine Jch rfl rfl rfl ?_ | refine Jci rfl rfl rfl rfl rfl ?_ | refine Jcj rfl rfl rfl rfl ?_ | (refine Jcs rfl rfl (fun hb => ?_) (fun hb => ?_) <;> (try (exfalso; omega))) | (refine Jct rfl rfl (fun hb => ?_) (fun hb => ?_) <;> (try (exfalso; omega))) | refine Jcr rfl rfl (fun hb => ?_) (fun hb => ?_) | (refine Jcx rfl (fun hb => ?_) (fun hb => ?_) <;> (try (exfalso; omega))) | (refine Jcy rfl (fun hb => ?_) (fun hb => ?_) <;> (try (exfalso; omega))) | refine Jcz rfl (fun hb => ?_) (fun hb => ?_))
  have hA : ∀ w', Ext w18 w' → ∀ j u, (opC o vo)[j]? = some u → w'.cell? ((⟨go, 0, none⟩ : Addr).add j) = some u := fun w' e j u hu => by rw [add0]; exact e.cell ((hbo.cell j).trans hu)
  have hB : ∀ w', Ext w18 w' → ∀ j u, (opC o vo2)[j]? = some u → w'.cell? ((⟨ghbp, 0, none⟩ : Addr).add j) = some u := fun w' e j u hu => by rw [add0]; exact e.cell ((hbp.cell j).trans hu)
  refine TC_any mixed rfl ?_
  intro w19 hE hzw19
  (refine Jco 0 rfl (by kernel_rfl) (by kernel_rfl) (by kernel_rfl) (fun _ _ _ h => h) hE (by (first | exact Pu_loadAgg (cs := opC o vo2) Us.h rfl Sz.h rfl hB | exact Pu_loadAgg (cs := opC o vo) Us.h rfl Sz.h rfl hA | exact Jaa rfl | exact Jab rfl | exact Jad rfl rfl | exact Jae rfl rfl | exact Jah rfl rfl | exact Jai rfl rfl | exact Jaj rfl | exact Jal rfl rfl | exact Jat rfl rfl | exact Jav Us.h rfl rfl)) rfl ?_; refine Jco 1 rfl (by kernel_rfl) (by kernel_rfl) (by kernel_rfl) (fun _ _ _ h => h) hE (by (first | exact Pu_loadAgg (cs := opC o vo2) Us.h rfl Sz.h rfl hB | exact Pu_loadAgg (cs := opC o vo) Us.h rfl Sz.h rfl hA | exact Jaa rfl | exact Jab rfl | exact Jad rfl rfl | exact Jae rfl rfl | exact Jah rfl rfl | exact Jai rfl rfl | exact Jaj rfl | exact Jal rfl rfl | exact Jat rfl rfl | exact Jav Us.h rfl rfl)) rfl ?_)
  refine TA_one 2 (by kernel_rfl) rfl ?_
  refine TL_call rfl en23 (toOp_c (ho.ext (E.ext hE)) hol) rfl rfl ?_
  rintro _ w20 ⟨vo3, rfl, e3, ho3⟩
  replace hE := hE.ext e3
  refine Jbq (TN_any hE ?_)
  refine TA_one 3 (by kernel_rfl) rfl ?_
  refine TL_call rfl en25 (eqOp_c (hx2.rd.ext hE) ho3.rd hol) rfl rfl ?_
  rintro _ w21 ⟨rfl, e4⟩
  replace hE := hE.ext e4
  refine Jbq (TN_any hE ?_)
  (refine Jco 4 rfl (by kernel_rfl) (by kernel_rfl) (by kernel_rfl) (fun _ _ _ h => h) hE (by (first | exact Jaa rfl | exact Jab rfl | exact Jad rfl rfl | exact Jae rfl rfl | exact Jah rfl rfl | exact Jai rfl rfl | exact Jaj rfl | exact Jal rfl rfl | exact Jat rfl rfl | exact Jav Us.h rfl rfl)) rfl ?_)
  refine TA_done (by kernel_rfl) ?_
  clear hA hB ho3 e3 e4
  replace hbk := hbk.ext hE
  replace hbo := hbo.ext hE
  replace hw := hw.ext hE
  replace hbw := hbw.ext hE
  replace hx := hx.ext hE
  replace hbx := hbx.ext hE
  replace hx2 := hx2.ext hE
  replace hbp := hbp.ext hE
  replace hgd := hgd.ext hE
  replace hbg := hbg.ext hE
  replace E := E.ext hE
  have z21 := hE.size
  clear hE
  repeat' (first | apply Jbq | apply Jbr | apply Jbs | apply Jbt | apply Jbu | apply Jbv | apply Jbw | apply Jbx | apply Jby | apply Jbz | apply Jca | apply Jcb | apply Jcc | (refine Jcd rfl ?_) | (refine Jce rfl ?_) | (refine Jcf rfl ?_) | (apply Jcg; (first | exact Jbm rfl rfl | exact Jbn Us.h rfl rfl | exact Jbo rfl rfl | exact Jaa rfl | exact Jab rfl | exact Jad rfl rfl | exact Jae rfl rfl | exact Jah rfl rfl | exact Jai rfl rfl | exact Jaj rfl | exact Jal rfl rfl | exact Jat rfl rfl | exact Jav Us.h rfl rfl); exact rfl) | refine Jch rfl rfl rfl ?_ | refine Jci rfl rfl rfl rfl rfl ?_ | refine Jcj rfl rfl rfl rfl ?_ | refine Jcg (Pu_loadAgg (cs := dskC d sn2 sk2 st2) Us.h rfl Sz.h rfl (fun _ e j u hu => by rw [e, add0, hbx.cell]; exact hu)) rfl ?_ | (refine Jcs rfl rfl (fun hb => ?_) (fun hb => ?_) <;> (try (exfalso; omega))) | (refine Jct rfl rfl (fun hb => ?_) (fun hb => ?_) <;> (try (exfalso; omega))) | refine Jcr rfl rfl (fun hb => ?_) (fun hb => ?_) | (refine Jcx rfl (fun hb => ?_) (fun hb => ?_) <;> (try (exfalso; omega))) | (refine Jcy rfl (fun hb => ?_) (fun hb => ?_) <;> (try (exfalso; omega))) | refine Jcz rfl (fun hb => ?_) (fun hb => ?_))
  refine TL_call rfl en18 (markDisk_k hx hd (by omega) (by omega)) rfl rfl ?_
  rintro _ w22 ⟨rfl, c, _⟩
  obtain ⟨_, _, _, _, _, hc0, hc1⟩ := cntD_le hd
  obtain ⟨_, _, _, _, _, hq0, hq1⟩ := cntD_le hrt
  clear hx hbx
  replace hbk := hbk.ch c (by simp only [Iv]; omega)
  replace hbo := hbo.ch c (by simp only [Iv]; omega)
  replace hw := hw.ch c (by intro k _ _; simp only [Iv]; omega)
  replace hbw := hbw.ch c (by simp only [Iv]; omega)
  replace hx2 := hx2.ch c (by intro k _ _; simp only [Iv]; omega)
  replace hbp := hbp.ch c (by simp only [Iv]; omega)
  replace hgd := hgd.ch c (by intro k _ _; simp only [Iv]; omega)
  replace hbg := hbg.ch c (by simp only [Iv]; omega)
  replace E : Ext W _ := Ext.then_iv E c (by omega)
  have z22 := c.size
  clear c
  repeat' (first | apply Jbq | apply Jbr | apply Jbs | apply Jbt | apply Jbu | apply Jbv | apply Jbw | apply Jbx | apply Jby | apply Jbz | apply Jca | apply Jcb | apply Jcc | (refine Jcd rfl ?_) | (refine Jce rfl ?_) | (refine Jcf rfl ?_) | (apply Jcg; (first | exact Jbm rfl rfl | exact Jbn Us.h rfl rfl | exact Jbo rfl rfl | exact Jaa rfl | exact Jab rfl | exact Jad rfl rfl | exact Jae rfl rfl | exact Jah rfl rfl | exact Jai rfl rfl | exact Jaj rfl | exact Jal rfl rfl | exact Jat rfl rfl | exact Jav Us.h rfl rfl); exact rfl) | refine Jch rfl rfl rfl ?_ | refine Jci rfl rfl rfl rfl rfl ?_ | refine Jcj rfl rfl rfl rfl ?_ | refine Jcg (Pu_loadAgg (cs := opC o vo2) Us.h rfl Sz.h rfl (fun _ e j u hu => by rw [e, add0, hbp.cell]; exact hu)) rfl ?_ | (refine Jcs rfl rfl (fun hb => ?_) (fun hb => ?_) <;> (try (exfalso; omega))) | (refine Jct rfl rfl (fun hb => ?_) (fun hb => ?_) <;> (try (exfalso; omega))) | refine Jcr rfl rfl (fun hb => ?_) (fun hb => ?_) | (refine Jcx rfl (fun hb => ?_) (fun hb => ?_) <;> (try (exfalso; omega))) | (refine Jcy rfl (fun hb => ?_) (fun hb => ?_) <;> (try (exfalso; omega))) | refine Jcz rfl (fun hb => ?_) (fun hb => ?_))
  refine TL_call rfl en26 (markOp_k hx2 hol (by omega) (by omega)) rfl rfl ?_
  rintro _ w23 ⟨rfl, c⟩
  clear hx2 hbp
  replace hbk := hbk.ch c (by simp only [Iv]; omega)
  replace hbo := hbo.ch c (by simp only [Iv]; omega)
  replace hw := hw.ch c (by intro k _ _; simp only [Iv]; omega)
  replace hbw := hbw.ch c (by simp only [Iv]; omega)
  replace hgd := hgd.ch c (by intro k _ _; simp only [Iv]; omega)
  replace hbg := hbg.ch c (by simp only [Iv]; omega)
  replace E : Ext W _ := Ext.then_iv E c (by omega)
  have z23 := c.size
  clear c
  repeat' (first | apply Jbq | apply Jbr | apply Jbs | apply Jbt | apply Jbu | apply Jbv | apply Jbw | apply Jbx | apply Jby | apply Jbz | apply Jca | apply Jcb | apply Jcc | (refine Jcd rfl ?_) | (refine Jce rfl ?_) | (refine Jcf rfl ?_) | (apply Jcg; (first | exact Jbm rfl rfl | exact Jbn Us.h rfl rfl | exact Jbo rfl rfl | exact Jaa rfl | exact Jab rfl | exact Jad rfl rfl | exact Jae rfl rfl | exact Jah rfl rfl | exact Jai rfl rfl | exact Jaj rfl | exact Jal rfl rfl | exact Jat rfl rfl | exact Jav Us.h rfl rfl); exact rfl) | refine Jch rfl rfl rfl ?_ | refine Jci rfl rfl rfl rfl rfl ?_ | refine Jcj rfl rfl rfl rfl ?_ | refine Jcg (Pu_loadAgg (cs := dskC r sng skg stg) Us.h rfl Sz.h rfl (fun _ e j u hu => by rw [e, add0, hbg.cell]; exact hu)) rfl ?_ | refine Jcg (Pu_loadAgg (cs := dskC r snw skw stw) Us.h rfl Sz.h rfl (fun _ e j u hu => by rw [e, add0, hbw.cell]; exact hu)) rfl ?_ | (refine Jcs rfl rfl (fun hb => ?_) (fun hb => ?_) <;> (try (exfalso; omega))) | (refine Jct rfl rfl (fun hb => ?_) (fun hb => ?_) <;> (try (exfalso; omega))) | refine Jcr rfl rfl (fun hb => ?_) (fun hb => ?_) | (refine Jcx rfl (fun hb => ?_) (fun hb => ?_) <;> (try (exfalso; omega))) | (refine Jcy rfl (fun hb => ?_) (fun hb => ?_) <;> (try (exfalso; omega))) | refine Jcz rfl (fun hb => ?_) (fun hb => ?_))
  refine TL_call rfl en16 (eqDisk_c hgd.rd hw.rd hrt) rfl rfl ?_
  rintro _ w24 ⟨rfl, e⟩
  replace hbk := hbk.ext e
  replace hbo := hbo.ext e
  replace hw := hw.ext e
  replace hbw := hbw.ext e
  replace hgd := hgd.ext e
  replace hbg := hbg.ext e
  replace E := E.ext e
  have z24 := e.size
  clear e
  repeat' (first | apply Jbq | apply Jbr | apply Jbs | apply Jbt | apply Jbu | apply Jbv | apply Jbw | apply Jbx | apply Jby | apply Jbz | apply Jca | apply Jcb | apply Jcc | (refine Jcd rfl ?_) | (refine Jce rfl ?_) | (refine Jcf rfl ?_) | (apply Jcg; (first | exact Jbm rfl rfl | exact Jbn Us.h rfl rfl | exact Jbo rfl rfl | exact Jaa rfl | exact Jab rfl | exact Jad rfl rfl | exact Jae rfl rfl | exact Jah rfl rfl | exact Jai rfl rfl | exact Jaj rfl | exact Jal rfl rfl | exact Jat rfl rfl | exact Jav Us.h rfl rfl); exact rfl) | refine Jch rfl rfl rfl ?_ | refine Jci rfl rfl rfl rfl rfl ?_ | refine Jcj rfl rfl rfl rfl ?_ | refine Jcg (Pu_loadAgg (cs := dskC r sng skg stg) Us.h rfl Sz.h rfl (fun _ e j u hu => by rw [e, add0, hbg.cell]; exact hu)) rfl ?_ | (refine Jcs rfl rfl (fun hb => ?_) (fun hb => ?_) <;> (try (exfalso; omega))) | (refine Jct rfl rfl (fun hb => ?_) (fun hb => ?_) <;> (try (exfalso; omega))) | refine Jcr rfl rfl (fun hb => ?_) (fun hb => ?_) | (refine Jcx rfl (fun hb => ?_) (fun hb => ?_) <;> (try (exfalso; omega))) | (refine Jcy rfl (fun hb => ?_) (fun hb => ?_) <;> (try (exfalso; omega))) | refine Jcz rfl (fun hb => ?_) (fun hb => ?_))
  refine TL_call rfl en18 (markDisk_k hgd hrt (by omega) (by omega)) rfl rfl ?_
  rintro _ w25 ⟨rfl, c, hgm⟩
  clear hgd
  replace hbk := hbk.ch c (by simp only [Iv]; omega)
  replace hbo := hbo.ch c (by simp only [Iv]; omega)
  replace hw := hw.ch c (by intro k _ _; simp only [Iv]; omega)
  replace hbw := hbw.ch c (by simp only [Iv]; omega)
  replace hbg := hbg.ch c (by simp only [Iv]; omega)
  replace E : Ext W _ := Ext.then_iv E c (by omega)
  have z25 := c.size
  clear c
  repeat' (first | apply Jbq | apply Jbr | apply Jbs | apply Jbt | apply Jbu | apply Jbv | apply Jbw | apply Jbx | apply Jby | apply Jbz | apply Jca | apply Jcb | apply Jcc | (refine Jcd rfl ?_) | (refine Jce rfl ?_) | (refine Jcf rfl ?_) | (apply Jcg; (first | exact Jbm rfl rfl | exact Jbn Us.h rfl rfl | exact Jbo rfl rfl | exact Jaa rfl | exact Jab rfl | exact Jad rfl rfl | exact Jae rfl rfl | exact Jah rfl rfl | exact Jai rfl rfl | exact Jaj rfl | exact Jal rfl rfl | exact Jat rfl rfl | exact Jav Us.h rfl rfl); exact rfl) | refine Jch rfl rfl rfl ?_ | refine Jci rfl rfl rfl rfl rfl ?_ | refine Jcj rfl rfl rfl rfl ?_ | refine Jcg (Pu_loadAgg (cs := dskC r sng skg stg) Us.h rfl Sz.h rfl (fun _ e j u hu => by rw [e, add0, hbg.cell]; exact hu)) rfl ?_ | (refine Jcs rfl rfl (fun hb => ?_) (fun hb => ?_) <;> (try (exfalso; omega))) | (refine Jct rfl rfl (fun hb => ?_) (fun hb => ?_) <;> (try (exfalso; omega))) | refine Jcr rfl rfl (fun hb => ?_) (fun hb => ?_) | (refine Jcx rfl (fun hb => ?_) (fun hb => ?_) <;> (try (exfalso; omega))) | (refine Jcy rfl (fun hb => ?_) (fun hb => ?_) <;> (try (exfalso; omega))) | refine Jcz rfl (fun hb => ?_) (fun hb => ?_))
  refine TL_call rfl en20 (heldDisk_k hgm hrt (by omega) (by omega)) rfl rfl ?_
  rintro _ w26 ⟨rfl, e⟩
  replace hbk := hbk.ext e
  replace hbo := hbo.ext e
  replace hw := hw.ext e
  replace hbw := hbw.ext e
  replace hbg := hbg.ext e
  replace hgm := hgm.ext e
  replace E := E.ext e
  have z26 := e.size
  clear e
  repeat' (first | apply Jbq | apply Jbr | apply Jbt | apply Jbu | apply Jbv | apply Jbw | apply Jbx | apply Jby | apply Jbz | apply Jca | apply Jcb | apply Jcc | (refine Jcd rfl ?_) | (refine Jce rfl ?_) | (refine Jcf rfl ?_) | (apply Jcg; (first | exact Jbm rfl rfl | exact Jbn Us.h rfl rfl | exact Jbo rfl rfl | exact Jaa rfl | exact Jab rfl | exact Jad rfl rfl | exact Jae rfl rfl | exact Jah rfl rfl | exact Jai rfl rfl | exact Jaj rfl | exact Jal rfl rfl | exact Jat rfl rfl | exact Jav Us.h rfl rfl); exact rfl) | refine Jch rfl rfl rfl ?_ | refine Jci rfl rfl rfl rfl rfl ?_ | refine Jcj rfl rfl rfl rfl ?_ | (refine Jcs rfl rfl (fun hb => ?_) (fun hb => ?_) <;> (try (exfalso; omega))) | (refine Jct rfl rfl (fun hb => ?_) (fun hb => ?_) <;> (try (exfalso; omega))) | refine Jcr rfl rfl (fun hb => ?_) (fun hb => ?_) | (refine Jcx rfl (fun hb => ?_) (fun hb => ?_) <;> (try (exfalso; omega))) | (refine Jcy rfl (fun hb => ?_) (fun hb => ?_) <;> (try (exfalso; omega))) | refine Jcz rfl (fun hb => ?_) (fun hb => ?_))
  apply Jbs
  repeat' (first | apply Jbq | apply Jbr | apply Jbt | apply Jbu | apply Jbv | apply Jbw | apply Jbx | apply Jby | apply Jbz | apply Jca | apply Jcb | apply Jcc | (refine Jcd rfl ?_) | (refine Jce rfl ?_) | (refine Jcf rfl ?_) | (apply Jcg; (first | exact Jbm rfl rfl | exact Jbn Us.h rfl rfl | exact Jbo rfl rfl | exact Jaa rfl | exact Jab rfl | exact Jad rfl rfl | exact Jae rfl rfl | exact Jah rfl rfl | exact Jai rfl rfl | exact Jaj rfl | exact Jal rfl rfl | exact Jat rfl rfl | exact Jav Us.h rfl rfl); exact rfl) | refine Jch rfl rfl rfl ?_ | refine Jci rfl rfl rfl rfl rfl ?_ | refine Jcj rfl rfl rfl rfl ?_ | (refine Jcs rfl rfl (fun hb => ?_) (fun hb => ?_) <;> (try (exfalso; omega))) | (refine Jct rfl rfl (fun hb => ?_) (fun hb => ?_) <;> (try (exfalso; omega))) | refine Jcr rfl rfl (fun hb => ?_) (fun hb => ?_) | (refine Jcx rfl (fun hb => ?_) (fun hb => ?_) <;> (try (exfalso; omega))) | (refine Jcy rfl (fun hb => ?_) (fun hb => ?_) <;> (try (exfalso; omega))) | refine Jcz rfl (fun hb => ?_) (fun hb => ?_))
  apply Jbs
  repeat' (first | apply Jbq | apply Jbr | apply Jbt | apply Jbu | apply Jbv | apply Jbw | apply Jbx | apply Jby | apply Jbz | apply Jca | apply Jcb | apply Jcc | (refine Jcd rfl ?_) | (refine Jce rfl ?_) | (refine Jcf rfl ?_) | (apply Jcg; (first | exact Jbm rfl rfl | exact Jbn Us.h rfl rfl | exact Jbo rfl rfl | exact Jaa rfl | exact Jab rfl | exact Jad rfl rfl | exact Jae rfl rfl | exact Jah rfl rfl | exact Jai rfl rfl | exact Jaj rfl | exact Jal rfl rfl | exact Jat rfl rfl | exact Jav Us.h rfl rfl); exact rfl) | refine Jch rfl rfl rfl ?_ | refine Jci rfl rfl rfl rfl rfl ?_ | refine Jcj rfl rfl rfl rfl ?_ | (refine Jcs rfl rfl (fun hb => ?_) (fun hb => ?_) <;> (try (exfalso; omega))) | (refine Jct rfl rfl (fun hb => ?_) (fun hb => ?_) <;> (try (exfalso; omega))) | refine Jcr rfl rfl (fun hb => ?_) (fun hb => ?_) | (refine Jcx rfl (fun hb => ?_) (fun hb => ?_) <;> (try (exfalso; omega))) | (refine Jcy rfl (fun hb => ?_) (fun hb => ?_) <;> (try (exfalso; omega))) | refine Jcz rfl (fun hb => ?_) (fun hb => ?_))
  apply Jbs
  repeat' (first | apply Jbq | apply Jbr | apply Jbt | apply Jbu | apply Jbv | apply Jbw | apply Jbx | apply Jby | apply Jbz | apply Jca | apply Jcb | apply Jcc | (refine Jcd rfl ?_) | (refine Jce rfl ?_) | (refine Jcf rfl ?_) | (apply Jcg; (first | exact Jbm rfl rfl | exact Jbn Us.h rfl rfl | exact Jbo rfl rfl | exact Jaa rfl | exact Jab rfl | exact Jad rfl rfl | exact Jae rfl rfl | exact Jah rfl rfl | exact Jai rfl rfl | exact Jaj rfl | exact Jal rfl rfl | exact Jat rfl rfl | exact Jav Us.h rfl rfl); exact rfl) | refine Jch rfl rfl rfl ?_ | refine Jci rfl rfl rfl rfl rfl ?_ | refine Jcj rfl rfl rfl rfl ?_ | (refine Jcs rfl rfl (fun hb => ?_) (fun hb => ?_) <;> (try (exfalso; omega))) | (refine Jct rfl rfl (fun hb => ?_) (fun hb => ?_) <;> (try (exfalso; omega))) | refine Jcr rfl rfl (fun hb => ?_) (fun hb => ?_) | (refine Jcx rfl (fun hb => ?_) (fun hb => ?_) <;> (try (exfalso; omega))) | (refine Jcy rfl (fun hb => ?_) (fun hb => ?_) <;> (try (exfalso; omega))) | refine Jcz rfl (fun hb => ?_) (fun hb => ?_))
  apply Jbs
  repeat' (first | apply Jbq | apply Jbr | apply Jbt | apply Jbu | apply Jbv | apply Jbw | apply Jbx | apply Jby | apply Jbz | apply Jca | apply Jcb | apply Jcc | (refine Jcd rfl ?_) | (refine Jce rfl ?_) | (refine Jcf rfl ?_) | (apply Jcg; (first | exact Jbm rfl rfl | exact Jbn Us.h rfl rfl | exact Jbo rfl rfl | exact Jaa rfl | exact Jab rfl | exact Jad rfl rfl | exact Jae rfl rfl | exact Jah rfl rfl | exact Jai rfl rfl | exact Jaj rfl | exact Jal rfl rfl | exact Jat rfl rfl | exact Jav Us.h rfl rfl); exact rfl) | refine Jch rfl rfl rfl ?_ | refine Jci rfl rfl rfl rfl rfl ?_ | refine Jcj rfl rfl rfl rfl ?_ | (refine Jcs rfl rfl (fun hb => ?_) (fun hb => ?_) <;> (try (exfalso; omega))) | (refine Jct rfl rfl (fun hb => ?_) (fun hb => ?_) <;> (try (exfalso; omega))) | refine Jcr rfl rfl (fun hb => ?_) (fun hb => ?_) | (refine Jcx rfl (fun hb => ?_) (fun hb => ?_) <;> (try (exfalso; omega))) | (refine Jcy rfl (fun hb => ?_) (fun hb => ?_) <;> (try (exfalso; omega))) | refine Jcz rfl (fun hb => ?_) (fun hb => ?_))
  have hA : ∀ w', Ext w26 w' → ∀ j u, (dskC d sn sk st)[j]? = some u → w'.cell? ((⟨g, 0, none⟩ : Addr).add j) = some u := fun w' e j u hu => by rw [add0]; exact e.cell ((hbk.cell j).trans hu)
  have hAo : ∀ w', Ext w26 w' → ∀ j u, (opC o vo)[j]? = some u → w'.cell? ((⟨go, 0, none⟩ : Addr).add j) = some u := fun w' e j u hu => by rw [add0]; exact e.cell ((hbo.cell j).trans hu)
  refine TC_join (ι := Nat × Nat × Nat × Value × Value × Value) (fun x => [(2, .pointer (some ⟨g, 0, none⟩)), (3, .pointer (some ⟨go, 0, none⟩)), (6, .pointer (some ⟨ghbw, 0, none⟩)), (7, I (pDo d o).2), (10, .pointer (some ⟨ghbg, 0, none⟩)), (13, I (1 + cntD r)), (15, .pointer (some ⟨x.1, 0, none⟩)), (16, I (pDo d o).2)]) (fun x w' => Ext w26 w' ∧ (w26.heap.size ≤ x.2.1 ∧ x.2.2.1 ≤ w'.heap.size ∧ w26.heap.size ≤ x.1 ∧ x.1 < w'.heap.size ∧ (x.1 < x.2.1 ∨ x.2.2.1 ≤ x.1)) ∧ Blk w' x.1 33 (dskC r x.2.2.2.1 x.2.2.2.2.1 x.2.2.2.2.2) ∧ ODk w' x.2.1 x.2.2.1 r x.2.2.2.1 x.2.2.2.2.1 x.2.2.2.2.2) ?_ ?_
  · repeat' (first | apply Jbq | apply Jbr | apply Jbs | apply Jbt | apply Jbu | apply Jbv | apply Jbw | apply Jbx | apply Jby | apply Jbz | apply Jca | apply Jcb | apply Jcc | (refine Jcd rfl ?_) | (refine Jce rfl ?_) | (refine Jcf rfl ?_) | (apply Jcg; (first | exact Jaa rfl | exact Jab rfl | exact Jad rfl rfl | exact Jae rfl rfl | exact Jah rfl rfl | exact Jai rfl rfl | exact Jaj rfl | exact Jal rfl rfl | exact Jat rfl rfl | exact Jav Us.h rfl rfl); exact rfl) | refine Jch rfl rfl rfl ?_ | refine Jci rfl rfl rfl rfl rfl ?_ | refine Jcj rfl rfl rfl rfl ?_)
    refine TC_any mixed rfl ?_
    intro wa hE hza
    have za := hE.size
    (refine Jco 0 rfl (by kernel_rfl) (by kernel_rfl) (by kernel_rfl) (fun _ _ _ h => h) hE (by (first | exact Pu_loadAgg (cs := dskC d sn sk st) Us.h rfl Sz.h rfl hA | exact Pu_loadAgg (cs := opC o vo) Us.h rfl Sz.h rfl hAo | exact Jaa rfl | exact Jab rfl | exact Jad rfl rfl | exact Jae rfl rfl | exact Jah rfl rfl | exact Jai rfl rfl | exact Jaj rfl | exact Jal rfl rfl | exact Jat rfl rfl | exact Jav Us.h rfl rfl)) rfl ?_; refine Jco 2 rfl (by kernel_rfl) (by kernel_rfl) (by kernel_rfl) (fun _ _ _ h => h) hE (by (first | exact Pu_loadAgg (cs := dskC d sn sk st) Us.h rfl Sz.h rfl hA | exact Pu_loadAgg (cs := opC o vo) Us.h rfl Sz.h rfl hAo | exact Jaa rfl | exact Jab rfl | exact Jad rfl rfl | exact Jae rfl rfl | exact Jah rfl rfl | exact Jai rfl rfl | exact Jaj rfl | exact Jal rfl rfl | exact Jat rfl rfl | exact Jav Us.h rfl rfl)) rfl ?_)
    refine TA_two 1 8 (by kernel_rfl) rfl rfl ?_ ?_
    · refine TL_call rfl en13 (toDisk_c (hp.ext (E.ext hE)) hd) rfl rfl ?_
      rintro _ wb1 ⟨sn1, sk1, st1, rfl, e, ho1⟩
      replace hE := hE.ext e
      have zwb1 := e.size
      clear e
      refine Jbq (TN_any hE ?_)
      refine TA_two 3 8 (by kernel_rfl) rfl rfl ?_ ?_
      · refine TL_call rfl en23 (toOp_c (ho.ext (E.ext hE)) hol) rfl rfl ?_
        rintro _ wb2 ⟨vo1, rfl, e, hp1⟩
        replace ho1 := ho1.ext e
        replace hE := hE.ext e
        have zwb2 := e.size
        clear e
        refine Jbq (TN_any hE ?_)
        refine TA_two 4 8 (by kernel_rfl) rfl rfl ?_ ?_
        · refine TL_call rfl en24 (implDiskDo_c ho1 hf hd hp1.rd hof) rfl rfl ?_
          rintro _ wb3 ⟨snh, skh, sth, rfl, e, hh⟩
          rw [← hr] at hh ⊢
          have onehh := hh.one
          replace ho1 := ho1.ext e
          replace hp1 := hp1.ext e
          replace hE := hE.ext e
          have zwb3 := e.size
          clear e
          refine Jbq (TN_any hE ?_)
          (refine Jco 5 rfl (by kernel_rfl) (by kernel_rfl) (by kernel_rfl) (fun _ _ _ h => h) hE (by (first | exact Jaa rfl | exact Jab rfl | exact Jad rfl rfl | exact Jae rfl rfl | exact Jah rfl rfl | exact Jai rfl rfl | exact Jaj rfl | exact Jal rfl rfl | exact Jat rfl rfl | exact Jav Us.h rfl rfl)) rfl ?_; refine Jco 6 rfl (by kernel_rfl) (by kernel_rfl) (by kernel_rfl) (fun _ _ _ h => h) hE (by (first | exact Jaa rfl | exact Jab rfl | exact Jad rfl rfl | exact Jae rfl rfl | exact Jah rfl rfl | exact Jai rfl rfl | exact Jaj rfl | exact Jal rfl rfl | exact Jat rfl rfl | exact Jav Us.h rfl rfl)) rfl ?_; refine Jco 7 rfl (by kernel_rfl) (by kernel_rfl) (by kernel_rfl) (fun _ _ _ h => h) hE (by (first | exact Jaa rfl | exact Jab rfl | exact Jad rfl rfl | exact Jae rfl rfl | exact Jah rfl rfl | exact Jai rfl rfl | exact Jaj rfl | exact Jal rfl rfl | exact Jat rfl rfl | exact Jav Us.h rfl rfl)) rfl ?_)
          refine TA_one 8 (by kernel_rfl) rfl ?_
          refine TL_alloc Zs.h rfl rfl ?_
          intro wb4 ghbh e hghbh hzhbh hbh
          replace ho1 := ho1.ext e
          replace hp1 := hp1.ext e
          replace hh := hh.ext e
          replace hE := hE.ext e
          have zwb4 := e.size
          clear e
          refine Jbq (TN_any hE ?_)
          refine TA_one 9 (by kernel_rfl) rfl ?_
          refine TL_storeAgg rfl rfl Sz.h onehh hbh rfl ?_
          clear hbh
          intro wbz c hzz hbh
          replace hE := Ext.then_iv hE c (by omega)
          replace hh := hh.ch c (by intro k _ _; simp only [Iv]; omega)
          refine Jbq (TN_any hE ?_)
          (refine Jco 10 rfl (by kernel_rfl) (by kernel_rfl) (by kernel_rfl) (fun _ _ _ h => h) hE (by (first | exact Jaa rfl | exact Jab rfl | exact Jad rfl rfl | exact Jae rfl rfl | exact Jah rfl rfl | exact Jai rfl rfl | exact Jaj rfl | exact Jal rfl rfl | exact Jat rfl rfl | exact Jav Us.h rfl rfl)) rfl ?_)
          refine TA_done (by kernel_rfl) ?_
          exact TN_join (ghbh, wb2.heap.size, wb3.heap.size, snh, skh, sth) (subEnv_cons rfl (subEnv_cons rfl (subEnv_cons rfl (subEnv_cons rfl (subEnv_cons rfl (subEnv_cons rfl (subEnv_cons rfl (subEnv_cons rfl (subEnv_nil _))))))))) ⟨hE, by simp only; exact ⟨by omega, by omega, by omega, by omega, by omega⟩, hbh, hh⟩
        · refine TL_alloc Zs.h rfl rfl ?_
          intro wb5 ghbh e hghbh hzhbh hbh
          replace ho1 := ho1.ext e
          replace hp1 := hp1.ext e
          replace hE := hE.ext e
          have zwb5 := e.size
          clear e
          refine Jbq (TN_any hE ?_)
          refine TA_one 4 (by kernel_rfl) rfl ?_
          refine TL_call rfl en24 (implDiskDo_c ho1 hf hd hp1.rd hof) rfl rfl ?_
          rintro _ wb6 ⟨snh, skh, sth, rfl, e, hh⟩
          rw [← hr] at hh ⊢
          have onehh := hh.one
          replace ho1 := ho1.ext e
          replace hp1 := hp1.ext e
          replace hbh := hbh.ext e
          replace hE := hE.ext e
          have zwb6 := e.size
          clear e
          refine Jbq (TN_any hE ?_)
          (refine Jco 5 rfl (by kernel_rfl) (by kernel_rfl) (by kernel_rfl) (fun _ _ _ h => h) hE (by (first | exact Jaa rfl | exact Jab rfl | exact Jad rfl rfl | exact Jae rfl rfl | exact Jah rfl rfl | exact Jai rfl rfl | exact Jaj rfl | exact Jal rfl rfl | exact Jat rfl rfl | exact Jav Us.h rfl rfl)) rfl ?_; refine Jco 6 rfl (by kernel_rfl) (by kernel_rfl) (by kernel_rfl) (fun _ _ _ h => h) hE (by (first | exact Jaa rfl | exact Jab rfl | exact Jad rfl rfl | exact Jae rfl rfl | exact Jah rfl rfl | exact Jai rfl rfl | exact Jaj rfl | exact Jal rfl rfl | exact Jat rfl rfl | exact Jav Us.h rfl rfl)) rfl ?_; refine Jco 7 rfl (by kernel_rfl) (by kernel_rfl) (by kernel_rfl) (fun _ _ _ h => h) hE (by (first | exact Jaa rfl | exact Jab rfl | exact Jad rfl rfl | exact Jae rfl rfl | exact Jah rfl rfl | exact Jai rfl rfl | exact Jaj rfl | exact Jal rfl rfl | exact Jat rfl rfl | exact Jav Us.h rfl rfl)) rfl ?_)
          refine TA_one 9 (by kernel_rfl) rfl ?_
          refine TL_storeAgg rfl rfl Sz.h onehh hbh rfl ?_
          clear hbh
          intro wbz c hzz hbh
          replace hE := Ext.then_iv hE c (by omega)
          replace hh := hh.ch c (by intro k _ _; simp only [Iv]; omega)
          refine Jbq (TN_any hE ?_)
          (refine Jco 10 rfl (by kernel_rfl) (by kernel_rfl) (by kernel_rfl) (fun _ _ _ h => h) hE (by (first | exact Jaa rfl | exact Jab rfl | exact Jad rfl rfl | exact Jae rfl rfl | exact Jah rfl rfl | exact Jai rfl rfl | exact Jaj rfl | exact Jal rfl rfl | exact Jat rfl rfl | exact Jav Us.h rfl rfl)) rfl ?_)
          refine TA_done (by kernel_rfl) ?_
          exact TN_join (ghbh, wb5.heap.size, wb6.heap.size, snh, skh, sth) (subEnv_cons rfl (subEnv_cons rfl (subEnv_cons rfl (subEnv_cons rfl (subEnv_cons rfl (subEnv_cons rfl (subEnv_cons rfl (subEnv_cons rfl (subEnv_nil _))))))))) ⟨hE, by simp only; exact ⟨by omega, by omega, by omega, by omega, by omega⟩, hbh, hh⟩
      · refine TL_alloc Zs.h rfl rfl ?_
        intro wb7 ghbh e hghbh hzhbh hbh
        replace ho1 := ho1.ext e
        replace hE := hE.ext e
        have zwb7 := e.size
        clear e
        refine Jbq (TN_any hE ?_)
        refine TA_one 3 (by kernel_rfl) rfl ?_
        refine TL_call rfl en23 (toOp_c (ho.ext (E.ext hE)) hol) rfl rfl ?_
        rintro _ wb8 ⟨vo1, rfl, e, hp1⟩
        replace ho1 := ho1.ext e
        replace hbh := hbh.ext e
        replace hE := hE.ext e
        have zwb8 := e.size
        clear e
        refine Jbq (TN_any hE ?_)
        refine TA_one 4 (by kernel_rfl) rfl ?_
        refine TL_call rfl en24 (implDiskDo_c ho1 hf hd hp1.rd hof) rfl rfl ?_
        rintro _ wb9 ⟨snh, skh, sth, rfl, e, hh⟩
        rw [← hr] at hh ⊢
        have onehh := hh.one
        replace ho1 := ho1.ext e
        replace hbh := hbh.ext e
        replace hp1 := hp1.ext e
        replace hE := hE.ext e
        have zwb9 := e.size
        clear e
        refine Jbq (TN_any hE ?_)
        (refine Jco 5 rfl (by kernel_rfl) (by kernel_rfl) (by kernel_rfl) (fun _ _ _ h => h) hE (by (first | exact Jaa rfl | exact Jab rfl | exact Jad rfl rfl | exact Jae rfl rfl | exact Jah rfl rfl | exact Jai rfl rfl | exact Jaj rfl | exact Jal rfl rfl | exact Jat rfl rfl | exact Jav Us.h rfl rfl)) rfl ?_; refine Jco 6 rfl (by kernel_rfl) (by kernel_rfl) (by kernel_rfl) (fun _ _ _ h => h) hE (by (first | exact Jaa rfl | exact Jab rfl | exact Jad rfl rfl | exact Jae rfl rfl | exact Jah rfl rfl | exact Jai rfl rfl | exact Jaj rfl | exact Jal rfl rfl | exact Jat rfl rfl | exact Jav Us.h rfl rfl)) rfl ?_; refine Jco 7 rfl (by kernel_rfl) (by kernel_rfl) (by kernel_rfl) (fun _ _ _ h => h) hE (by (first | exact Jaa rfl | exact Jab rfl | exact Jad rfl rfl | exact Jae rfl rfl | exact Jah rfl rfl | exact Jai rfl rfl | exact Jaj rfl | exact Jal rfl rfl | exact Jat rfl rfl | exact Jav Us.h rfl rfl)) rfl ?_)
        refine TA_one 9 (by kernel_rfl) rfl ?_
        refine TL_storeAgg rfl rfl Sz.h onehh hbh rfl ?_
        clear hbh
        intro wbz c hzz hbh
        replace hE := Ext.then_iv hE c (by omega)
        replace hh := hh.ch c (by intro k _ _; simp only [Iv]; omega)
        refine Jbq (TN_any hE ?_)
        (refine Jco 10 rfl (by kernel_rfl) (by kernel_rfl) (by kernel_rfl) (fun _ _ _ h => h) hE (by (first | exact Jaa rfl | exact Jab rfl | exact Jad rfl rfl | exact Jae rfl rfl | exact Jah rfl rfl | exact Jai rfl rfl | exact Jaj rfl | exact Jal rfl rfl | exact Jat rfl rfl | exact Jav Us.h rfl rfl)) rfl ?_)
        refine TA_done (by kernel_rfl) ?_
        exact TN_join (ghbh, wb8.heap.size, wb9.heap.size, snh, skh, sth) (subEnv_cons rfl (subEnv_cons rfl (subEnv_cons rfl (subEnv_cons rfl (subEnv_cons rfl (subEnv_cons rfl (subEnv_cons rfl (subEnv_cons rfl (subEnv_nil _))))))))) ⟨hE, by simp only; exact ⟨by omega, by omega, by omega, by omega, by omega⟩, hbh, hh⟩
    · refine TL_alloc Zs.h rfl rfl ?_
      intro wb10 ghbh e hghbh hzhbh hbh
      replace hE := hE.ext e
      have zwb10 := e.size
      clear e
      refine Jbq (TN_any hE ?_)
      refine TA_one 1 (by kernel_rfl) rfl ?_
      refine TL_call rfl en13 (toDisk_c (hp.ext (E.ext hE)) hd) rfl rfl ?_
      rintro _ wb11 ⟨sn1, sk1, st1, rfl, e, ho1⟩
      replace hbh := hbh.ext e
      replace hE := hE.ext e
      have zwb11 := e.size
      clear e
      refine Jbq (TN_any hE ?_)
      refine TA_one 3 (by kernel_rfl) rfl ?_
      refine TL_call rfl en23 (toOp_c (ho.ext (E.ext hE)) hol) rfl rfl ?_
      rintro _ wb12 ⟨vo1, rfl, e, hp1⟩
      replace hbh := hbh.ext e
      replace ho1 := ho1.ext e
      replace hE := hE.ext e
      have zwb12 := e.size
      clear e
      refine Jbq (TN_any hE ?_)
      refine TA_one 4 (by kernel_rfl) rfl ?_
      refine TL_call rfl en24 (implDiskDo_c ho1 hf hd hp1.rd hof) rfl rfl ?_
      rintro _ wb13 ⟨snh, skh, sth, rfl, e, hh⟩
      rw [← hr] at hh ⊢
      have onehh := hh.one
      replace hbh := hbh.ext e
      replace ho1 := ho1.ext e
      replace hp1 := hp1.ext e
      replace hE := hE.ext e
      have zwb13 := e.size
      clear e
      refine Jbq (TN_any hE ?_)
      (refine Jco 5 rfl (by kernel_rfl) (by kernel_rfl) (by kernel_rfl) (fun _ _ _ h => h) hE (by (first | exact Jaa rfl | exact Jab rfl | exact Jad rfl rfl | exact Jae rfl rfl | exact Jah rfl rfl | exact Jai rfl rfl | exact Jaj rfl | exact Jal rfl rfl | exact Jat rfl rfl | exact Jav Us.h rfl rfl)) rfl ?_; refine Jco 6 rfl (by kernel_rfl) (by kernel_rfl) (by kernel_rfl) (fun _ _ _ h => h) hE (by (first | exact Jaa rfl | exact Jab rfl | exact Jad rfl rfl | exact Jae rfl rfl | exact Jah rfl rfl | exact Jai rfl rfl | exact Jaj rfl | exact Jal rfl rfl | exact Jat rfl rfl | exact Jav Us.h rfl rfl)) rfl ?_; refine Jco 7 rfl (by kernel_rfl) (by kernel_rfl) (by kernel_rfl) (fun _ _ _ h => h) hE (by (first | exact Jaa rfl | exact Jab rfl | exact Jad rfl rfl | exact Jae rfl rfl | exact Jah rfl rfl | exact Jai rfl rfl | exact Jaj rfl | exact Jal rfl rfl | exact Jat rfl rfl | exact Jav Us.h rfl rfl)) rfl ?_)
      refine TA_one 9 (by kernel_rfl) rfl ?_
      refine TL_storeAgg rfl rfl Sz.h onehh hbh rfl ?_
      clear hbh
      intro wbz c hzz hbh
      replace hE := Ext.then_iv hE c (by omega)
      replace hh := hh.ch c (by intro k _ _; simp only [Iv]; omega)
      refine Jbq (TN_any hE ?_)
      (refine Jco 10 rfl (by kernel_rfl) (by kernel_rfl) (by kernel_rfl) (fun _ _ _ h => h) hE (by (first | exact Jaa rfl | exact Jab rfl | exact Jad rfl rfl | exact Jae rfl rfl | exact Jah rfl rfl | exact Jai rfl rfl | exact Jaj rfl | exact Jal rfl rfl | exact Jat rfl rfl | exact Jav Us.h rfl rfl)) rfl ?_)
      refine TA_done (by kernel_rfl) ?_
      exact TN_join (ghbh, wb12.heap.size, wb13.heap.size, snh, skh, sth) (subEnv_cons rfl (subEnv_cons rfl (subEnv_cons rfl (subEnv_cons rfl (subEnv_cons rfl (subEnv_cons rfl (subEnv_cons rfl (subEnv_cons rfl (subEnv_nil _))))))))) ⟨hE, by simp only; exact ⟨by omega, by omega, by omega, by omega, by omega⟩, hbh, hh⟩
  rintro ⟨ghbh, lwh, hih, snh, skh, sth⟩ w27 ⟨e, hlwh, hbh, hh⟩
  simp only at hlwh hbh hh
  clear hA hAo
  replace hbk := hbk.ext e
  replace hbo := hbo.ext e
  replace hw := hw.ext e
  replace hbw := hbw.ext e
  replace hbg := hbg.ext e
  replace hgm := hgm.ext e
  replace E := E.ext e
  have z27 := e.size
  clear e
  have hlthbh := hbh.lt
  repeat' (first | apply Jbq | apply Jbr | apply Jbs | apply Jbt | apply Jbu | apply Jbv | apply Jbw | apply Jbx | apply Jby | apply Jbz | apply Jca | apply Jcb | apply Jcc | (refine Jcd rfl ?_) | (refine Jce rfl ?_) | (refine Jcf rfl ?_) | (apply Jcg; (first | exact Jbm rfl rfl | exact Jbn Us.h rfl rfl | exact Jbo rfl rfl | exact Jaa rfl | exact Jab rfl | exact Jad rfl rfl | exact Jae rfl rfl | exact Jah rfl rfl | exact Jai rfl rfl | exact Jaj rfl | exact Jal rfl rfl | exact Jat rfl rfl | exact Jav Us.h rfl rfl); exact rfl) | refine Jch rfl rfl rfl ?_ | refine Jci rfl rfl rfl rfl rfl ?_ | refine Jcj rfl rfl rfl rfl ?_ | refine Jcg (Pu_loadAgg (cs := dskC r snh skh sth) Us.h rfl Sz.h rfl (fun _ e j u hu => by rw [e, add0, hbh.cell]; exact hu)) rfl ?_ | refine Jcg (Pu_loadAgg (cs := dskC r snw skw stw) Us.h rfl Sz.h rfl (fun _ e j u hu => by rw [e, add0, hbw.cell]; exact hu)) rfl ?_ | (refine Jcs rfl rfl (fun hb => ?_) (fun hb => ?_) <;> (try (exfalso; omega))) | (refine Jct rfl rfl (fun hb => ?_) (fun hb => ?_) <;> (try (exfalso; omega))) | refine Jcr rfl rfl (fun hb => ?_) (fun hb => ?_) | (refine Jcx rfl (fun hb => ?_) (fun hb => ?_) <;> (try (exfalso; omega))) | (refine Jcy rfl (fun hb => ?_) (fun hb => ?_) <;> (try (exfalso; omega))) | refine Jcz rfl (fun hb => ?_) (fun hb => ?_))
  refine TL_call rfl en16 (eqDisk_c hh.rd hw.rd hrt) rfl rfl ?_
  rintro _ w28 ⟨rfl, e⟩
  replace hbk := hbk.ext e
  replace hbo := hbo.ext e
  replace hw := hw.ext e
  replace hbw := hbw.ext e
  replace hbg := hbg.ext e
  replace hgm := hgm.ext e
  replace hh := hh.ext e
  replace hbh := hbh.ext e
  replace E := E.ext e
  have z28 := e.size
  clear e
  repeat' (first | apply Jbq | apply Jbr | apply Jbs | apply Jbt | apply Jbu | apply Jbv | apply Jbw | apply Jbx | apply Jby | apply Jbz | apply Jca | apply Jcb | apply Jcc | (refine Jcd rfl ?_) | (refine Jce rfl ?_) | (refine Jcf rfl ?_) | (apply Jcg; (first | exact Jbm rfl rfl | exact Jbn Us.h rfl rfl | exact Jbo rfl rfl | exact Jaa rfl | exact Jab rfl | exact Jad rfl rfl | exact Jae rfl rfl | exact Jah rfl rfl | exact Jai rfl rfl | exact Jaj rfl | exact Jal rfl rfl | exact Jat rfl rfl | exact Jav Us.h rfl rfl); exact rfl) | refine Jch rfl rfl rfl ?_ | refine Jci rfl rfl rfl rfl rfl ?_ | refine Jcj rfl rfl rfl rfl ?_ | refine Jcg (Pu_loadAgg (cs := dskC r sng skg stg) Us.h rfl Sz.h rfl (fun _ e j u hu => by rw [e, add0, hbg.cell]; exact hu)) rfl ?_ | (refine Jcs rfl rfl (fun hb => ?_) (fun hb => ?_) <;> (try (exfalso; omega))) | (refine Jct rfl rfl (fun hb => ?_) (fun hb => ?_) <;> (try (exfalso; omega))) | refine Jcr rfl rfl (fun hb => ?_) (fun hb => ?_) | (refine Jcx rfl (fun hb => ?_) (fun hb => ?_) <;> (try (exfalso; omega))) | (refine Jcy rfl (fun hb => ?_) (fun hb => ?_) <;> (try (exfalso; omega))) | refine Jcz rfl (fun hb => ?_) (fun hb => ?_))
  refine TL_call rfl en20 (heldDisk_k hgm hrt (by omega) (by omega)) rfl rfl ?_
  rintro _ w29 ⟨rfl, e⟩
  replace hbk := hbk.ext e
  replace hbo := hbo.ext e
  replace hw := hw.ext e
  replace hbw := hbw.ext e
  replace hbg := hbg.ext e
  replace hgm := hgm.ext e
  replace hh := hh.ext e
  replace hbh := hbh.ext e
  replace E := E.ext e
  have z29 := e.size
  clear e
  repeat' (first | apply Jbq | apply Jbr | apply Jbs | apply Jbt | apply Jbu | apply Jbv | apply Jbw | apply Jbx | apply Jby | apply Jbz | apply Jca | apply Jcb | apply Jcc | (refine Jcd rfl ?_) | (refine Jce rfl ?_) | (refine Jcf rfl ?_) | (apply Jcg; (first | exact Jbm rfl rfl | exact Jbn Us.h rfl rfl | exact Jbo rfl rfl | exact Jaa rfl | exact Jab rfl | exact Jad rfl rfl | exact Jae rfl rfl | exact Jah rfl rfl | exact Jai rfl rfl | exact Jaj rfl | exact Jal rfl rfl | exact Jat rfl rfl | exact Jav Us.h rfl rfl); exact rfl) | refine Jch rfl rfl rfl ?_ | refine Jci rfl rfl rfl rfl rfl ?_ | refine Jcj rfl rfl rfl rfl ?_ | (refine Jcs rfl rfl (fun hb => ?_) (fun hb => ?_) <;> (try (exfalso; omega))) | (refine Jct rfl rfl (fun hb => ?_) (fun hb => ?_) <;> (try (exfalso; omega))) | refine Jcr rfl rfl (fun hb => ?_) (fun hb => ?_) | (refine Jcx rfl (fun hb => ?_) (fun hb => ?_) <;> (try (exfalso; omega))) | (refine Jcy rfl (fun hb => ?_) (fun hb => ?_) <;> (try (exfalso; omega))) | refine Jcz rfl (fun hb => ?_) (fun hb => ?_))
  exact TR_of (res1 rfl rfl) ⟨rfl, E⟩
end
theorem own : ownKnob Tryz.prog.godebug = none := by kernel_rfl
theorem laidOut : laidOutB Tryz.prog = true := by kernel_rfl
set_option maxRecDepth 100000 in
theorem lifted (os : Os) (started : os.Started) (H : Type) (enc : TypeId × Value → H) :
    ReturnsInHanded {} Tryz.checked os 4 .any (Rows.fnExactDiskDoSpec.pre6 enc Tryz.prog Tryz.f4 Rows.fnExactDiskDoRow.domain false) (Rows.fnExactDiskDoSpec.post enc Tryz.prog Tryz.f4 false true false false) := by
  refine returnsInHanded_of_change (C := Tryz.checked) own started (by kernel_rfl) Tryz.func4
    (ChangeSpec.witness6 (enc := enc) (C := Tryz.checked) false ⟨#[], #[.agg #[.int .i64 0, .int .i64 0, .int .i64 0, .slice none 0 0, .slice none 0 0, .slice none 0 0], .agg #[.int .i64 0, .string ByteArray.empty, .string ByteArray.empty, .int .i64 0, .slice none 0 0]], []⟩ 8 (by kernel_rfl) (by kernel_rfl) (by kernel_rfl) (by kernel_rfl)) ?_
  intro W base args ds gs before hval0 hW hcnd _
  have hval : ∀ (j : Nat) t v, Tryz.f4.params[j]? = some t → args[j]? = some v → Value.okWide Tryz.prog W .any base t v := hval0
  have hW' := hW
  obtain ⟨p, q, hA0, hV, rfl, hfz, hnd⟩ := hW
  have hA : DataW.TrodAll enc Tryz.prog W 0 (fun _ => true) true Tryz.f4.params.toList args.toList ds p := hA0
  rw [Tryz.params4] at hA hval
  obtain ⟨v0, vs0, d0, ds0, p0, q0, hargs, rfl, rfl, h0, r0⟩ := trodAll_cons hA
  obtain ⟨v1, vs1, d1, ds1, p1, q1, rfl, rfl, rfl, h1, r1⟩ := trodAll_cons r0
  obtain ⟨rfl, rfl, rfl⟩ := trodAll_nil r1
  obtain rfl : args = #[v0, v1] := by cases args; simp_all
  obtain ⟨rfl, rfl⟩ := trodVars_none hV
  have k0 := h0
  have lt0 : ∀ x ∈ p0, x.block < W.heap.size := by obtain ⟨m, hm⟩ := k0; exact DataW.trod_lt m _ _ _ hm
  obtain ⟨cs0, rfl, hz0⟩ := okWide_struct Tryz.underlying26 (hval 0 26 v0 rfl rfl)
  obtain ⟨fuel0, hf0⟩ := h0
  obtain ⟨d, sn0, sk0, st0, e0, f0, R0⟩ := cell_disk Tryz.underlying26 (by kernel_rfl) rfl rfl rfl rfl rfl rfl Tryz.underlying3 Tryz.underlying3 Tryz.underlying3 Tryz.underlying22 Tryz.underlying23 Tryz.underlying24 (by kernel_rfl) (by kernel_rfl) (by kernel_rfl) (by kernel_rfl) (by kernel_rfl) (by kernel_rfl) (by kernel_rfl) (by kernel_rfl) (by kernel_rfl) (fun n cs x h => cell_node Tryz.underlying156 (by kernel_rfl) rfl rfl rfl Tryz.underlying3 Tryz.underlying43 Tryz.underlying43 Tryz.underlying5 (by kernel_rfl) (by kernel_rfl) (by kernel_rfl) (by kernel_rfl) h) (fun n cs x h => cell_link Tryz.underlying159 (by kernel_rfl) rfl rfl Tryz.underlying9 Tryz.underlying3 (by kernel_rfl) (by kernel_rfl) h) (fun n cs x h => cell_turn Tryz.underlying161 (by kernel_rfl) rfl rfl rfl rfl Tryz.underlying3 Tryz.underlying9 Tryz.underlying9 Tryz.underlying3 (by kernel_rfl) (by kernel_rfl) (by kernel_rfl) (by kernel_rfl) h) hf0
  have e0 : Value.agg cs0 = Value.agg (dskC d sn0 sk0 st0).toArray := by rw [← e0]; simp [Value.cells]
  have k1 := h1
  have lt1 : ∀ x ∈ p1, x.block < W.heap.size := by obtain ⟨m, hm⟩ := k1; exact DataW.trod_lt m _ _ _ hm
  obtain ⟨cs1, rfl, hz1⟩ := okWide_struct Tryz.underlying45 (hval 1 45 v1 rfl rfl)
  obtain ⟨fuel1, hf1⟩ := h1
  obtain ⟨o, A1, c1, e1, f1, m1, b1, R1⟩ := cell_op Tryz.underlying45 (by kernel_rfl) rfl rfl rfl rfl rfl Tryz.underlying3 Tryz.underlying9 Tryz.underlying9 Tryz.underlying3 Tryz.underlying43 Tryz.underlying5 (by kernel_rfl) (by kernel_rfl) (by kernel_rfl) (by kernel_rfl) (by kernel_rfl) (by kernel_rfl) hf1
  have e1 : Value.agg cs1 = Value.agg (opC o (.slice A1 o.data.length c1)).toArray := by rw [← e1]; simp [Value.cells]
  clear hA0 hval0
  have hc := law_c d o W R0 f0 ⟨_, _, rfl, m1, R1⟩ f1 (by omega)
  have hc : Calls Tryz.prog 4 _ W _ := hc
  rw [← e0] at hc
  rw [← e1] at hc
  refine hc.mono fun e W' ⟨v, he, hv, hx⟩ => ?_
  subst hv
  subst he
  have bel := Ch.below hx
  exact ⟨_, rfl, _, _, _, [], _, [], hW', trodAll_mk1 (shut_bool Tryz.underlying4 _), (trodAll_cons_mk (Below.trod laidOut (by kernel_rfl) (of_decide_eq_true (by kernel_rfl)) k0 bel lt0) (trodAll_cons_mk (Below.trod laidOut (by kernel_rfl) (of_decide_eq_true (by kernel_rfl)) k1 bel lt1) trodAll_mk0)), rfl, bel.frame _, fun h => by cases h⟩
theorem over : Rows.fnExactDiskDoRow.holds Tryz.pinned (OpenSpec.ofChange Rows.fnExactDiskDoSpec) :=
  OpenClaim.holds_of_wide 4 Tryz.f4 rfl rfl rfl rfl rfl rfl rfl ⟨rfl, rfl, rfl, rfl, rfl⟩ rfl rfl rfl rfl rfl (by kernel_rfl) Tryz.func4 (by kernel_rfl)
    (of_decide_eq_true (by kernel_rfl)) (by unfold Func.isWrapper; first | (rw [if_pos (by decide +kernel)]; kernel_rfl) | (rw [if_neg (by decide +kernel)]; exact ⟨rfl, rfl⟩))
    (fun os started H enc _ => lifted os started H enc)
theorem proved : Rows.FnExactDiskDoSaid := over
#print axioms proved
end Go.Proofs.YtggaghghclomkaaGreat.FnExactDiskDoP
