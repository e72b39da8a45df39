/- FnExactDiskDir: the law answers true for every input and leaves its arguments as they were. Conditions: none but those of the given row. -/
import Derived.Test.YtmkmphdfpghjbaaRows
import Derived.Test.YtmkmphdfpghjbaaArgD
import Derived.Test.YtmkmphdfpghjbaaOwnT
import Derived.Test.YtmkmphdfpghjbaaDirK
namespace Go.Proofs.Ytmkmphdfpghjbaa.FnExactDiskDirP
open Go.RowKit Go.ChangeShapes Go.WideShapes Go.ChangeAt Go.Deep
open Go.ChangeMaps (open_string shut_string)
section
attribute [local irreducible] TL TC TN TX TR TQ TA Pu Ret
set_option maxRecDepth 100000 in
set_option maxHeartbeats 8000000 in
theorem law_c (d : DiskP) {sn sk st : Value} (W : World) (hp : RDk W 0 W.heap.size d sn sk st) (hf : d.fits) : Ret Try.prog 12 #[.agg (dskC d sn sk st).toArray] W fun v' w' => v' = .bool true ∧ Ext W w' := by
  refine Ret_enter Try.func12 rfl rfl rfl ?_
  repeat' (first | apply Jbq | apply Jbr | apply Jbs | apply Jbt | apply Jbu | apply Jbv | apply Jbw | apply Jbx | apply Jby | apply Jbz | apply Jca | apply Jcb | apply Jcc | (refine Jcd rfl ?_) | (refine Jce rfl ?_) | (refine Jcf rfl ?_) | (apply Jcg; (first | exact Jaa rfl | exact Jab rfl | exact Jad rfl rfl | exact Jah rfl rfl | exact Jai rfl rfl | exact Jaj rfl | exact Jal rfl rfl | exact Jat rfl rfl | exact Jav Us.h rfl rfl); exact rfl) | refine Jch rfl rfl rfl ?_ | refine Jci rfl rfl rfl rfl rfl ?_ | refine Jcj rfl rfl rfl rfl ?_)
  refine TL_box (cs := dskC d sn sk st) rfl rfl ?_
  intro w1 g E hg hz hbk
  repeat' (first | apply Jbq | apply Jbr | apply Jbs | apply Jbt | apply Jbu | apply Jbv | apply Jbw | apply Jbx | apply Jby | apply Jbz | apply Jca | apply Jcb | apply Jcc | (refine Jcd rfl ?_) | (refine Jce rfl ?_) | (refine Jcf rfl ?_) | (apply Jcg; (first | exact Jaa rfl | exact Jab rfl | exact Jad rfl rfl | exact Jah rfl rfl | exact Jai rfl rfl | exact Jaj rfl | exact Jal rfl rfl | exact Jat rfl rfl | exact Jav Us.h rfl rfl); exact rfl) | refine Jch rfl rfl rfl ?_ | refine Jci rfl rfl rfl rfl rfl ?_ | refine Jcj rfl rfl rfl rfl ?_ | refine Jcg (Pu_loadAgg (cs := dskC d sn sk st) Us.h rfl Sz.h rfl (fun _ e j u hu => by rw [e, add0, hbk.cell]; exact hu)) rfl ?_)
  refine TL_call rfl en15 (szDisk_c (hp.ext E) hf (by omega) (by omega)) rfl rfl ?_
  rintro _ w2 ⟨hv, e2⟩
  replace hbk := hbk.ext e2
  replace E := E.ext e2
  have hs2 := e2.size
  clear e2
  rcases hv with rfl | ⟨rfl, hd⟩
  · repeat' (first | apply Jbq | apply Jbr | apply Jbs | apply Jbt | apply Jbu | apply Jbv | apply Jbw | apply Jbx | apply Jby | apply Jbz | apply Jca | apply Jcb | apply Jcc | (refine Jcd rfl ?_) | (refine Jce rfl ?_) | (refine Jcf rfl ?_) | (apply Jcg; (first | exact Jbm rfl rfl | exact Jbn Us.h rfl rfl | exact Jbo rfl rfl | exact Jaa rfl | exact Jab rfl | exact Jad rfl rfl | exact Jah rfl rfl | exact Jai rfl rfl | exact Jaj rfl | exact Jal rfl rfl | exact Jat rfl rfl | exact Jav Us.h rfl rfl); exact rfl) | refine Jch rfl rfl rfl ?_ | refine Jci rfl rfl rfl rfl rfl ?_ | refine Jcj rfl rfl rfl rfl ?_ | (refine Jcs rfl rfl (fun hb => ?_) (fun hb => ?_) <;> (try (exfalso; omega))) | (refine Jct rfl rfl (fun hb => ?_) (fun hb => ?_) <;> (try (exfalso; omega))) | refine Jcr rfl rfl (fun hb => ?_) (fun hb => ?_) | (refine Jcx rfl (fun hb => ?_) (fun hb => ?_) <;> (try (exfalso; omega))) | (refine Jcy rfl (fun hb => ?_) (fun hb => ?_) <;> (try (exfalso; omega))) | refine Jcz rfl (fun hb => ?_) (fun hb => ?_))
    exact TR_of (res1 rfl rfl) ⟨rfl, E⟩
  obtain ⟨hp1, hp2⟩ := pDirs_tot (d := d)
  have hdl : (pDirs d).length + totLk (pDirs d) ≤ 1048576 := by omega
  repeat' (first | apply Jbq | apply Jbr | apply Jbs | apply Jbt | apply Jbu | apply Jbv | apply Jbw | apply Jbx | apply Jby | apply Jbz | apply Jca | apply Jcb | apply Jcc | (refine Jcd rfl ?_) | (refine Jce rfl ?_) | (refine Jcf rfl ?_) | (apply Jcg; (first | exact Jbm rfl rfl | exact Jbn Us.h rfl rfl | exact Jbo rfl rfl | exact Jaa rfl | exact Jab rfl | exact Jad rfl rfl | exact Jah rfl rfl | exact Jai rfl rfl | exact Jaj rfl | exact Jal rfl rfl | exact Jat rfl rfl | exact Jav Us.h rfl rfl); exact rfl) | refine Jch rfl rfl rfl ?_ | refine Jci rfl rfl rfl rfl rfl ?_ | refine Jcj rfl rfl rfl rfl ?_ | refine Jcg (Pu_loadAgg (cs := dskC d sn sk st) Us.h rfl Sz.h rfl (fun _ e j u hu => by rw [e, add0, hbk.cell]; exact hu)) rfl ?_ | (refine Jcs rfl rfl (fun hb => ?_) (fun hb => ?_) <;> (try (exfalso; omega))) | (refine Jct rfl rfl (fun hb => ?_) (fun hb => ?_) <;> (try (exfalso; omega))) | refine Jcr rfl rfl (fun hb => ?_) (fun hb => ?_) | (refine Jcx rfl (fun hb => ?_) (fun hb => ?_) <;> (try (exfalso; omega))) | (refine Jcy rfl (fun hb => ?_) (fun hb => ?_) <;> (try (exfalso; omega))) | refine Jcz rfl (fun hb => ?_) (fun hb => ?_))
  refine TL_call rfl en17 (toDisk_c (hp.ext E) hd) rfl rfl ?_
  rintro _ w3 ⟨sn1, sk1, st1, rfl, e3, ho1⟩
  replace hbk := hbk.ext e3
  replace E := E.ext e3
  have hs3 := e3.size
  clear e3
  repeat' (first | apply Jbq | apply Jbr | apply Jbs | apply Jbt | apply Jbu | apply Jbv | apply Jbw | apply Jbx | apply Jby | apply Jbz | apply Jca | apply Jcb | apply Jcc | (refine Jcd rfl ?_) | (refine Jce rfl ?_) | (refine Jcf rfl ?_) | (apply Jcg; (first | exact Jaa rfl | exact Jab rfl | exact Jad rfl rfl | exact Jah rfl rfl | exact Jai rfl rfl | exact Jaj rfl | exact Jal rfl rfl | exact Jat rfl rfl | exact Jav Us.h rfl rfl); exact rfl) | refine Jch rfl rfl rfl ?_ | refine Jci rfl rfl rfl rfl rfl ?_ | refine Jcj rfl rfl rfl rfl ?_)
  refine TL_call rfl en51 (specDiskDir_c ho1 hf hd) rfl rfl ?_
  rintro vw w4 ⟨e4, hw0⟩
  clear ho1
  replace hbk := hbk.ext e4
  replace E := E.ext e4
  have hs4 := e4.size
  clear e4
  repeat' (first | apply Jbq | apply Jbr | apply Jbs | apply Jbt | apply Jbu | apply Jbv | apply Jbw | apply Jbx | apply Jby | apply Jbz | apply Jca | apply Jcb | apply Jcc | (refine Jcd rfl ?_) | (refine Jce rfl ?_) | (refine Jcf rfl ?_) | (apply Jcg; (first | exact Jbm rfl rfl | exact Jbn Us.h rfl rfl | exact Jbo rfl rfl | exact Jaa rfl | exact Jab rfl | exact Jad rfl rfl | exact Jah rfl rfl | exact Jai rfl rfl | exact Jaj rfl | exact Jal rfl rfl | exact Jat rfl rfl | exact Jav Us.h rfl rfl); exact rfl) | refine Jch rfl rfl rfl ?_ | refine Jci rfl rfl rfl rfl rfl ?_ | refine Jcj rfl rfl rfl rfl ?_ | refine Jcg (Pu_loadAgg (cs := dskC d sn sk st) Us.h rfl Sz.h rfl (fun _ e j u hu => by rw [e, add0, hbk.cell]; exact hu)) rfl ?_ | (refine Jcs rfl rfl (fun hb => ?_) (fun hb => ?_) <;> (try (exfalso; omega))) | (refine Jct rfl rfl (fun hb => ?_) (fun hb => ?_) <;> (try (exfalso; omega))) | refine Jcr rfl rfl (fun hb => ?_) (fun hb => ?_) | (refine Jcx rfl (fun hb => ?_) (fun hb => ?_) <;> (try (exfalso; omega))) | (refine Jcy rfl (fun hb => ?_) (fun hb => ?_) <;> (try (exfalso; omega))) | refine Jcz rfl (fun hb => ?_) (fun hb => ?_))
  refine TL_call rfl en17 (toDisk_o (hp.ext E) hd) rfl rfl ?_
  rintro _ w5 ⟨sn2, sk2, st2, rfl, e5, hx⟩
  replace hbk := hbk.ext e5
  replace hw0 := hw0.ext e5
  replace E := E.ext e5
  have hs5 := e5.size
  clear e5
  have hone := hx.one
  repeat' (first | apply Jbq | apply Jbr | apply Jbs | apply Jbt | apply Jbu | apply Jbv | apply Jbw | apply Jbx | apply Jby | apply Jbz | apply Jca | apply Jcb | apply Jcc | (refine Jcd rfl ?_) | (refine Jce rfl ?_) | (refine Jcf rfl ?_) | (apply Jcg; (first | exact Jaa rfl | exact Jab rfl | exact Jad rfl rfl | exact Jah rfl rfl | exact Jai rfl rfl | exact Jaj rfl | exact Jal rfl rfl | exact Jat rfl rfl | exact Jav Us.h rfl rfl); exact rfl) | refine Jch rfl rfl rfl ?_ | refine Jci rfl rfl rfl rfl rfl ?_ | refine Jcj rfl rfl rfl rfl ?_)
  refine TL_alloc Zs.h rfl rfl ?_
  intro w6 g6 e6 hg6 hz6 hb6
  replace hbk := hbk.ext e6
  replace hw0 := hw0.ext e6
  replace hx := hx.ext e6
  replace E := E.ext e6
  clear e6
  have hgl := hbk.lt
  repeat' (first | apply Jbq | apply Jbr | apply Jbs | apply Jbt | apply Jbu | apply Jbv | apply Jbw | apply Jbx | apply Jby | apply Jbz | apply Jca | apply Jcb | apply Jcc | (refine Jcd rfl ?_) | (refine Jce rfl ?_) | (refine Jcf rfl ?_) | (apply Jcg; (first | exact Jaa rfl | exact Jab rfl | exact Jad rfl rfl | exact Jah rfl rfl | exact Jai rfl rfl | exact Jaj rfl | exact Jal rfl rfl | exact Jat rfl rfl | exact Jav Us.h rfl rfl); exact rfl) | refine Jch rfl rfl rfl ?_ | refine Jci rfl rfl rfl rfl rfl ?_ | refine Jcj rfl rfl rfl rfl ?_)
  refine TL_storeAgg rfl rfl Sz.h hone hb6 rfl ?_
  clear hb6
  intro w7 c7 hz7 hb6
  replace hbk := hbk.ch c7 (by simp only [Iv]; omega)
  replace hw0 := hw0.ch c7 (by intro k _ _; simp only [Iv]; omega)
  replace hx := hx.ch c7 (by intro k _ _; simp only [Iv]; omega)
  replace E : Ext W w7 := Ext.then_iv E c7 (by have := hbk.lt; omega)
  clear c7
  repeat' (first | apply Jbq | apply Jbr | apply Jbs | apply Jbt | apply Jbu | apply Jbv | apply Jbw | apply Jbx | apply Jby | apply Jbz | apply Jca | apply Jcb | apply Jcc | (refine Jcd rfl ?_) | (refine Jce rfl ?_) | (refine Jcf rfl ?_) | (apply Jcg; (first | exact Jaa rfl | exact Jab rfl | exact Jad rfl rfl | exact Jah rfl rfl | exact Jai rfl rfl | exact Jaj rfl | exact Jal rfl rfl | exact Jat rfl rfl | exact Jav Us.h rfl rfl); exact rfl) | refine Jch rfl rfl rfl ?_ | refine Jci rfl rfl rfl rfl rfl ?_ | refine Jcj rfl rfl rfl rfl ?_ | refine Jcg (Pu_loadAgg (cs := dskC d sn2 sk2 st2) Us.h rfl Sz.h rfl (fun _ e j u hu => by rw [e, add0, hb6.cell]; exact hu)) rfl ?_)
  refine TL_call rfl en49 (implDiskDir_c hx.rd hf hd) rfl rfl ?_
  rintro vg w8 ⟨e8, hg0⟩
  replace hbk := hbk.ext e8
  replace hb6 := hb6.ext e8
  replace hw0 := hw0.ext e8
  replace hx := hx.ext e8
  replace E := E.ext e8
  have hs8 := e8.size
  clear e8
  repeat' (first | apply Jbq | apply Jbr | apply Jbs | apply Jbt | apply Jbu | apply Jbv | apply Jbw | apply Jbx | apply Jby | apply Jbz | apply Jca | apply Jcb | apply Jcc | (refine Jcd rfl ?_) | (refine Jce rfl ?_) | (refine Jcf rfl ?_) | (apply Jcg; (first | exact Jbm rfl rfl | exact Jbn Us.h rfl rfl | exact Jbo rfl rfl | exact Jaa rfl | exact Jab rfl | exact Jad rfl rfl | exact Jah rfl rfl | exact Jai rfl rfl | exact Jaj rfl | exact Jal rfl rfl | exact Jat rfl rfl | exact Jav Us.h rfl rfl); exact rfl) | refine Jch rfl rfl rfl ?_ | refine Jci rfl rfl rfl rfl rfl ?_ | refine Jcj rfl rfl rfl rfl ?_ | (refine Jcs rfl rfl (fun hb => ?_) (fun hb => ?_) <;> (try (exfalso; omega))) | (refine Jct rfl rfl (fun hb => ?_) (fun hb => ?_) <;> (try (exfalso; omega))) | refine Jcr rfl rfl (fun hb => ?_) (fun hb => ?_) | (refine Jcx rfl (fun hb => ?_) (fun hb => ?_) <;> (try (exfalso; omega))) | (refine Jcy rfl (fun hb => ?_) (fun hb => ?_) <;> (try (exfalso; omega))) | refine Jcz rfl (fun hb => ?_) (fun hb => ?_))
  refine TL_call rfl en52 (eqLinkS_k hg0.rd.rk hw0 hdl) rfl rfl ?_
  rintro _ w9 ⟨rfl, e9⟩
  replace hbk := hbk.ext e9
  replace hb6 := hb6.ext e9
  replace hw0 := hw0.ext e9
  replace hx := hx.ext e9
  replace hg0 := hg0.ext e9
  replace E := E.ext e9
  have hs9 := e9.size
  clear e9
  repeat' (first | apply Jbq | apply Jbr | apply Jbs | apply Jbt | apply Jbu | apply Jbv | apply Jbw | apply Jbx | apply Jby | apply Jbz | apply Jca | apply Jcb | apply Jcc | (refine Jcd rfl ?_) | (refine Jce rfl ?_) | (refine Jcf rfl ?_) | (apply Jcg; (first | exact Jbm rfl rfl | exact Jbn Us.h rfl rfl | exact Jbo rfl rfl | exact Jaa rfl | exact Jab rfl | exact Jad rfl rfl | exact Jah rfl rfl | exact Jai rfl rfl | exact Jaj rfl | exact Jal rfl rfl | exact Jat rfl rfl | exact Jav Us.h rfl rfl); exact rfl) | refine Jch rfl rfl rfl ?_ | refine Jci rfl rfl rfl rfl rfl ?_ | refine Jcj rfl rfl rfl rfl ?_ | (refine Jcs rfl rfl (fun hb => ?_) (fun hb => ?_) <;> (try (exfalso; omega))) | (refine Jct rfl rfl (fun hb => ?_) (fun hb => ?_) <;> (try (exfalso; omega))) | refine Jcr rfl rfl (fun hb => ?_) (fun hb => ?_) | (refine Jcx rfl (fun hb => ?_) (fun hb => ?_) <;> (try (exfalso; omega))) | (refine Jcy rfl (fun hb => ?_) (fun hb => ?_) <;> (try (exfalso; omega))) | refine Jcz rfl (fun hb => ?_) (fun hb => ?_))
  have hA : ∀ w', Ext w9 w' → ∀ j u, (dskC d sn sk st)[j]? = some u → w'.cell? ((⟨g, 0, none⟩ : Addr).add j) = some u := fun w' e j u hu => by rw [add0]; exact e.cell ((hbk.cell j).trans hu)
  have hB : ∀ w', Ext w9 w' → ∀ j u, (dskC d sn2 sk2 st2)[j]? = some u → w'.cell? ((⟨g6, 0, none⟩ : Addr).add j) = some u := fun w' e j u hu => by rw [add0]; exact e.cell ((hb6.cell j).trans hu)
  refine TC_any mixed rfl ?_
  intro w10 hE hz10
  (refine Jco 0 rfl (by kernel_rfl) (by kernel_rfl) (by kernel_rfl) (fun _ _ _ h => h) hE (by (first | exact Pu_loadAgg (cs := dskC d sn2 sk2 st2) Us.h rfl Sz.h rfl hB | exact Pu_loadAgg (cs := dskC d sn sk st) Us.h rfl Sz.h rfl hA | (first | exact Jaa rfl | exact Jab rfl | exact Jad rfl rfl | exact Jah rfl rfl | exact Jai rfl rfl | exact Jaj rfl | exact Jal rfl rfl | exact Jat rfl rfl | exact Jav Us.h rfl rfl))) rfl ?_; refine Jco 1 rfl (by kernel_rfl) (by kernel_rfl) (by kernel_rfl) (fun _ _ _ h => h) hE (by (first | exact Pu_loadAgg (cs := dskC d sn2 sk2 st2) Us.h rfl Sz.h rfl hB | exact Pu_loadAgg (cs := dskC d sn sk st) Us.h rfl Sz.h rfl hA | (first | exact Jaa rfl | exact Jab rfl | exact Jad rfl rfl | exact Jah rfl rfl | exact Jai rfl rfl | exact Jaj rfl | exact Jal rfl rfl | exact Jat rfl rfl | exact Jav Us.h rfl rfl))) rfl ?_)
  refine TA_one 2 (by kernel_rfl) rfl ?_
  refine TL_call rfl en17 (toDisk_c (hp.ext (E.ext hE)) hd) rfl rfl ?_
  rintro _ w11 ⟨sn3, sk3, st3, rfl, e11, ho3⟩
  replace hE := hE.ext e11
  refine Jbq (TN_any hE ?_)
  refine TA_one 3 (by kernel_rfl) rfl ?_
  refine TL_call rfl en19 (eqDisk_c (hx.rd.ext hE) ho3 hd) rfl rfl ?_
  rintro _ w12 ⟨rfl, e12⟩
  replace hE := hE.ext e12
  refine Jbq (TN_any hE ?_)
  (refine Jco 4 rfl (by kernel_rfl) (by kernel_rfl) (by kernel_rfl) (fun _ _ _ h => h) hE (by (first | exact Jaa rfl | exact Jab rfl | exact Jad rfl rfl | exact Jah rfl rfl | exact Jai rfl rfl | exact Jaj rfl | exact Jal rfl rfl | exact Jat rfl rfl | exact Jav Us.h rfl rfl)) rfl ?_)
  refine TA_done (by kernel_rfl) ?_
  clear hA hB ho3
  replace hbk := hbk.ext hE
  replace hb6 := hb6.ext hE
  replace hw0 := hw0.ext hE
  replace hx := hx.ext hE
  replace hg0 := hg0.ext hE
  replace E := E.ext hE
  have hs12 := hE.size
  repeat' (first | apply Jbq | apply Jbr | apply Jbs | apply Jbt | apply Jbu | apply Jbv | apply Jbw | apply Jbx | apply Jby | apply Jbz | apply Jca | apply Jcb | apply Jcc | (refine Jcd rfl ?_) | (refine Jce rfl ?_) | (refine Jcf rfl ?_) | (apply Jcg; (first | exact Jbm rfl rfl | exact Jbn Us.h rfl rfl | exact Jbo rfl rfl | exact Jaa rfl | exact Jab rfl | exact Jad rfl rfl | exact Jah rfl rfl | exact Jai rfl rfl | exact Jaj rfl | exact Jal rfl rfl | exact Jat rfl rfl | exact Jav Us.h rfl rfl); exact rfl) | refine Jch rfl rfl rfl ?_ | refine Jci rfl rfl rfl rfl rfl ?_ | refine Jcj rfl rfl rfl rfl ?_ | refine Jcg (Pu_loadAgg (cs := dskC d sn2 sk2 st2) Us.h rfl Sz.h rfl (fun _ e j u hu => by rw [e, add0, hb6.cell]; exact hu)) rfl ?_ | (refine Jcs rfl rfl (fun hb => ?_) (fun hb => ?_) <;> (try (exfalso; omega))) | (refine Jct rfl rfl (fun hb => ?_) (fun hb => ?_) <;> (try (exfalso; omega))) | refine Jcr rfl rfl (fun hb => ?_) (fun hb => ?_) | (refine Jcx rfl (fun hb => ?_) (fun hb => ?_) <;> (try (exfalso; omega))) | (refine Jcy rfl (fun hb => ?_) (fun hb => ?_) <;> (try (exfalso; omega))) | refine Jcz rfl (fun hb => ?_) (fun hb => ?_))
  refine TL_call rfl en23 (markDisk_k hx hd (by omega) (by omega)) rfl rfl ?_
  rintro _ w13 ⟨rfl, c13, _⟩
  obtain ⟨_, _, _, _, _, hc0, hc1⟩ := cntD_le hd
  clear hx hb6
  replace hbk := hbk.ch c13 (by simp only [Iv]; omega)
  replace hw0 := hw0.ch c13 (by intro k _ _; simp only [Iv]; omega)
  replace hg0 := hg0.ch c13 (by intro k _ _; simp only [Iv]; omega)
  replace E : Ext W w13 := Ext.then_iv E c13 (by omega)
  have hs13 := c13.size
  clear c13
  repeat' (first | apply Jbq | apply Jbr | apply Jbs | apply Jbt | apply Jbu | apply Jbv | apply Jbw | apply Jbx | apply Jby | apply Jbz | apply Jca | apply Jcb | apply Jcc | (refine Jcd rfl ?_) | (refine Jce rfl ?_) | (refine Jcf rfl ?_) | (apply Jcg; (first | exact Jbm rfl rfl | exact Jbn Us.h rfl rfl | exact Jbo rfl rfl | exact Jaa rfl | exact Jab rfl | exact Jad rfl rfl | exact Jah rfl rfl | exact Jai rfl rfl | exact Jaj rfl | exact Jal rfl rfl | exact Jat rfl rfl | exact Jav Us.h rfl rfl); exact rfl) | refine Jch rfl rfl rfl ?_ | refine Jci rfl rfl rfl rfl rfl ?_ | refine Jcj rfl rfl rfl rfl ?_ | (refine Jcs rfl rfl (fun hb => ?_) (fun hb => ?_) <;> (try (exfalso; omega))) | (refine Jct rfl rfl (fun hb => ?_) (fun hb => ?_) <;> (try (exfalso; omega))) | refine Jcr rfl rfl (fun hb => ?_) (fun hb => ?_) | (refine Jcx rfl (fun hb => ?_) (fun hb => ?_) <;> (try (exfalso; omega))) | (refine Jcy rfl (fun hb => ?_) (fun hb => ?_) <;> (try (exfalso; omega))) | refine Jcz rfl (fun hb => ?_) (fun hb => ?_))
  refine TL_call rfl en52 (eqLinkS_k hg0.rd.rk hw0 hdl) rfl rfl ?_
  rintro _ w14 ⟨rfl, e14⟩
  replace hbk := hbk.ext e14
  replace hw0 := hw0.ext e14
  replace hg0 := hg0.ext e14
  replace E := E.ext e14
  have hs14 := e14.size
  clear e14
  repeat' (first | apply Jbq | apply Jbr | apply Jbs | apply Jbt | apply Jbu | apply Jbv | apply Jbw | apply Jbx | apply Jby | apply Jbz | apply Jca | apply Jcb | apply Jcc | (refine Jcd rfl ?_) | (refine Jce rfl ?_) | (refine Jcf rfl ?_) | (apply Jcg; (first | exact Jbm rfl rfl | exact Jbn Us.h rfl rfl | exact Jbo rfl rfl | exact Jaa rfl | exact Jab rfl | exact Jad rfl rfl | exact Jah rfl rfl | exact Jai rfl rfl | exact Jaj rfl | exact Jal rfl rfl | exact Jat rfl rfl | exact Jav Us.h rfl rfl); exact rfl) | refine Jch rfl rfl rfl ?_ | refine Jci rfl rfl rfl rfl rfl ?_ | refine Jcj rfl rfl rfl rfl ?_ | (refine Jcs rfl rfl (fun hb => ?_) (fun hb => ?_) <;> (try (exfalso; omega))) | (refine Jct rfl rfl (fun hb => ?_) (fun hb => ?_) <;> (try (exfalso; omega))) | refine Jcr rfl rfl (fun hb => ?_) (fun hb => ?_) | (refine Jcx rfl (fun hb => ?_) (fun hb => ?_) <;> (try (exfalso; omega))) | (refine Jcy rfl (fun hb => ?_) (fun hb => ?_) <;> (try (exfalso; omega))) | refine Jcz rfl (fun hb => ?_) (fun hb => ?_))
  obtain ⟨Ag, cg, rfl, hg1⟩ := hg0
  refine TL_call rfl en53 (markLinkS_c hg1 (by omega) (by omega) (by omega)) rfl rfl ?_
  rintro _ w15 ⟨rfl, c15, hz15, hm⟩
  clear hg1
  replace hbk := hbk.ch c15 (by simp only [Iv]; omega)
  replace hw0 := hw0.ch c15 (by intro k _ _; simp only [Iv]; omega)
  replace E : Ext W w15 := Ext.then_iv E c15 (by omega)
  clear c15
  repeat' (first | apply Jbq | apply Jbr | apply Jbs | apply Jbt | apply Jbu | apply Jbv | apply Jbw | apply Jbx | apply Jby | apply Jbz | apply Jca | apply Jcb | apply Jcc | (refine Jcd rfl ?_) | (refine Jce rfl ?_) | (refine Jcf rfl ?_) | (apply Jcg; (first | exact Jbm rfl rfl | exact Jbn Us.h rfl rfl | exact Jbo rfl rfl | exact Jaa rfl | exact Jab rfl | exact Jad rfl rfl | exact Jah rfl rfl | exact Jai rfl rfl | exact Jaj rfl | exact Jal rfl rfl | exact Jat rfl rfl | exact Jav Us.h rfl rfl); exact rfl) | refine Jch rfl rfl rfl ?_ | refine Jci rfl rfl rfl rfl rfl ?_ | refine Jcj rfl rfl rfl rfl ?_ | (refine Jcs rfl rfl (fun hb => ?_) (fun hb => ?_) <;> (try (exfalso; omega))) | (refine Jct rfl rfl (fun hb => ?_) (fun hb => ?_) <;> (try (exfalso; omega))) | refine Jcr rfl rfl (fun hb => ?_) (fun hb => ?_) | (refine Jcx rfl (fun hb => ?_) (fun hb => ?_) <;> (try (exfalso; omega))) | (refine Jcy rfl (fun hb => ?_) (fun hb => ?_) <;> (try (exfalso; omega))) | refine Jcz rfl (fun hb => ?_) (fun hb => ?_))
  refine TL_call rfl en54 (heldLinkS_c hm.rd (by omega) (by omega) (by omega)) rfl rfl ?_
  rintro _ w16 ⟨rfl, e16⟩
  replace hbk := hbk.ext e16
  replace hw0 := hw0.ext e16
  replace hm := hm.ext e16
  replace E := E.ext e16
  have hs16 := e16.size
  clear e16
  repeat' (first | apply Jbq | apply Jbr | apply Jbs | apply Jbt | apply Jbu | apply Jbv | apply Jbw | apply Jbx | apply Jby | apply Jbz | apply Jca | apply Jcb | apply Jcc | (refine Jcd rfl ?_) | (refine Jce rfl ?_) | (refine Jcf rfl ?_) | (apply Jcg; (first | exact Jbm rfl rfl | exact Jbn Us.h rfl rfl | exact Jbo rfl rfl | exact Jaa rfl | exact Jab rfl | exact Jad rfl rfl | exact Jah rfl rfl | exact Jai rfl rfl | exact Jaj rfl | exact Jal rfl rfl | exact Jat rfl rfl | exact Jav Us.h rfl rfl); exact rfl) | refine Jch rfl rfl rfl ?_ | refine Jci rfl rfl rfl rfl rfl ?_ | refine Jcj rfl rfl rfl rfl ?_ | refine Jcg (Pu_loadAgg (cs := dskC d sn sk st) Us.h rfl Sz.h rfl (fun _ e j u hu => by rw [e, add0, hbk.cell]; exact hu)) rfl ?_ | (refine Jcs rfl rfl (fun hb => ?_) (fun hb => ?_) <;> (try (exfalso; omega))) | (refine Jct rfl rfl (fun hb => ?_) (fun hb => ?_) <;> (try (exfalso; omega))) | refine Jcr rfl rfl (fun hb => ?_) (fun hb => ?_) | (refine Jcx rfl (fun hb => ?_) (fun hb => ?_) <;> (try (exfalso; omega))) | (refine Jcy rfl (fun hb => ?_) (fun hb => ?_) <;> (try (exfalso; omega))) | refine Jcz rfl (fun hb => ?_) (fun hb => ?_))
  refine TL_call rfl en17 (toDisk_c (hp.ext E) hd) rfl rfl ?_
  rintro _ w17 ⟨sn4, sk4, st4, rfl, e17, ho4⟩
  replace hw0 := hw0.ext e17
  replace hm := hm.ext e17
  replace E := E.ext e17
  clear e17
  repeat' (first | apply Jbq | apply Jbr | apply Jbs | apply Jbt | apply Jbu | apply Jbv | apply Jbw | apply Jbx | apply Jby | apply Jbz | apply Jca | apply Jcb | apply Jcc | (refine Jcd rfl ?_) | (refine Jce rfl ?_) | (refine Jcf rfl ?_) | (apply Jcg; (first | exact Jbm rfl rfl | exact Jbn Us.h rfl rfl | exact Jbo rfl rfl | exact Jaa rfl | exact Jab rfl | exact Jad rfl rfl | exact Jah rfl rfl | exact Jai rfl rfl | exact Jaj rfl | exact Jal rfl rfl | exact Jat rfl rfl | exact Jav Us.h rfl rfl); exact rfl) | refine Jch rfl rfl rfl ?_ | refine Jci rfl rfl rfl rfl rfl ?_ | refine Jcj rfl rfl rfl rfl ?_ | (refine Jcs rfl rfl (fun hb => ?_) (fun hb => ?_) <;> (try (exfalso; omega))) | (refine Jct rfl rfl (fun hb => ?_) (fun hb => ?_) <;> (try (exfalso; omega))) | refine Jcr rfl rfl (fun hb => ?_) (fun hb => ?_) | (refine Jcx rfl (fun hb => ?_) (fun hb => ?_) <;> (try (exfalso; omega))) | (refine Jcy rfl (fun hb => ?_) (fun hb => ?_) <;> (try (exfalso; omega))) | refine Jcz rfl (fun hb => ?_) (fun hb => ?_))
  refine TL_call rfl en49 (implDiskDir_c ho4 hf hd) rfl rfl ?_
  rintro vh w18 ⟨e18, hh0⟩
  clear ho4
  replace hw0 := hw0.ext e18
  replace hm := hm.ext e18
  replace E := E.ext e18
  clear e18
  repeat' (first | apply Jbq | apply Jbr | apply Jbs | apply Jbt | apply Jbu | apply Jbv | apply Jbw | apply Jbx | apply Jby | apply Jbz | apply Jca | apply Jcb | apply Jcc | (refine Jcd rfl ?_) | (refine Jce rfl ?_) | (refine Jcf rfl ?_) | (apply Jcg; (first | exact Jbm rfl rfl | exact Jbn Us.h rfl rfl | exact Jbo rfl rfl | exact Jaa rfl | exact Jab rfl | exact Jad rfl rfl | exact Jah rfl rfl | exact Jai rfl rfl | exact Jaj rfl | exact Jal rfl rfl | exact Jat rfl rfl | exact Jav Us.h rfl rfl); exact rfl) | refine Jch rfl rfl rfl ?_ | refine Jci rfl rfl rfl rfl rfl ?_ | refine Jcj rfl rfl rfl rfl ?_ | (refine Jcs rfl rfl (fun hb => ?_) (fun hb => ?_) <;> (try (exfalso; omega))) | (refine Jct rfl rfl (fun hb => ?_) (fun hb => ?_) <;> (try (exfalso; omega))) | refine Jcr rfl rfl (fun hb => ?_) (fun hb => ?_) | (refine Jcx rfl (fun hb => ?_) (fun hb => ?_) <;> (try (exfalso; omega))) | (refine Jcy rfl (fun hb => ?_) (fun hb => ?_) <;> (try (exfalso; omega))) | refine Jcz rfl (fun hb => ?_) (fun hb => ?_))
  refine TL_call rfl en52 (eqLinkS_k hh0.rd.rk hw0 hdl) rfl rfl ?_
  rintro _ w19 ⟨rfl, e19⟩
  replace hm := hm.ext e19
  replace E := E.ext e19
  clear e19
  repeat' (first | apply Jbq | apply Jbr | apply Jbs | apply Jbt | apply Jbu | apply Jbv | apply Jbw | apply Jbx | apply Jby | apply Jbz | apply Jca | apply Jcb | apply Jcc | (refine Jcd rfl ?_) | (refine Jce rfl ?_) | (refine Jcf rfl ?_) | (apply Jcg; (first | exact Jbm rfl rfl | exact Jbn Us.h rfl rfl | exact Jbo rfl rfl | exact Jaa rfl | exact Jab rfl | exact Jad rfl rfl | exact Jah rfl rfl | exact Jai rfl rfl | exact Jaj rfl | exact Jal rfl rfl | exact Jat rfl rfl | exact Jav Us.h rfl rfl); exact rfl) | refine Jch rfl rfl rfl ?_ | refine Jci rfl rfl rfl rfl rfl ?_ | refine Jcj rfl rfl rfl rfl ?_ | (refine Jcs rfl rfl (fun hb => ?_) (fun hb => ?_) <;> (try (exfalso; omega))) | (refine Jct rfl rfl (fun hb => ?_) (fun hb => ?_) <;> (try (exfalso; omega))) | refine Jcr rfl rfl (fun hb => ?_) (fun hb => ?_) | (refine Jcx rfl (fun hb => ?_) (fun hb => ?_) <;> (try (exfalso; omega))) | (refine Jcy rfl (fun hb => ?_) (fun hb => ?_) <;> (try (exfalso; omega))) | refine Jcz rfl (fun hb => ?_) (fun hb => ?_))
  refine TL_call rfl en54 (heldLinkS_c hm.rd (by omega) (by omega) (by omega)) rfl rfl ?_
  rintro _ w20 ⟨rfl, e20⟩
  replace E := E.ext e20
  repeat' (first | apply Jbq | apply Jbr | apply Jbs | apply Jbt | apply Jbu | apply Jbv | apply Jbw | apply Jbx | apply Jby | apply Jbz | apply Jca | apply Jcb | apply Jcc | (refine Jcd rfl ?_) | (refine Jce rfl ?_) | (refine Jcf rfl ?_) | (apply Jcg; (first | exact Jbm rfl rfl | exact Jbn Us.h rfl rfl | exact Jbo rfl rfl | exact Jaa rfl | exact Jab rfl | exact Jad rfl rfl | exact Jah rfl rfl | exact Jai rfl rfl | exact Jaj rfl | exact Jal rfl rfl | exact Jat rfl rfl | exact Jav Us.h rfl rfl); exact rfl) | refine Jch rfl rfl rfl ?_ | refine Jci rfl rfl rfl rfl rfl ?_ | refine Jcj rfl rfl rfl rfl ?_ | (refine Jcs rfl rfl (fun hb => ?_) (fun hb => ?_) <;> (try (exfalso; omega))) | (refine Jct rfl rfl (fun hb => ?_) (fun hb => ?_) <;> (try (exfalso; omega))) | refine Jcr rfl rfl (fun hb => ?_) (fun hb => ?_) | (refine Jcx rfl (fun hb => ?_) (fun hb => ?_) <;> (try (exfalso; omega))) | (refine Jcy rfl (fun hb => ?_) (fun hb => ?_) <;> (try (exfalso; omega))) | refine Jcz rfl (fun hb => ?_) (fun hb => ?_))
  exact TR_of (res1 rfl rfl) ⟨rfl, E⟩
end
theorem own : ownKnob Try.prog.godebug = none := by kernel_rfl
theorem laidOut : laidOutB Try.prog = true := by kernel_rfl
set_option maxRecDepth 100000 in
theorem lifted (os : Os) (started : os.Started) (H : Type) (enc : TypeId × Value → H) :
    ReturnsInHanded {} Try.checked os 12 .any (Rows.fnExactDiskDirSpec.pre6 enc Try.prog Try.f12 Rows.fnExactDiskDirRow.domain false) (Rows.fnExactDiskDirSpec.post enc Try.prog Try.f12 false true false false) := by
  refine returnsInHanded_of_change (C := Try.checked) own started (by kernel_rfl) Try.func12
    (ChangeSpec.witness6 (enc := enc) (C := Try.checked) false ⟨#[], #[.agg #[.int .i64 0, .int .i64 0, .int .i64 0, .slice none 0 0, .slice none 0 0, .slice none 0 0]], []⟩ 8 (by kernel_rfl) (by kernel_rfl) (by kernel_rfl) (by kernel_rfl)) ?_
  intro W base args ds gs before hval0 hW hcnd _
  have hval : ∀ (j : Nat) t v, Try.f12.params[j]? = some t → args[j]? = some v → Value.okWide Try.prog W .any base t v := hval0
  have hW' := hW
  obtain ⟨p, q, hA0, hV, rfl, hfz, hnd⟩ := hW
  have hA : DataW.TrodAll enc Try.prog W 0 (fun _ => true) true Try.f12.params.toList args.toList ds p := hA0
  rw [Try.params12] at hA hval
  obtain ⟨v0, vs0, d0, ds0, p0, q0, hargs, rfl, rfl, h0, r0⟩ := trodAll_cons hA
  obtain ⟨rfl, rfl, rfl⟩ := trodAll_nil r0
  obtain rfl : args = #[v0] := by cases args; simp_all
  obtain ⟨rfl, rfl⟩ := trodVars_none hV
  have k0 := h0
  have lt0 : ∀ x ∈ p0, x.block < W.heap.size := by obtain ⟨m, hm⟩ := k0; exact DataW.trod_lt m _ _ _ hm
  obtain ⟨cs0, rfl, hz0⟩ := okWide_struct Try.underlying26 (hval 0 26 v0 rfl rfl)
  obtain ⟨fuel0, hf0⟩ := h0
  obtain ⟨d, sn0, sk0, st0, e0, f0, R0⟩ := cell_disk Try.underlying26 (by kernel_rfl) rfl rfl rfl rfl rfl rfl Try.underlying3 Try.underlying3 Try.underlying3 Try.underlying22 Try.underlying23 Try.underlying24 (by kernel_rfl) (by kernel_rfl) (by kernel_rfl) (by kernel_rfl) (by kernel_rfl) (by kernel_rfl) (by kernel_rfl) (by kernel_rfl) (by kernel_rfl) (fun n cs x h => cell_node Try.underlying141 (by kernel_rfl) rfl rfl rfl Try.underlying3 Try.underlying37 Try.underlying37 Try.underlying5 (by kernel_rfl) (by kernel_rfl) (by kernel_rfl) (by kernel_rfl) h) (fun n cs x h => cell_link Try.underlying143 (by kernel_rfl) rfl rfl Try.underlying9 Try.underlying3 (by kernel_rfl) (by kernel_rfl) h) (fun n cs x h => cell_turn Try.underlying145 (by kernel_rfl) rfl rfl rfl rfl Try.underlying3 Try.underlying9 Try.underlying9 Try.underlying3 (by kernel_rfl) (by kernel_rfl) (by kernel_rfl) (by kernel_rfl) h) hf0
  have e0 : Value.agg cs0 = Value.agg (dskC d sn0 sk0 st0).toArray := by rw [← e0]; simp [Value.cells]
  clear hA0 hval0
  have hc := law_c d W R0 f0
  have hc : Calls Try.prog 12 _ W _ := hc
  rw [← e0] at hc
  refine hc.mono fun e W' ⟨v, he, hv, hx⟩ => ?_
  subst hv
  subst he
  have bel := Ch.below hx
  exact ⟨_, rfl, _, _, _, [], _, [], hW', trodAll_mk1 (shut_bool Try.underlying4 _), (trodAll_cons_mk (Below.trod laidOut (by kernel_rfl) (of_decide_eq_true (by kernel_rfl)) k0 bel lt0) trodAll_mk0), rfl, bel.frame _, fun h => by cases h⟩
theorem over : Rows.fnExactDiskDirRow.holds Try.pinned (OpenSpec.ofChange Rows.fnExactDiskDirSpec) :=
  OpenClaim.holds_of_wide 12 Try.f12 rfl rfl rfl rfl rfl rfl rfl ⟨rfl, rfl, rfl, rfl, rfl⟩ rfl rfl rfl rfl rfl (by kernel_rfl) Try.func12 (by kernel_rfl)
    (of_decide_eq_true (by kernel_rfl)) (by unfold Func.isWrapper; first | (rw [if_pos (by decide +kernel)]; kernel_rfl) | (rw [if_neg (by decide +kernel)]; exact ⟨rfl, rfl⟩))
    (fun os started H enc _ => lifted os started H enc)
theorem proved : Rows.FnExactDiskDirSaid := over
#print axioms proved
end Go.Proofs.Ytmkmphdfpghjbaa.FnExactDiskDirP
