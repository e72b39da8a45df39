/- Texts of this proof laid together, in the order in which they build; what each proves stands ahead of it. No condition but those told there. -/
import Derived.Test.YtggaghghclomkaaGreatQFEDDFEDR21k

/- Contracts: operations one after another. -/
namespace Go.Proofs.YtggaghghclomkaaGreat
open Go.RowKit
attribute [local irreducible] TL TC TN TX TR TQ TA Pu Ret
set_option maxRecDepth 100000 in
set_option maxHeartbeats 8000000 in
theorem implDiskRun_c {w : World} {lo hi lo2 hi2 : Nat} {d : DiskP} {sn sk st vl : Value} {l : List OpD} (h : RDk w lo hi d sn sk st) (hf : d.fits) (hl : totD d ≤ 1048576) (ho : ROp w lo2 hi2 vl l) (hof : ∀ o ∈ l, o.fits) (hll : l.length ≤ 1099511627776) :
    Ret Tryz.prog 30 #[.agg (dskC d sn sk st).toArray, vl] w fun v' w' => ∃ sn' sk' st', v' = .tuple #[.agg (dskC (pRuns d l).1 sn' sk' st').toArray, I (pRuns d l).2.1, I (pRuns d l).2.2] ∧ Ext w w' ∧ ODk w' w.heap.size w'.heap.size (pRuns d l).1 sn' sk' st' := by
  have hh := h
  obtain ⟨es, A, c, hem, rfl, hc, hr, hdat⟩ := ho
  have hel : es.length = l.length := by rw [← hem, List.length_map]
  refine Ret_enter Tryz.func30 rfl rfl rfl ?_
  repeat' (first | apply Jbq | apply Jbr | apply Jbs | apply Jbt | apply Jbu | apply Jbv | apply Jbw | apply Jbx | apply Jby | apply Jbz | apply Jca | apply Jcb | apply Jcc | (refine Jcd rfl ?_) | (refine Jce rfl ?_) | (refine Jcf rfl ?_) | (apply Jcg; (first | exact Jaa rfl | exact Jab rfl | exact Jac Us.h rfl | exact Jad rfl rfl | exact Jae rfl rfl | exact Jaf rfl rfl (by omega) | exact Jag Us.h Sz.h rfl rfl (by omega) | exact Jaj rfl | exact Jal rfl rfl | exact Jaq Us.h rfl | exact Jar Us.h Sz.h rfl rfl (by omega) | exact Jat rfl rfl | exact Jav Us.h rfl rfl); exact rfl) | refine Jch rfl rfl rfl ?_ | refine Jci rfl rfl rfl rfl rfl ?_ | refine Jcj rfl rfl rfl rfl ?_)
  refine TL_box (cs := dskC d sn sk st) rfl rfl ?_
  intro w1 g2 e1 hg2 hz1 hb2
  repeat' (first | apply Jbq | apply Jbr | apply Jbs | apply Jbt | apply Jbu | apply Jbv | apply Jbw | apply Jbx | apply Jby | apply Jbz | apply Jca | apply Jcb | apply Jcc | (refine Jcd rfl ?_) | (refine Jce rfl ?_) | (refine Jcf rfl ?_) | (apply Jcg; (first | exact Jaa rfl | exact Jab rfl | exact Jac Us.h rfl | exact Jad rfl rfl | exact Jae rfl rfl | exact Jaf rfl rfl (by omega) | exact Jag Us.h Sz.h rfl rfl (by omega) | exact Jaj rfl | exact Jal rfl rfl | exact Jaq Us.h rfl | exact Jar Us.h Sz.h rfl rfl (by omega) | exact Jat rfl rfl | exact Jav Us.h rfl rfl); exact rfl) | refine Jch rfl rfl rfl ?_ | refine Jci rfl rfl rfl rfl rfl ?_ | refine Jcj rfl rfl rfl rfl ?_)
  refine TL_alloc Zs.h rfl rfl ?_
  intro w2 g4 e2 hg4 hz2 hb4
  replace hb2 := hb2.ext e2
  have E2 : Ext w w2 := e1.ext e2
  repeat' (first | apply Jbq | apply Jbr | apply Jbs | apply Jbt | apply Jbu | apply Jbv | apply Jbw | apply Jbx | apply Jby | apply Jbz | apply Jca | apply Jcb | apply Jcc | (refine Jcd rfl ?_) | (refine Jce rfl ?_) | (refine Jcf rfl ?_) | (apply Jcg; (first | exact Jaa rfl | exact Jab rfl | exact Jac Us.h rfl | exact Jad rfl rfl | exact Jae rfl rfl | exact Jaf rfl rfl (by omega) | exact Jag Us.h Sz.h rfl rfl (by omega) | exact Jaj rfl | exact Jal rfl rfl | exact Jaq Us.h rfl | exact Jar Us.h Sz.h rfl rfl (by omega) | exact Jat rfl rfl | exact Jav Us.h rfl rfl); exact rfl) | refine Jch rfl rfl rfl ?_ | refine Jci rfl rfl rfl rfl rfl ?_ | refine Jcj rfl rfl rfl rfl ?_ | refine Jcg (Pu_loadAgg (cs := dskC d sn sk st) Us.h rfl Sz.h rfl (fun _ e j u hu => by rw [e, add0, hb2.cell]; exact hu)) rfl ?_)
  refine TL_call rfl en65 (implDiskOk_c (hh.ext E2) hf hl) rfl rfl ?_
  rintro _ w3 ⟨rfl, e3⟩
  replace hb2 := hb2.ext e3
  replace hb4 := hb4.ext e3
  have hs3 := e3.size
  have E3 := E2.ext e3
  cases hp : pDOk d with
  | false =>
    rw [pRuns_no (fun h => by rw [pDOk_yes h] at hp; cases hp)]
    repeat' (first | apply Jbq | apply Jbr | apply Jbs | apply Jbt | apply Jbu | apply Jbv | apply Jbw | apply Jbx | apply Jby | apply Jbz | apply Jca | apply Jcb | apply Jcc | (refine Jcd rfl ?_) | (refine Jce rfl ?_) | (refine Jcf rfl ?_) | (apply Jcg; (first | exact Jaa rfl | exact Jab rfl | exact Jac Us.h rfl | exact Jad rfl rfl | exact Jae rfl rfl | exact Jaf rfl rfl (by omega) | exact Jag Us.h Sz.h rfl rfl (by omega) | exact Jaj rfl | exact Jal rfl rfl | exact Jaq Us.h rfl | exact Jar Us.h Sz.h rfl rfl (by omega) | exact Jat rfl rfl | exact Jav Us.h rfl rfl); exact rfl) | refine Jch rfl rfl rfl ?_ | refine Jci rfl rfl rfl rfl rfl ?_ | refine Jcj rfl rfl rfl rfl ?_ | refine Jcg (Pu_build (cs := dskC noDk (.slice none 0 0) (.slice none 0 0) (.slice none 0 0)) rfl (by kernel_rfl)) rfl ?_)
    refine TL_storeAgg rfl rfl Sz.h rfl hb4 rfl ?_
    intro w8 c8 hz8 hb8
    have E8 : Ext w w8 := Ext.then_iv E3 c8 (by omega)
    repeat' (first | apply Jbq | apply Jbr | apply Jbs | apply Jbt | apply Jbu | apply Jbv | apply Jbw | apply Jbx | apply Jby | apply Jbz | apply Jca | apply Jcb | apply Jcc | (refine Jcd rfl ?_) | (refine Jce rfl ?_) | (refine Jcf rfl ?_) | (apply Jcg; (first | exact Jaa rfl | exact Jab rfl | exact Jac Us.h rfl | exact Jad rfl rfl | exact Jae rfl rfl | exact Jaf rfl rfl (by omega) | exact Jag Us.h Sz.h rfl rfl (by omega) | exact Jaj rfl | exact Jal rfl rfl | exact Jaq Us.h rfl | exact Jar Us.h Sz.h rfl rfl (by omega) | exact Jat rfl rfl | exact Jav Us.h rfl rfl); exact rfl) | refine Jch rfl rfl rfl ?_ | refine Jci rfl rfl rfl rfl rfl ?_ | refine Jcj rfl rfl rfl rfl ?_)
    exact TR_of (resA2 rfl rfl rfl rfl hb8 Us.h rfl Sz.h) ⟨_, _, _, rfl, E8, ODk.nil (Nat.le_refl _)⟩
  | true =>
    have hD := pDOk_of hp
    rw [pRuns_yes hD]
    repeat' (first | apply Jbq | apply Jbr | apply Jbs | apply Jbt | apply Jbu | apply Jbv | apply Jbw | apply Jbx | apply Jby | apply Jbz | apply Jca | apply Jcb | apply Jcc | (refine Jcd rfl ?_) | (refine Jce rfl ?_) | (refine Jcf rfl ?_) | (apply Jcg; (first | exact Jaa rfl | exact Jab rfl | exact Jac Us.h rfl | exact Jad rfl rfl | exact Jae rfl rfl | exact Jaf rfl rfl (by omega) | exact Jag Us.h Sz.h rfl rfl (by omega) | exact Jaj rfl | exact Jal rfl rfl | exact Jaq Us.h rfl | exact Jar Us.h Sz.h rfl rfl (by omega) | exact Jat rfl rfl | exact Jav Us.h rfl rfl); exact rfl) | refine Jch rfl rfl rfl ?_ | refine Jci rfl rfl rfl rfl rfl ?_ | refine Jcj rfl rfl rfl rfl ?_ | refine Jcg (Pu_loadAgg (cs := dskC d sn sk st) Us.h rfl Sz.h rfl (fun _ e j u hu => by rw [e, add0, hb2.cell]; exact hu)) rfl ?_)
    refine TL_call rfl en66 (implcopyDisk_c (hh.ext E3) hl) rfl rfl ?_
    rintro _ w4 ⟨sn1, sk1, st1, rfl, e4, hx⟩
    replace hb4 := hb4.ext e4
    have hs4 := e4.size
    have E4 := E3.ext e4
    have hone := hx.one
    repeat' (first | apply Jbq | apply Jbr | apply Jbs | apply Jbt | apply Jbu | apply Jbv | apply Jbw | apply Jbx | apply Jby | apply Jbz | apply Jca | apply Jcb | apply Jcc | (refine Jcd rfl ?_) | (refine Jce rfl ?_) | (refine Jcf rfl ?_) | (apply Jcg; (first | exact Jaa rfl | exact Jab rfl | exact Jac Us.h rfl | exact Jad rfl rfl | exact Jae rfl rfl | exact Jaf rfl rfl (by omega) | exact Jag Us.h Sz.h rfl rfl (by omega) | exact Jaj rfl | exact Jal rfl rfl | exact Jaq Us.h rfl | exact Jar Us.h Sz.h rfl rfl (by omega) | exact Jat rfl rfl | exact Jav Us.h rfl rfl); exact rfl) | refine Jch rfl rfl rfl ?_ | refine Jci rfl rfl rfl rfl rfl ?_ | refine Jcj rfl rfl rfl rfl ?_)
    refine TL_alloc Zs.h rfl rfl ?_
    intro w5 g7 e5 hg7 hz5 hb7
    replace hb4 := hb4.ext e5
    replace hx := hx.ext e5
    repeat' (first | apply Jbq | apply Jbr | apply Jbs | apply Jbt | apply Jbu | apply Jbv | apply Jbw | apply Jbx | apply Jby | apply Jbz | apply Jca | apply Jcb | apply Jcc | (refine Jcd rfl ?_) | (refine Jce rfl ?_) | (refine Jcf rfl ?_) | (apply Jcg; (first | exact Jaa rfl | exact Jab rfl | exact Jac Us.h rfl | exact Jad rfl rfl | exact Jae rfl rfl | exact Jaf rfl rfl (by omega) | exact Jag Us.h Sz.h rfl rfl (by omega) | exact Jaj rfl | exact Jal rfl rfl | exact Jaq Us.h rfl | exact Jar Us.h Sz.h rfl rfl (by omega) | exact Jat rfl rfl | exact Jav Us.h rfl rfl); exact rfl) | refine Jch rfl rfl rfl ?_ | refine Jci rfl rfl rfl rfl rfl ?_ | refine Jcj rfl rfl rfl rfl ?_)
    refine TL_storeAgg rfl rfl Sz.h hone hb7 rfl ?_
    clear hb7
    intro w6 c6 hz6 hb7
    replace hb4 := hb4.ch c6 (by simp only [Iv]; omega)
    replace hx := hx.ch c6 (by intro k _ _; simp only [Iv]; omega)
    have E6 : Ext w w6 := Ext.then_iv (E4.ext e5) c6 (by have := E4.size; omega)
    have hg47 : w.heap.size ≤ g4 ∧ g4 < w3.heap.size ∧ g7 = w4.heap.size := by have := E2.size; omega
    repeat' (first | apply Jbq | apply Jbr | apply Jbs | apply Jbt | apply Jbu | apply Jbv | apply Jbw | apply Jbx | apply Jby | apply Jbz | apply Jca | apply Jcb | apply Jcc | (refine Jcd rfl ?_) | (refine Jce rfl ?_) | (refine Jcf rfl ?_) | (apply Jcg; (first | exact Jaa rfl | exact Jab rfl | exact Jac Us.h rfl | exact Jad rfl rfl | exact Jae rfl rfl | exact Jaf rfl rfl (by omega) | exact Jag Us.h Sz.h rfl rfl (by omega) | exact Jaj rfl | exact Jal rfl rfl | exact Jaq Us.h rfl | exact Jar Us.h Sz.h rfl rfl (by omega) | exact Jat rfl rfl | exact Jav Us.h rfl rfl); exact rfl) | refine Jch rfl rfl rfl ?_ | refine Jci rfl rfl rfl rfl rfl ?_ | refine Jcj rfl rfl rfl rfl ?_)
    refine TC_loop (ι := Nat × DiskP × Value × Value × Value) (fun x => [(1, .slice A es.length c), (4, .pointer (some ⟨g4, 0, none⟩)), (7, .pointer (some ⟨g7, 0, none⟩)), (18, .slice A es.length c), (19, I es.length), (20, I x.1)])
      (fun x w' => x.1 ≤ es.length ∧ DOk x.2.1 ∧ pRun d 0 l = pRun x.2.1 x.1 (l.drop x.1) ∧ Ext w w' ∧ w6.heap.size ≤ w'.heap.size ∧ Blk w' g4 33 (dskC noDk (.slice none 0 0) (.slice none 0 0) (.slice none 0 0)) ∧ Blk w' g7 33 (dskC x.2.1 x.2.2.1 x.2.2.2.1 x.2.2.2.2) ∧ ∃ lo' hi', ODk w' lo' hi' x.2.1 x.2.2.1 x.2.2.2.1 x.2.2.2.2 ∧ w3.heap.size ≤ lo' ∧ hi' ≤ w'.heap.size ∧ (g7 < lo' ∨ hi' ≤ g7)) (fun x => es.length - x.1) (0, d, sn1, sk1, st1)
      (subEnv_cons rfl (subEnv_cons rfl (subEnv_cons rfl (subEnv_cons rfl (subEnv_cons rfl (subEnv_cons rfl (subEnv_nil _))))))) ⟨Nat.zero_le _, hD, rfl, E6, Nat.le_refl _, hb4, hb7, _, _, hx, Nat.le_refl _, by omega, by omega⟩ ?_
    rintro ⟨k, dk, sn2, sk2, st2⟩ w7 ⟨hk7, hDk, hrun, E7, hs7, hb47, hb77, lo', hi', hx7, hlo, hhi, hg⟩
    simp only at hk7 hDk hrun hb77 hx7
    show TC _ _ _ _ [(1, .slice A es.length c), (4, .pointer (some ⟨g4, 0, none⟩)), (7, .pointer (some ⟨g7, 0, none⟩)), (18, .slice A es.length c), (19, I es.length), (20, I (k : Int))] w7
    repeat' (first | apply Jbq | apply Jbr | apply Jbs | apply Jbt | apply Jbu | apply Jbv | apply Jbw | apply Jbx | apply Jby | apply Jbz | apply Jca | apply Jcb | apply Jcc | (refine Jcd rfl ?_) | (refine Jce rfl ?_) | (refine Jcf rfl ?_) | (apply Jcg; (first | exact Jaa rfl | exact Jab rfl | exact Jac Us.h rfl | exact Jad rfl rfl | exact Jae rfl rfl | exact Jaf rfl rfl (by omega) | exact Jag Us.h Sz.h rfl rfl (by omega) | exact Jaj rfl | exact Jal rfl rfl | exact Jaq Us.h rfl | exact Jar Us.h Sz.h rfl rfl (by omega) | exact Jat rfl rfl | exact Jav Us.h rfl rfl); exact rfl) | refine Jch rfl rfl rfl ?_ | refine Jci rfl rfl rfl rfl rfl ?_ | refine Jcj rfl rfl rfl rfl ?_)
    refine Jcx rfl (fun hlt0 => ?_) (fun hge => ?_)
    · have hlt : k < es.length := by omega
      obtain ⟨ad, rfl, hcell⟩ := Rd.elem OdC_len (hr.ext E7) hlt
      have hdx := hdat _ (List.getElem_mem hlt)
      have hlk : l[k]'(by omega) = es[k].o := by simp only [← hem, List.getElem_map]
      have hof' := hof _ (List.getElem_mem (show k < l.length by omega))
      have hdr : l.drop k = es[k].o :: l.drop (k + 1) := by rw [← hlk]; exact List.drop_eq_getElem_cons (by omega)
      rw [hlk] at hof'
      rw [hdr] at hrun
      obtain ⟨x, hx⟩ : ∃ x, x = es[k] := ⟨_, rfl⟩
      rw [← hx] at hcell hdx hof' hrun
      obtain ⟨o, v⟩ := x
      simp only at hdx hof' hrun
      have hdx0 := hdx
      obtain ⟨Ad, cd, rfl, hcd, hrd⟩ := hdx
      replace hcell : ∀ j u, (opC o (.slice Ad o.data.length cd))[j]? = some u → w7.cell? ((ad.add (k * 5)).add j) = some u := hcell
      repeat' (first | apply Jbq | apply Jbr | apply Jbs | apply Jbt | apply Jbu | apply Jbv | apply Jbw | apply Jbx | apply Jby | apply Jbz | apply Jca | apply Jcb | apply Jcc | (refine Jcd rfl ?_) | (refine Jce rfl ?_) | (refine Jcf rfl ?_) | (apply Jcg; (first | exact Jaa rfl | exact Jab rfl | exact Jac Us.h rfl | exact Jad rfl rfl | exact Jae rfl rfl | exact Jaf rfl rfl (by omega) | exact Jag Us.h Sz.h rfl rfl (by omega) | exact Jaj rfl | exact Jal rfl rfl | exact Jaq Us.h rfl | exact Jar Us.h Sz.h rfl rfl (by omega) | exact Jat rfl rfl | exact Jav Us.h rfl rfl); exact rfl) | refine Jch rfl rfl rfl ?_ | refine Jci rfl rfl rfl rfl rfl ?_ | refine Jcj rfl rfl rfl rfl ?_ | refine Jcg (Pu_loadAgg (cs := opC o (.slice Ad o.data.length cd)) Us.h rfl Sz.h rfl (fun _ e j u hu => by rw [e]; exact hcell j u hu)) rfl ?_ | (refine TL_alloc Zs.h rfl rfl ?_; intro w8 g9 e8 hg9 hz8 hb9) | (refine TL_storeAgg rfl rfl Sz.h rfl hb9 rfl ?_; intro w9 c9 hz9 hb99))
      clear hb9
      have e79 : Ext w7 w9 := Ext.then_iv e8 c9 (by omega)
      have hs9 := e79.size
      replace hb47 := hb47.ext e79
      replace hb77 := hb77.ext e79
      replace hx7 := hx7.ext e79
      have E9 := E7.ext e79
      repeat' (first | apply Jbq | apply Jbr | apply Jbs | apply Jbt | apply Jbu | apply Jbv | apply Jbw | apply Jbx | apply Jby | apply Jbz | apply Jca | apply Jcb | apply Jcc | (refine Jcd rfl ?_) | (refine Jce rfl ?_) | (refine Jcf rfl ?_) | (apply Jcg; (first | exact Jaa rfl | exact Jab rfl | exact Jac Us.h rfl | exact Jad rfl rfl | exact Jae rfl rfl | exact Jaf rfl rfl (by omega) | exact Jag Us.h Sz.h rfl rfl (by omega) | exact Jaj rfl | exact Jal rfl rfl | exact Jaq Us.h rfl | exact Jar Us.h Sz.h rfl rfl (by omega) | exact Jat rfl rfl | exact Jav Us.h rfl rfl); exact rfl) | refine Jch rfl rfl rfl ?_ | refine Jci rfl rfl rfl rfl rfl ?_ | refine Jcj rfl rfl rfl rfl ?_ | refine Jcg (Pu_loadAgg (cs := dskC dk sn2 sk2 st2) Us.h rfl Sz.h rfl (fun _ e j u hu => by rw [e, add0, hb77.cell]; exact hu)) rfl ?_ | refine Jcg (Pu_loadAgg (cs := opC o (.slice Ad o.data.length cd)) Us.h rfl Sz.h rfl (fun _ e j u hu => by rw [e, add0, hb99.cell]; exact hu)) rfl ?_)
      refine TL_call rfl en24 (implDiskDo_c hx7.rd hDk.fitsD (by have := hDk.totD; omega) (hdx0.ext E9) hof') rfl rfl ?_
      rintro _ w10 ⟨sn3, sk3, st3, rfl, e10, hx10⟩
      replace hb47 := hb47.ext e10
      replace hb77 := hb77.ext e10
      have hs10 := e10.size
      have E10 := E9.ext e10
      have hone3 := hx10.one
      repeat' (first | apply Jbq | apply Jbr | apply Jbs | apply Jbt | apply Jbu | apply Jbv | apply Jbw | apply Jbx | apply Jby | apply Jbz | apply Jca | apply Jcb | apply Jcc | (refine Jcd rfl ?_) | (refine Jce rfl ?_) | (refine Jcf rfl ?_) | (apply Jcg; (first | exact Jaa rfl | exact Jab rfl | exact Jac Us.h rfl | exact Jad rfl rfl | exact Jae rfl rfl | exact Jaf rfl rfl (by omega) | exact Jag Us.h Sz.h rfl rfl (by omega) | exact Jaj rfl | exact Jal rfl rfl | exact Jaq Us.h rfl | exact Jar Us.h Sz.h rfl rfl (by omega) | exact Jat rfl rfl | exact Jav Us.h rfl rfl); exact rfl) | refine Jch rfl rfl rfl ?_ | refine Jci rfl rfl rfl rfl rfl ?_ | refine Jcj rfl rfl rfl rfl ?_)
      refine TL_alloc Zs.h rfl rfl ?_
      intro w11 g10 e11 hg10 hz11 hb10
      replace hb47 := hb47.ext e11
      replace hb77 := hb77.ext e11
      replace hx10 := hx10.ext e11
      repeat' (first | apply Jbq | apply Jbr | apply Jbs | apply Jbt | apply Jbu | apply Jbv | apply Jbw | apply Jbx | apply Jby | apply Jbz | apply Jca | apply Jcb | apply Jcc | (refine Jcd rfl ?_) | (refine Jce rfl ?_) | (refine Jcf rfl ?_) | (apply Jcg; (first | exact Jaa rfl | exact Jab rfl | exact Jac Us.h rfl | exact Jad rfl rfl | exact Jae rfl rfl | exact Jaf rfl rfl (by omega) | exact Jag Us.h Sz.h rfl rfl (by omega) | exact Jaj rfl | exact Jal rfl rfl | exact Jaq Us.h rfl | exact Jar Us.h Sz.h rfl rfl (by omega) | exact Jat rfl rfl | exact Jav Us.h rfl rfl); exact rfl) | refine Jch rfl rfl rfl ?_ | refine Jci rfl rfl rfl rfl rfl ?_ | refine Jcj rfl rfl rfl rfl ?_)
      refine TL_storeAgg rfl rfl Sz.h hone3 hb10 rfl ?_
      clear hb10
      intro w12 c12 hz12 hb10
      replace hb47 := hb47.ch c12 (by simp only [Iv]; omega)
      replace hb77 := hb77.ch c12 (by simp only [Iv]; omega)
      replace hx10 := hx10.ch c12 (by intro k _ _; simp only [Iv]; omega)
      have E12 : Ext w w12 := Ext.then_iv (E10.ext e11) c12 (by have := E10.size; omega)
      repeat' (first | apply Jbq | apply Jbr | apply Jbs | apply Jbt | apply Jbu | apply Jbv | apply Jbw | apply Jbx | apply Jby | apply Jbz | apply Jca | apply Jcb | apply Jcc | (refine Jcd rfl ?_) | (refine Jce rfl ?_) | (refine Jcf rfl ?_) | (apply Jcg; (first | exact Jaa rfl | exact Jab rfl | exact Jac Us.h rfl | exact Jad rfl rfl | exact Jae rfl rfl | exact Jaf rfl rfl (by omega) | exact Jag Us.h Sz.h rfl rfl (by omega) | exact Jaj rfl | exact Jal rfl rfl | exact Jaq Us.h rfl | exact Jar Us.h Sz.h rfl rfl (by omega) | exact Jat rfl rfl | exact Jav Us.h rfl rfl); exact rfl) | refine Jch rfl rfl rfl ?_ | refine Jci rfl rfl rfl rfl rfl ?_ | refine Jcj rfl rfl rfl rfl ?_ | refine Jcg (Pu_loadAgg (cs := dskC (pDo dk o).1 sn3 sk3 st3) Us.h rfl Sz.h rfl (fun _ e j u hu => by rw [e, add0, hb10.cell]; exact hu)) rfl ?_)
      refine TL_storeAgg rfl rfl Sz.h hone3 hb77 rfl ?_
      intro w13 c13 hz13 hb713
      replace hb47 := hb47.ch c13 (by simp only [Iv]; omega)
      replace hx10 := hx10.ch c13 (by intro k _ _; simp only [Iv]; omega)
      have E13 : Ext w w13 := Ext.then_iv E12 c13 (by omega)
      repeat' (first | apply Jbq | apply Jbr | apply Jbs | apply Jbt | apply Jbu | apply Jbv | apply Jbw | apply Jbx | apply Jby | apply Jbz | apply Jca | apply Jcb | apply Jcc | (refine Jcd rfl ?_) | (refine Jce rfl ?_) | (refine Jcf rfl ?_) | (apply Jcg; (first | exact Jaa rfl | exact Jab rfl | exact Jac Us.h rfl | exact Jad rfl rfl | exact Jae rfl rfl | exact Jaf rfl rfl (by omega) | exact Jag Us.h Sz.h rfl rfl (by omega) | exact Jaj rfl | exact Jal rfl rfl | exact Jaq Us.h rfl | exact Jar Us.h Sz.h rfl rfl (by omega) | exact Jat rfl rfl | exact Jav Us.h rfl rfl); exact rfl) | refine Jch rfl rfl rfl ?_ | refine Jci rfl rfl rfl rfl rfl ?_ | refine Jcj rfl rfl rfl rfl ?_)
      refine Jcy rfl (fun hne => ?_) (fun h0 => ?_)
      · rw [hrun, pRun_stop hne]
        repeat' (first | apply Jbq | apply Jbr | apply Jbs | apply Jbt | apply Jbu | apply Jbv | apply Jbw | apply Jbx | apply Jby | apply Jbz | apply Jca | apply Jcb | apply Jcc | (refine Jcd rfl ?_) | (refine Jce rfl ?_) | (refine Jcf rfl ?_) | (apply Jcg; (first | exact Jaa rfl | exact Jab rfl | exact Jac Us.h rfl | exact Jad rfl rfl | exact Jae rfl rfl | exact Jaf rfl rfl (by omega) | exact Jag Us.h Sz.h rfl rfl (by omega) | exact Jaj rfl | exact Jal rfl rfl | exact Jaq Us.h rfl | exact Jar Us.h Sz.h rfl rfl (by omega) | exact Jat rfl rfl | exact Jav Us.h rfl rfl); exact rfl) | refine Jch rfl rfl rfl ?_ | refine Jci rfl rfl rfl rfl rfl ?_ | refine Jcj rfl rfl rfl rfl ?_ | refine Jcg (Pu_loadAgg (cs := dskC (pDo dk o).1 sn3 sk3 st3) Us.h rfl Sz.h rfl (fun _ e j u hu => by rw [e, add0, hb713.cell]; exact hu)) rfl ?_)
        refine TL_storeAgg rfl rfl Sz.h hone3 hb47 rfl ?_
        intro w14 c14 hz14 hb14
        repeat' (first | apply Jbq | apply Jbr | apply Jbs | apply Jbt | apply Jbu | apply Jbv | apply Jbw | apply Jbx | apply Jby | apply Jbz | apply Jca | apply Jcb | apply Jcc | (refine Jcd rfl ?_) | (refine Jce rfl ?_) | (refine Jcf rfl ?_) | (apply Jcg; (first | exact Jaa rfl | exact Jab rfl | exact Jac Us.h rfl | exact Jad rfl rfl | exact Jae rfl rfl | exact Jaf rfl rfl (by omega) | exact Jag Us.h Sz.h rfl rfl (by omega) | exact Jaj rfl | exact Jal rfl rfl | exact Jaq Us.h rfl | exact Jar Us.h Sz.h rfl rfl (by omega) | exact Jat rfl rfl | exact Jav Us.h rfl rfl); exact rfl) | refine Jch rfl rfl rfl ?_ | refine Jci rfl rfl rfl rfl rfl ?_ | refine Jcj rfl rfl rfl rfl ?_)
        exact TR_of (resA2 rfl rfl rfl rfl hb14 Us.h rfl Sz.h) ⟨sn3, sk3, st3, rfl, Ext.then_iv E13 c14 (by omega), (hx10.ch c14 (by intro k _ _; simp only [Iv]; omega)).wide (by have := E9.size; omega) (by omega) (Nat.le_refl _)⟩
      · rw [pRun_go h0] at hrun
        repeat' (first | apply Jbq | apply Jbr | apply Jbs | apply Jbt | apply Jbu | apply Jbv | apply Jbw | apply Jbx | apply Jby | apply Jbz | apply Jca | apply Jcb | apply Jcc | (refine Jcd rfl ?_) | (refine Jce rfl ?_) | (refine Jcf rfl ?_) | (apply Jcg; (first | exact Jaa rfl | exact Jab rfl | exact Jac Us.h rfl | exact Jad rfl rfl | exact Jae rfl rfl | exact Jaf rfl rfl (by omega) | exact Jag Us.h Sz.h rfl rfl (by omega) | exact Jaj rfl | exact Jal rfl rfl | exact Jaq Us.h rfl | exact Jar Us.h Sz.h rfl rfl (by omega) | exact Jat rfl rfl | exact Jav Us.h rfl rfl); exact rfl) | refine Jch rfl rfl rfl ?_ | refine Jci rfl rfl rfl rfl rfl ?_ | refine Jcj rfl rfl rfl rfl ?_)
        exact TN_round (k + 1, (pDo dk o).1, sn3, sk3, st3) (subEnv_cons rfl (subEnv_cons rfl (subEnv_cons rfl (subEnv_cons rfl (subEnv_cons rfl (subEnv_cons rfl (subEnv_nil _))))))) ⟨hlt, (pDo_zero h0).2.2, hrun, E13, by omega, hb47, hb713, _, _, hx10, by omega, by omega, by omega⟩ (by simp only; omega)
    · obtain rfl : k = es.length := by omega
      rw [List.drop_eq_nil_of_le (by omega), pRun_nil] at hrun
      rw [hrun]
      have hone3 := hx7.one
      repeat' (first | apply Jbq | apply Jbr | apply Jbs | apply Jbt | apply Jbu | apply Jbv | apply Jbw | apply Jbx | apply Jby | apply Jbz | apply Jca | apply Jcb | apply Jcc | (refine Jcd rfl ?_) | (refine Jce rfl ?_) | (refine Jcf rfl ?_) | (apply Jcg; (first | exact Jaa rfl | exact Jab rfl | exact Jac Us.h rfl | exact Jad rfl rfl | exact Jae rfl rfl | exact Jaf rfl rfl (by omega) | exact Jag Us.h Sz.h rfl rfl (by omega) | exact Jaj rfl | exact Jal rfl rfl | exact Jaq Us.h rfl | exact Jar Us.h Sz.h rfl rfl (by omega) | exact Jat rfl rfl | exact Jav Us.h rfl rfl); exact rfl) | refine Jch rfl rfl rfl ?_ | refine Jci rfl rfl rfl rfl rfl ?_ | refine Jcj rfl rfl rfl rfl ?_ | refine Jcg (Pu_loadAgg (cs := dskC dk sn2 sk2 st2) Us.h rfl Sz.h rfl (fun _ e j u hu => by rw [e, add0, hb77.cell]; exact hu)) rfl ?_)
      refine TL_storeAgg rfl rfl Sz.h hone3 hb47 rfl ?_
      intro w14 c14 hz14 hb14
      repeat' (first | apply Jbq | apply Jbr | apply Jbs | apply Jbt | apply Jbu | apply Jbv | apply Jbw | apply Jbx | apply Jby | apply Jbz | apply Jca | apply Jcb | apply Jcc | (refine Jcd rfl ?_) | (refine Jce rfl ?_) | (refine Jcf rfl ?_) | (apply Jcg; (first | exact Jaa rfl | exact Jab rfl | exact Jac Us.h rfl | exact Jad rfl rfl | exact Jae rfl rfl | exact Jaf rfl rfl (by omega) | exact Jag Us.h Sz.h rfl rfl (by omega) | exact Jaj rfl | exact Jal rfl rfl | exact Jaq Us.h rfl | exact Jar Us.h Sz.h rfl rfl (by omega) | exact Jat rfl rfl | exact Jav Us.h rfl rfl); exact rfl) | refine Jch rfl rfl rfl ?_ | refine Jci rfl rfl rfl rfl rfl ?_ | refine Jcj rfl rfl rfl rfl ?_)
      exact TR_of (resA2 rfl rfl rfl rfl hb14 Us.h rfl Sz.h) ⟨sn2, sk2, st2, rfl, Ext.then_iv E7 c14 (by omega), (hx7.ch c14 (by intro k _ _; simp only [Iv]; omega)).wide (by omega) (by omega) (Nat.le_refl _)⟩
set_option maxRecDepth 100000 in
set_option maxHeartbeats 8000000 in
theorem specDiskRun_c {w : World} {lo hi lo2 hi2 : Nat} {d : DiskP} {sn sk st vl : Value} {l : List OpD} (h : RDk w lo hi d sn sk st) (hf : d.fits) (hl : totD d ≤ 1048576) (ho : ROp w lo2 hi2 vl l) (hof : ∀ o ∈ l, o.fits) (hll : l.length ≤ 1099511627776) :
    Ret Tryz.prog 28 #[.agg (dskC d sn sk st).toArray, vl] w fun v' w' => ∃ sn' sk' st', v' = .tuple #[.agg (dskC (pRuns d l).1 sn' sk' st').toArray, I (pRuns d l).2.1, I (pRuns d l).2.2] ∧ Ext w w' ∧ ODk w' w.heap.size w'.heap.size (pRuns d l).1 sn' sk' st' := by
  have hh := h
  obtain ⟨es, A, c, hem, rfl, hc, hr, hdat⟩ := ho
  have hel : es.length = l.length := by rw [← hem, List.length_map]
  refine Ret_enter Tryz.func28 rfl rfl rfl ?_
  repeat' (first | apply Jbq | apply Jbr | apply Jbs | apply Jbt | apply Jbu | apply Jbv | apply Jbw | apply Jbx | apply Jby | apply Jbz | apply Jca | apply Jcb | apply Jcc | (refine Jcd rfl ?_) | (refine Jce rfl ?_) | (refine Jcf rfl ?_) | (apply Jcg; (first | exact Jaa rfl | exact Jab rfl | exact Jac Us.h rfl | exact Jad rfl rfl | exact Jae rfl rfl | exact Jaf rfl rfl (by omega) | exact Jag Us.h Sz.h rfl rfl (by omega) | exact Jaj rfl | exact Jal rfl rfl | exact Jaq Us.h rfl | exact Jar Us.h Sz.h rfl rfl (by omega) | exact Jat rfl rfl | exact Jav Us.h rfl rfl); exact rfl) | refine Jch rfl rfl rfl ?_ | refine Jci rfl rfl rfl rfl rfl ?_ | refine Jcj rfl rfl rfl rfl ?_)
  refine TL_box (cs := dskC d sn sk st) rfl rfl ?_
  intro w1 g2 e1 hg2 hz1 hb2
  repeat' (first | apply Jbq | apply Jbr | apply Jbs | apply Jbt | apply Jbu | apply Jbv | apply Jbw | apply Jbx | apply Jby | apply Jbz | apply Jca | apply Jcb | apply Jcc | (refine Jcd rfl ?_) | (refine Jce rfl ?_) | (refine Jcf rfl ?_) | (apply Jcg; (first | exact Jaa rfl | exact Jab rfl | exact Jac Us.h rfl | exact Jad rfl rfl | exact Jae rfl rfl | exact Jaf rfl rfl (by omega) | exact Jag Us.h Sz.h rfl rfl (by omega) | exact Jaj rfl | exact Jal rfl rfl | exact Jaq Us.h rfl | exact Jar Us.h Sz.h rfl rfl (by omega) | exact Jat rfl rfl | exact Jav Us.h rfl rfl); exact rfl) | refine Jch rfl rfl rfl ?_ | refine Jci rfl rfl rfl rfl rfl ?_ | refine Jcj rfl rfl rfl rfl ?_)
  refine TL_alloc Zs.h rfl rfl ?_
  intro w2 g4 e2 hg4 hz2 hb4
  replace hb2 := hb2.ext e2
  have E2 : Ext w w2 := e1.ext e2
  repeat' (first | apply Jbq | apply Jbr | apply Jbs | apply Jbt | apply Jbu | apply Jbv | apply Jbw | apply Jbx | apply Jby | apply Jbz | apply Jca | apply Jcb | apply Jcc | (refine Jcd rfl ?_) | (refine Jce rfl ?_) | (refine Jcf rfl ?_) | (apply Jcg; (first | exact Jaa rfl | exact Jab rfl | exact Jac Us.h rfl | exact Jad rfl rfl | exact Jae rfl rfl | exact Jaf rfl rfl (by omega) | exact Jag Us.h Sz.h rfl rfl (by omega) | exact Jaj rfl | exact Jal rfl rfl | exact Jaq Us.h rfl | exact Jar Us.h Sz.h rfl rfl (by omega) | exact Jat rfl rfl | exact Jav Us.h rfl rfl); exact rfl) | refine Jch rfl rfl rfl ?_ | refine Jci rfl rfl rfl rfl rfl ?_ | refine Jcj rfl rfl rfl rfl ?_ | refine Jcg (Pu_loadAgg (cs := dskC d sn sk st) Us.h rfl Sz.h rfl (fun _ e j u hu => by rw [e, add0, hb2.cell]; exact hu)) rfl ?_)
  refine TL_call rfl en57 (specDiskOk_c (hh.ext E2) hf hl) rfl rfl ?_
  rintro _ w3 ⟨rfl, e3⟩
  replace hb2 := hb2.ext e3
  replace hb4 := hb4.ext e3
  have hs3 := e3.size
  have E3 := E2.ext e3
  cases hp : pDOk d with
  | false =>
    rw [pRuns_no (fun h => by rw [pDOk_yes h] at hp; cases hp)]
    repeat' (first | apply Jbq | apply Jbr | apply Jbs | apply Jbt | apply Jbu | apply Jbv | apply Jbw | apply Jbx | apply Jby | apply Jbz | apply Jca | apply Jcb | apply Jcc | (refine Jcd rfl ?_) | (refine Jce rfl ?_) | (refine Jcf rfl ?_) | (apply Jcg; (first | exact Jaa rfl | exact Jab rfl | exact Jac Us.h rfl | exact Jad rfl rfl | exact Jae rfl rfl | exact Jaf rfl rfl (by omega) | exact Jag Us.h Sz.h rfl rfl (by omega) | exact Jaj rfl | exact Jal rfl rfl | exact Jaq Us.h rfl | exact Jar Us.h Sz.h rfl rfl (by omega) | exact Jat rfl rfl | exact Jav Us.h rfl rfl); exact rfl) | refine Jch rfl rfl rfl ?_ | refine Jci rfl rfl rfl rfl rfl ?_ | refine Jcj rfl rfl rfl rfl ?_ | refine Jcg (Pu_build (cs := dskC noDk (.slice none 0 0) (.slice none 0 0) (.slice none 0 0)) rfl (by kernel_rfl)) rfl ?_)
    refine TL_storeAgg rfl rfl Sz.h rfl hb4 rfl ?_
    intro w8 c8 hz8 hb8
    have E8 : Ext w w8 := Ext.then_iv E3 c8 (by omega)
    repeat' (first | apply Jbq | apply Jbr | apply Jbs | apply Jbt | apply Jbu | apply Jbv | apply Jbw | apply Jbx | apply Jby | apply Jbz | apply Jca | apply Jcb | apply Jcc | (refine Jcd rfl ?_) | (refine Jce rfl ?_) | (refine Jcf rfl ?_) | (apply Jcg; (first | exact Jaa rfl | exact Jab rfl | exact Jac Us.h rfl | exact Jad rfl rfl | exact Jae rfl rfl | exact Jaf rfl rfl (by omega) | exact Jag Us.h Sz.h rfl rfl (by omega) | exact Jaj rfl | exact Jal rfl rfl | exact Jaq Us.h rfl | exact Jar Us.h Sz.h rfl rfl (by omega) | exact Jat rfl rfl | exact Jav Us.h rfl rfl); exact rfl) | refine Jch rfl rfl rfl ?_ | refine Jci rfl rfl rfl rfl rfl ?_ | refine Jcj rfl rfl rfl rfl ?_)
    exact TR_of (resA2 rfl rfl rfl rfl hb8 Us.h rfl Sz.h) ⟨_, _, _, rfl, E8, ODk.nil (Nat.le_refl _)⟩
  | true =>
    have hD := pDOk_of hp
    rw [pRuns_yes hD]
    repeat' (first | apply Jbq | apply Jbr | apply Jbs | apply Jbt | apply Jbu | apply Jbv | apply Jbw | apply Jbx | apply Jby | apply Jbz | apply Jca | apply Jcb | apply Jcc | (refine Jcd rfl ?_) | (refine Jce rfl ?_) | (refine Jcf rfl ?_) | (apply Jcg; (first | exact Jaa rfl | exact Jab rfl | exact Jac Us.h rfl | exact Jad rfl rfl | exact Jae rfl rfl | exact Jaf rfl rfl (by omega) | exact Jag Us.h Sz.h rfl rfl (by omega) | exact Jaj rfl | exact Jal rfl rfl | exact Jaq Us.h rfl | exact Jar Us.h Sz.h rfl rfl (by omega) | exact Jat rfl rfl | exact Jav Us.h rfl rfl); exact rfl) | refine Jch rfl rfl rfl ?_ | refine Jci rfl rfl rfl rfl rfl ?_ | refine Jcj rfl rfl rfl rfl ?_ | refine Jcg (Pu_loadAgg (cs := dskC d sn sk st) Us.h rfl Sz.h rfl (fun _ e j u hu => by rw [e, add0, hb2.cell]; exact hu)) rfl ?_)
    refine TL_call rfl en58 (specl03Copy_c (hh.ext E3) hl) rfl rfl ?_
    rintro _ w4 ⟨sn1, sk1, st1, rfl, e4, hx⟩
    replace hb4 := hb4.ext e4
    have hs4 := e4.size
    have E4 := E3.ext e4
    have hone := hx.one
    repeat' (first | apply Jbq | apply Jbr | apply Jbs | apply Jbt | apply Jbu | apply Jbv | apply Jbw | apply Jbx | apply Jby | apply Jbz | apply Jca | apply Jcb | apply Jcc | (refine Jcd rfl ?_) | (refine Jce rfl ?_) | (refine Jcf rfl ?_) | (apply Jcg; (first | exact Jaa rfl | exact Jab rfl | exact Jac Us.h rfl | exact Jad rfl rfl | exact Jae rfl rfl | exact Jaf rfl rfl (by omega) | exact Jag Us.h Sz.h rfl rfl (by omega) | exact Jaj rfl | exact Jal rfl rfl | exact Jaq Us.h rfl | exact Jar Us.h Sz.h rfl rfl (by omega) | exact Jat rfl rfl | exact Jav Us.h rfl rfl); exact rfl) | refine Jch rfl rfl rfl ?_ | refine Jci rfl rfl rfl rfl rfl ?_ | refine Jcj rfl rfl rfl rfl ?_)
    refine TL_alloc Zs.h rfl rfl ?_
    intro w5 g7 e5 hg7 hz5 hb7
    replace hb4 := hb4.ext e5
    replace hx := hx.ext e5
    repeat' (first | apply Jbq | apply Jbr | apply Jbs | apply Jbt | apply Jbu | apply Jbv | apply Jbw | apply Jbx | apply Jby | apply Jbz | apply Jca | apply Jcb | apply Jcc | (refine Jcd rfl ?_) | (refine Jce rfl ?_) | (refine Jcf rfl ?_) | (apply Jcg; (first | exact Jaa rfl | exact Jab rfl | exact Jac Us.h rfl | exact Jad rfl rfl | exact Jae rfl rfl | exact Jaf rfl rfl (by omega) | exact Jag Us.h Sz.h rfl rfl (by omega) | exact Jaj rfl | exact Jal rfl rfl | exact Jaq Us.h rfl | exact Jar Us.h Sz.h rfl rfl (by omega) | exact Jat rfl rfl | exact Jav Us.h rfl rfl); exact rfl) | refine Jch rfl rfl rfl ?_ | refine Jci rfl rfl rfl rfl rfl ?_ | refine Jcj rfl rfl rfl rfl ?_)
    refine TL_storeAgg rfl rfl Sz.h hone hb7 rfl ?_
    clear hb7
    intro w6 c6 hz6 hb7
    replace hb4 := hb4.ch c6 (by simp only [Iv]; omega)
    replace hx := hx.ch c6 (by intro k _ _; simp only [Iv]; omega)
    have E6 : Ext w w6 := Ext.then_iv (E4.ext e5) c6 (by have := E4.size; omega)
    have hg47 : w.heap.size ≤ g4 ∧ g4 < w3.heap.size ∧ g7 = w4.heap.size := by have := E2.size; omega
    repeat' (first | apply Jbq | apply Jbr | apply Jbs | apply Jbt | apply Jbu | apply Jbv | apply Jbw | apply Jbx | apply Jby | apply Jbz | apply Jca | apply Jcb | apply Jcc | (refine Jcd rfl ?_) | (refine Jce rfl ?_) | (refine Jcf rfl ?_) | (apply Jcg; (first | exact Jaa rfl | exact Jab rfl | exact Jac Us.h rfl | exact Jad rfl rfl | exact Jae rfl rfl | exact Jaf rfl rfl (by omega) | exact Jag Us.h Sz.h rfl rfl (by omega) | exact Jaj rfl | exact Jal rfl rfl | exact Jaq Us.h rfl | exact Jar Us.h Sz.h rfl rfl (by omega) | exact Jat rfl rfl | exact Jav Us.h rfl rfl); exact rfl) | refine Jch rfl rfl rfl ?_ | refine Jci rfl rfl rfl rfl rfl ?_ | refine Jcj rfl rfl rfl rfl ?_)
    refine TC_loop (ι := Nat × DiskP × Value × Value × Value) (fun x => [(1, .slice A es.length c), (4, .pointer (some ⟨g4, 0, none⟩)), (7, .pointer (some ⟨g7, 0, none⟩)), (18, .slice A es.length c), (19, I es.length), (20, I x.1)])
      (fun x w' => x.1 ≤ es.length ∧ DOk x.2.1 ∧ pRun d 0 l = pRun x.2.1 x.1 (l.drop x.1) ∧ Ext w w' ∧ w6.heap.size ≤ w'.heap.size ∧ Blk w' g4 33 (dskC noDk (.slice none 0 0) (.slice none 0 0) (.slice none 0 0)) ∧ Blk w' g7 33 (dskC x.2.1 x.2.2.1 x.2.2.2.1 x.2.2.2.2) ∧ ∃ lo' hi', ODk w' lo' hi' x.2.1 x.2.2.1 x.2.2.2.1 x.2.2.2.2 ∧ w3.heap.size ≤ lo' ∧ hi' ≤ w'.heap.size ∧ (g7 < lo' ∨ hi' ≤ g7)) (fun x => es.length - x.1) (0, d, sn1, sk1, st1)
      (subEnv_cons rfl (subEnv_cons rfl (subEnv_cons rfl (subEnv_cons rfl (subEnv_cons rfl (subEnv_cons rfl (subEnv_nil _))))))) ⟨Nat.zero_le _, hD, rfl, E6, Nat.le_refl _, hb4, hb7, _, _, hx, Nat.le_refl _, by omega, by omega⟩ ?_
    rintro ⟨k, dk, sn2, sk2, st2⟩ w7 ⟨hk7, hDk, hrun, E7, hs7, hb47, hb77, lo', hi', hx7, hlo, hhi, hg⟩
    simp only at hk7 hDk hrun hb77 hx7
    show TC _ _ _ _ [(1, .slice A es.length c), (4, .pointer (some ⟨g4, 0, none⟩)), (7, .pointer (some ⟨g7, 0, none⟩)), (18, .slice A es.length c), (19, I es.length), (20, I (k : Int))] w7
    repeat' (first | apply Jbq | apply Jbr | apply Jbs | apply Jbt | apply Jbu | apply Jbv | apply Jbw | apply Jbx | apply Jby | apply Jbz | apply Jca | apply Jcb | apply Jcc | (refine Jcd rfl ?_) | (refine Jce rfl ?_) | (refine Jcf rfl ?_) | (apply Jcg; (first | exact Jaa rfl | exact Jab rfl | exact Jac Us.h rfl | exact Jad rfl rfl | exact Jae rfl rfl | exact Jaf rfl rfl (by omega) | exact Jag Us.h Sz.h rfl rfl (by omega) | exact Jaj rfl | exact Jal rfl rfl | exact Jaq Us.h rfl | exact Jar Us.h Sz.h rfl rfl (by omega) | exact Jat rfl rfl | exact Jav Us.h rfl rfl); exact rfl) | refine Jch rfl rfl rfl ?_ | refine Jci rfl rfl rfl rfl rfl ?_ | refine Jcj rfl rfl rfl rfl ?_)
    refine Jcx rfl (fun hlt0 => ?_) (fun hge => ?_)
    · have hlt : k < es.length := by omega
      obtain ⟨ad, rfl, hcell⟩ := Rd.elem OdC_len (hr.ext E7) hlt
      have hdx := hdat _ (List.getElem_mem hlt)
      have hlk : l[k]'(by omega) = es[k].o := by simp only [← hem, List.getElem_map]
      have hof' := hof _ (List.getElem_mem (show k < l.length by omega))
      have hdr : l.drop k = es[k].o :: l.drop (k + 1) := by rw [← hlk]; exact List.drop_eq_getElem_cons (by omega)
      rw [hlk] at hof'
      rw [hdr] at hrun
      obtain ⟨x, hx⟩ : ∃ x, x = es[k] := ⟨_, rfl⟩
      rw [← hx] at hcell hdx hof' hrun
      obtain ⟨o, v⟩ := x
      simp only at hdx hof' hrun
      have hdx0 := hdx
      obtain ⟨Ad, cd, rfl, hcd, hrd⟩ := hdx
      replace hcell : ∀ j u, (opC o (.slice Ad o.data.length cd))[j]? = some u → w7.cell? ((ad.add (k * 5)).add j) = some u := hcell
      repeat' (first | apply Jbq | apply Jbr | apply Jbs | apply Jbt | apply Jbu | apply Jbv | apply Jbw | apply Jbx | apply Jby | apply Jbz | apply Jca | apply Jcb | apply Jcc | (refine Jcd rfl ?_) | (refine Jce rfl ?_) | (refine Jcf rfl ?_) | (apply Jcg; (first | exact Jaa rfl | exact Jab rfl | exact Jac Us.h rfl | exact Jad rfl rfl | exact Jae rfl rfl | exact Jaf rfl rfl (by omega) | exact Jag Us.h Sz.h rfl rfl (by omega) | exact Jaj rfl | exact Jal rfl rfl | exact Jaq Us.h rfl | exact Jar Us.h Sz.h rfl rfl (by omega) | exact Jat rfl rfl | exact Jav Us.h rfl rfl); exact rfl) | refine Jch rfl rfl rfl ?_ | refine Jci rfl rfl rfl rfl rfl ?_ | refine Jcj rfl rfl rfl rfl ?_ | refine Jcg (Pu_loadAgg (cs := opC o (.slice Ad o.data.length cd)) Us.h rfl Sz.h rfl (fun _ e j u hu => by rw [e]; exact hcell j u hu)) rfl ?_ | (refine TL_alloc Zs.h rfl rfl ?_; intro w8 g9 e8 hg9 hz8 hb9) | (refine TL_storeAgg rfl rfl Sz.h rfl hb9 rfl ?_; intro w9 c9 hz9 hb99))
      clear hb9
      have e79 : Ext w7 w9 := Ext.then_iv e8 c9 (by omega)
      have hs9 := e79.size
      replace hb47 := hb47.ext e79
      replace hb77 := hb77.ext e79
      replace hx7 := hx7.ext e79
      have E9 := E7.ext e79
      repeat' (first | apply Jbq | apply Jbr | apply Jbs | apply Jbt | apply Jbu | apply Jbv | apply Jbw | apply Jbx | apply Jby | apply Jbz | apply Jca | apply Jcb | apply Jcc | (refine Jcd rfl ?_) | (refine Jce rfl ?_) | (refine Jcf rfl ?_) | (apply Jcg; (first | exact Jaa rfl | exact Jab rfl | exact Jac Us.h rfl | exact Jad rfl rfl | exact Jae rfl rfl | exact Jaf rfl rfl (by omega) | exact Jag Us.h Sz.h rfl rfl (by omega) | exact Jaj rfl | exact Jal rfl rfl | exact Jaq Us.h rfl | exact Jar Us.h Sz.h rfl rfl (by omega) | exact Jat rfl rfl | exact Jav Us.h rfl rfl); exact rfl) | refine Jch rfl rfl rfl ?_ | refine Jci rfl rfl rfl rfl rfl ?_ | refine Jcj rfl rfl rfl rfl ?_ | refine Jcg (Pu_loadAgg (cs := dskC dk sn2 sk2 st2) Us.h rfl Sz.h rfl (fun _ e j u hu => by rw [e, add0, hb77.cell]; exact hu)) rfl ?_ | refine Jcg (Pu_loadAgg (cs := opC o (.slice Ad o.data.length cd)) Us.h rfl Sz.h rfl (fun _ e j u hu => by rw [e, add0, hb99.cell]; exact hu)) rfl ?_)
      refine TL_call rfl en22 (specDiskDo_c hx7.rd hDk.fitsD (by have := hDk.totD; omega) (hdx0.ext E9) hof') rfl rfl ?_
      rintro _ w10 ⟨sn3, sk3, st3, rfl, e10, hx10⟩
      replace hb47 := hb47.ext e10
      replace hb77 := hb77.ext e10
      have hs10 := e10.size
      have E10 := E9.ext e10
      have hone3 := hx10.one
      repeat' (first | apply Jbq | apply Jbr | apply Jbs | apply Jbt | apply Jbu | apply Jbv | apply Jbw | apply Jbx | apply Jby | apply Jbz | apply Jca | apply Jcb | apply Jcc | (refine Jcd rfl ?_) | (refine Jce rfl ?_) | (refine Jcf rfl ?_) | (apply Jcg; (first | exact Jaa rfl | exact Jab rfl | exact Jac Us.h rfl | exact Jad rfl rfl | exact Jae rfl rfl | exact Jaf rfl rfl (by omega) | exact Jag Us.h Sz.h rfl rfl (by omega) | exact Jaj rfl | exact Jal rfl rfl | exact Jaq Us.h rfl | exact Jar Us.h Sz.h rfl rfl (by omega) | exact Jat rfl rfl | exact Jav Us.h rfl rfl); exact rfl) | refine Jch rfl rfl rfl ?_ | refine Jci rfl rfl rfl rfl rfl ?_ | refine Jcj rfl rfl rfl rfl ?_)
      refine TL_alloc Zs.h rfl rfl ?_
      intro w11 g10 e11 hg10 hz11 hb10
      replace hb47 := hb47.ext e11
      replace hb77 := hb77.ext e11
      replace hx10 := hx10.ext e11
      repeat' (first | apply Jbq | apply Jbr | apply Jbs | apply Jbt | apply Jbu | apply Jbv | apply Jbw | apply Jbx | apply Jby | apply Jbz | apply Jca | apply Jcb | apply Jcc | (refine Jcd rfl ?_) | (refine Jce rfl ?_) | (refine Jcf rfl ?_) | (apply Jcg; (first | exact Jaa rfl | exact Jab rfl | exact Jac Us.h rfl | exact Jad rfl rfl | exact Jae rfl rfl | exact Jaf rfl rfl (by omega) | exact Jag Us.h Sz.h rfl rfl (by omega) | exact Jaj rfl | exact Jal rfl rfl | exact Jaq Us.h rfl | exact Jar Us.h Sz.h rfl rfl (by omega) | exact Jat rfl rfl | exact Jav Us.h rfl rfl); exact rfl) | refine Jch rfl rfl rfl ?_ | refine Jci rfl rfl rfl rfl rfl ?_ | refine Jcj rfl rfl rfl rfl ?_)
      refine TL_storeAgg rfl rfl Sz.h hone3 hb10 rfl ?_
      clear hb10
      intro w12 c12 hz12 hb10
      replace hb47 := hb47.ch c12 (by simp only [Iv]; omega)
      replace hb77 := hb77.ch c12 (by simp only [Iv]; omega)
      replace hx10 := hx10.ch c12 (by intro k _ _; simp only [Iv]; omega)
      have E12 : Ext w w12 := Ext.then_iv (E10.ext e11) c12 (by have := E10.size; omega)
      repeat' (first | apply Jbq | apply Jbr | apply Jbs | apply Jbt | apply Jbu | apply Jbv | apply Jbw | apply Jbx | apply Jby | apply Jbz | apply Jca | apply Jcb | apply Jcc | (refine Jcd rfl ?_) | (refine Jce rfl ?_) | (refine Jcf rfl ?_) | (apply Jcg; (first | exact Jaa rfl | exact Jab rfl | exact Jac Us.h rfl | exact Jad rfl rfl | exact Jae rfl rfl | exact Jaf rfl rfl (by omega) | exact Jag Us.h Sz.h rfl rfl (by omega) | exact Jaj rfl | exact Jal rfl rfl | exact Jaq Us.h rfl | exact Jar Us.h Sz.h rfl rfl (by omega) | exact Jat rfl rfl | exact Jav Us.h rfl rfl); exact rfl) | refine Jch rfl rfl rfl ?_ | refine Jci rfl rfl rfl rfl rfl ?_ | refine Jcj rfl rfl rfl rfl ?_ | refine Jcg (Pu_loadAgg (cs := dskC (pDo dk o).1 sn3 sk3 st3) Us.h rfl Sz.h rfl (fun _ e j u hu => by rw [e, add0, hb10.cell]; exact hu)) rfl ?_)
      refine TL_storeAgg rfl rfl Sz.h hone3 hb77 rfl ?_
      intro w13 c13 hz13 hb713
      replace hb47 := hb47.ch c13 (by simp only [Iv]; omega)
      replace hx10 := hx10.ch c13 (by intro k _ _; simp only [Iv]; omega)
      have E13 : Ext w w13 := Ext.then_iv E12 c13 (by omega)
      repeat' (first | apply Jbq | apply Jbr | apply Jbs | apply Jbt | apply Jbu | apply Jbv | apply Jbw | apply Jbx | apply Jby | apply Jbz | apply Jca | apply Jcb | apply Jcc | (refine Jcd rfl ?_) | (refine Jce rfl ?_) | (refine Jcf rfl ?_) | (apply Jcg; (first | exact Jaa rfl | exact Jab rfl | exact Jac Us.h rfl | exact Jad rfl rfl | exact Jae rfl rfl | exact Jaf rfl rfl (by omega) | exact Jag Us.h Sz.h rfl rfl (by omega) | exact Jaj rfl | exact Jal rfl rfl | exact Jaq Us.h rfl | exact Jar Us.h Sz.h rfl rfl (by omega) | exact Jat rfl rfl | exact Jav Us.h rfl rfl); exact rfl) | refine Jch rfl rfl rfl ?_ | refine Jci rfl rfl rfl rfl rfl ?_ | refine Jcj rfl rfl rfl rfl ?_)
      refine Jcy rfl (fun hne => ?_) (fun h0 => ?_)
      · rw [hrun, pRun_stop hne]
        repeat' (first | apply Jbq | apply Jbr | apply Jbs | apply Jbt | apply Jbu | apply Jbv | apply Jbw | apply Jbx | apply Jby | apply Jbz | apply Jca | apply Jcb | apply Jcc | (refine Jcd rfl ?_) | (refine Jce rfl ?_) | (refine Jcf rfl ?_) | (apply Jcg; (first | exact Jaa rfl | exact Jab rfl | exact Jac Us.h rfl | exact Jad rfl rfl | exact Jae rfl rfl | exact Jaf rfl rfl (by omega) | exact Jag Us.h Sz.h rfl rfl (by omega) | exact Jaj rfl | exact Jal rfl rfl | exact Jaq Us.h rfl | exact Jar Us.h Sz.h rfl rfl (by omega) | exact Jat rfl rfl | exact Jav Us.h rfl rfl); exact rfl) | refine Jch rfl rfl rfl ?_ | refine Jci rfl rfl rfl rfl rfl ?_ | refine Jcj rfl rfl rfl rfl ?_ | refine Jcg (Pu_loadAgg (cs := dskC (pDo dk o).1 sn3 sk3 st3) Us.h rfl Sz.h rfl (fun _ e j u hu => by rw [e, add0, hb713.cell]; exact hu)) rfl ?_)
        refine TL_storeAgg rfl rfl Sz.h hone3 hb47 rfl ?_
        intro w14 c14 hz14 hb14
        repeat' (first | apply Jbq | apply Jbr | apply Jbs | apply Jbt | apply Jbu | apply Jbv | apply Jbw | apply Jbx | apply Jby | apply Jbz | apply Jca | apply Jcb | apply Jcc | (refine Jcd rfl ?_) | (refine Jce rfl ?_) | (refine Jcf rfl ?_) | (apply Jcg; (first | exact Jaa rfl | exact Jab rfl | exact Jac Us.h rfl | exact Jad rfl rfl | exact Jae rfl rfl | exact Jaf rfl rfl (by omega) | exact Jag Us.h Sz.h rfl rfl (by omega) | exact Jaj rfl | exact Jal rfl rfl | exact Jaq Us.h rfl | exact Jar Us.h Sz.h rfl rfl (by omega) | exact Jat rfl rfl | exact Jav Us.h rfl rfl); exact rfl) | refine Jch rfl rfl rfl ?_ | refine Jci rfl rfl rfl rfl rfl ?_ | refine Jcj rfl rfl rfl rfl ?_)
        exact TR_of (resA2 rfl rfl rfl rfl hb14 Us.h rfl Sz.h) ⟨sn3, sk3, st3, rfl, Ext.then_iv E13 c14 (by omega), (hx10.ch c14 (by intro k _ _; simp only [Iv]; omega)).wide (by have := E9.size; omega) (by omega) (Nat.le_refl _)⟩
      · rw [pRun_go h0] at hrun
        repeat' (first | apply Jbq | apply Jbr | apply Jbs | apply Jbt | apply Jbu | apply Jbv | apply Jbw | apply Jbx | apply Jby | apply Jbz | apply Jca | apply Jcb | apply Jcc | (refine Jcd rfl ?_) | (refine Jce rfl ?_) | (refine Jcf rfl ?_) | (apply Jcg; (first | exact Jaa rfl | exact Jab rfl | exact Jac Us.h rfl | exact Jad rfl rfl | exact Jae rfl rfl | exact Jaf rfl rfl (by omega) | exact Jag Us.h Sz.h rfl rfl (by omega) | exact Jaj rfl | exact Jal rfl rfl | exact Jaq Us.h rfl | exact Jar Us.h Sz.h rfl rfl (by omega) | exact Jat rfl rfl | exact Jav Us.h rfl rfl); exact rfl) | refine Jch rfl rfl rfl ?_ | refine Jci rfl rfl rfl rfl rfl ?_ | refine Jcj rfl rfl rfl rfl ?_)
        exact TN_round (k + 1, (pDo dk o).1, sn3, sk3, st3) (subEnv_cons rfl (subEnv_cons rfl (subEnv_cons rfl (subEnv_cons rfl (subEnv_cons rfl (subEnv_cons rfl (subEnv_nil _))))))) ⟨hlt, (pDo_zero h0).2.2, hrun, E13, by omega, hb47, hb713, _, _, hx10, by omega, by omega, by omega⟩ (by simp only; omega)
    · obtain rfl : k = es.length := by omega
      rw [List.drop_eq_nil_of_le (by omega), pRun_nil] at hrun
      rw [hrun]
      have hone3 := hx7.one
      repeat' (first | apply Jbq | apply Jbr | apply Jbs | apply Jbt | apply Jbu | apply Jbv | apply Jbw | apply Jbx | apply Jby | apply Jbz | apply Jca | apply Jcb | apply Jcc | (refine Jcd rfl ?_) | (refine Jce rfl ?_) | (refine Jcf rfl ?_) | (apply Jcg; (first | exact Jaa rfl | exact Jab rfl | exact Jac Us.h rfl | exact Jad rfl rfl | exact Jae rfl rfl | exact Jaf rfl rfl (by omega) | exact Jag Us.h Sz.h rfl rfl (by omega) | exact Jaj rfl | exact Jal rfl rfl | exact Jaq Us.h rfl | exact Jar Us.h Sz.h rfl rfl (by omega) | exact Jat rfl rfl | exact Jav Us.h rfl rfl); exact rfl) | refine Jch rfl rfl rfl ?_ | refine Jci rfl rfl rfl rfl rfl ?_ | refine Jcj rfl rfl rfl rfl ?_ | refine Jcg (Pu_loadAgg (cs := dskC dk sn2 sk2 st2) Us.h rfl Sz.h rfl (fun _ e j u hu => by rw [e, add0, hb77.cell]; exact hu)) rfl ?_)
      refine TL_storeAgg rfl rfl Sz.h hone3 hb47 rfl ?_
      intro w14 c14 hz14 hb14
      repeat' (first | apply Jbq | apply Jbr | apply Jbs | apply Jbt | apply Jbu | apply Jbv | apply Jbw | apply Jbx | apply Jby | apply Jbz | apply Jca | apply Jcb | apply Jcc | (refine Jcd rfl ?_) | (refine Jce rfl ?_) | (refine Jcf rfl ?_) | (apply Jcg; (first | exact Jaa rfl | exact Jab rfl | exact Jac Us.h rfl | exact Jad rfl rfl | exact Jae rfl rfl | exact Jaf rfl rfl (by omega) | exact Jag Us.h Sz.h rfl rfl (by omega) | exact Jaj rfl | exact Jal rfl rfl | exact Jaq Us.h rfl | exact Jar Us.h Sz.h rfl rfl (by omega) | exact Jat rfl rfl | exact Jav Us.h rfl rfl); exact rfl) | refine Jch rfl rfl rfl ?_ | refine Jci rfl rfl rfl rfl rfl ?_ | refine Jcj rfl rfl rfl rfl ?_)
      exact TR_of (resA2 rfl rfl rfl rfl hb14 Us.h rfl Sz.h) ⟨sn2, sk2, st2, rfl, Ext.then_iv E7 c14 (by omega), (hx7.ch c14 (by intro k _ _; simp only [Iv]; omega)).wide (by omega) (by omega) (Nat.le_refl _)⟩
end Go.Proofs.YtggaghghclomkaaGreat

/- Contracts: rows of operations in the laws' harness: sizes, copies that are owned, comparisons, marks. Conditions: lengths. -/
namespace Go.Proofs.YtggaghghclomkaaGreat
open Go.RowKit Go.ChangeShapes Go.WideShapes Go.Deep
abbrev OpP := OpD
def OdP (x : Od) : OpP := x.o
def OdOk (w : World) (lo hi : Nat) (x : Od) : Prop := RB w lo hi x.v x.o.data
def OdW (o : OpP) : Int := OpW o
def OdFit (o : OpP) : Prop := o.fits ∧ o.data.length ≤ 9223372036854775807
theorem OdOk.ch {w w' : World} {lo hi : Nat} {d : Od} {T : Nat → Prop} (h : OdOk w lo hi d) (c : Ch T w w') (hd : ∀ k, lo ≤ k → k < hi → ¬ T k) : OdOk w' lo hi d := RB.ch h c hd
theorem OdOk.wide {w : World} {lo hi lo' hi' : Nat} {d : Od} (h : OdOk w lo hi d) (h1 : lo' ≤ lo) (h2 : hi ≤ hi') (h3 : hi' ≤ w.heap.size) : OdOk w lo' hi' d := RB.wide h h1 h2 h3
section
variable {H : Type} {enc : TypeId × Value → H} {P : Program} {w : World} {base : Nat} {spare : Nat → Bool} {held : Bool} {t e : TypeId} {fuel : Nat} {v : Value} {x : DataW H × List MemPlace}
theorem cell_od {cs : List Value} {f0 f1 f2 f3 f4 : Field} {e8 : TypeId} (he : P.underlying e = some (.struct #[f0, f1, f2, f3, f4])) (hc : P.cellsOf e = 5) (h0 : f0.offset = 0) (h1 : f1.offset = 1) (h2 : f2.offset = 2) (h3 : f3.offset = 3) (h4 : f4.offset = 4)
    (t0 : P.underlying f0.type = some (.int .i64)) (t1 : P.underlying f1.type = some .string) (t2 : P.underlying f2.type = some .string) (t3 : P.underlying f3.type = some (.int .i64)) (t4 : P.underlying f4.type = some (.slice e8)) (t8 : P.underlying e8 = some (.int .u8)) (c8 : P.cellsOf e8 = 1)
    (c0 : P.cellsOf f0.type = 1) (c1 : P.cellsOf f1.type = 1) (c2 : P.cellsOf f2.type = 1) (c3 : P.cellsOf f3.type = 1) (c4 : P.cellsOf f4.type = 1)
    (h : DataW.trod enc P w base spare held fuel e cs = some x) : ∃ d : Od, cs = OdC d ∧ OdOk w 0 w.heap.size d ∧ OdFit (OdP d) := by
  obtain ⟨o, A, c, hcs, hf, m, b, R⟩ := cell_op he hc h0 h1 h2 h3 h4 t0 t1 t2 t3 t4 t8 c8 c0 c1 c2 c3 c4 h
  exact ⟨⟨o, .slice A o.data.length c⟩, hcs, ⟨A, c, rfl, m, R⟩, hf, by simp only [OdP]; omega⟩
end
attribute [local irreducible] TL TC TN TX TR TQ TA Pu Ret
theorem szOd_c {w : World} {lo hi : Nat} {d : Od} {left : Int} (h : OdOk w lo hi d) (hf : OdFit (OdP d)) (h0 : 0 ≤ left) (h1 : left ≤ 1048576) :
    Ret Tryz.prog 21 #[.agg (OdC d).toArray, I left] w fun v w' => (v = I (-1) ∨ (v = I (left - OdW (OdP d)) ∧ OdW (OdP d) ≤ left)) ∧ Ext w w' := szOp_c2 h hf.1 hf.2 h0 h1
theorem eqOd_c {w : World} {lo hi lo2 hi2 : Nat} {d d2 : Od} (h : OdOk w lo hi d) (h2 : OdOk w lo2 hi2 d2) (hp : OdP d = OdP d2) (hl : OdW (OdP d) ≤ 1048576) :
    Ret Tryz.prog 25 #[.agg (OdC d).toArray, .agg (OdC d2).toArray] w fun v' w' => v' = .bool true ∧ Ext w w' := by
  obtain ⟨o, v⟩ := d
  obtain ⟨o2, v2⟩ := d2
  have hp : o = o2 := hp
  subst hp
  have hl : OpW o ≤ 1048576 := hl
  unfold OpW at hl
  exact eqOp_c (o := o) h h2 (by omega)
/-! lists of Op -/
def totOd (l : List OpP) : Int := (l.map OdW).sum
theorem OdW_nn (p : OpP) : 0 ≤ OdW p := by unfold OdW OpW; omega
theorem totOd_take {l : List OpP} {k : Nat} (h : k < l.length) : totOd (l.take (k + 1)) = totOd (l.take k) + OdW l[k] := by
  unfold totOd
  rw [List.take_succ_eq_append_getElem h, List.map_append, List.sum_append]
  simp
theorem totOd_nn (l : List OpP) : 0 ≤ totOd l := by
  induction l with
  | nil => simp [totOd]
  | cons a l ih => have := OdW_nn a; simp only [totOd, List.map_cons, List.sum_cons] at *; omega
theorem totOd_mem {l : List OpP} {p : OpP} (h : p ∈ l) : OdW p ≤ totOd l := by
  induction l with
  | nil => cases h
  | cons a l ih =>
    have := totOd_nn l
    have := OdW_nn a
    simp only [totOd, List.map_cons, List.sum_cons] at *
    rcases List.mem_cons.1 h with rfl | h
    · omega
    · have := ih h; omega
def ROps (w : World) (lo hi : Nat) (v : Value) (l : List OpP) : Prop := ∃ (ds : List Od) (A : Option Addr) (c : Nat), ds.map OdP = l ∧ v = .slice A ds.length c ∧ ds.length ≤ c ∧ Rd w lo hi 5 A ds.length (cellsL OdC ds) ∧ ∀ d ∈ ds, OdOk w lo hi d
theorem ROps.ch {w w' : World} {lo hi : Nat} {v : Value} {l : List OpP} {T : Nat → Prop} (h : ROps w lo hi v l) (c : Ch T w w') (hd : ∀ k, lo ≤ k → k < hi → ¬ T k) : ROps w' lo hi v l := by
  obtain ⟨ds, A, cc, h1, h2, h3, h4, h5⟩ := h
  exact ⟨ds, A, cc, h1, h2, h3, h4.ch c hd, fun d hm => (h5 d hm).ch c hd⟩
theorem ROps.ext {w w' : World} {lo hi : Nat} {v : Value} {l : List OpP} (h : ROps w lo hi v l) (c : Ext w w') : ROps w' lo hi v l := h.ch c (fun _ _ _ t => t)
theorem ROps.one {w : World} {lo hi : Nat} {v : Value} {l : List OpP} (h : ROps w lo hi v l) : v.oneCell' = true := by obtain ⟨_, _, _, _, rfl, _⟩ := h; rfl
theorem ROps.wide {w : World} {lo hi lo' hi' : Nat} {v : Value} {l : List OpP} (h : ROps w lo hi v l) (h1 : lo' ≤ lo) (h2 : hi ≤ hi') (h3 : hi' ≤ w.heap.size) : ROps w lo' hi' v l := by
  obtain ⟨ds, A, cc, g1, g2, g3, g4, g5⟩ := h
  exact ⟨ds, A, cc, g1, g2, g3, g4.wide h1 h2 h3, fun d hm => (g5 d hm).wide h1 h2 h3⟩
set_option maxHeartbeats 1000000 in
theorem szOpS_k {w : World} {lo hi : Nat} {v : Value} {l : List OpP} {left : Int} (h : ROps w lo hi v l) (hlen : l.length ≤ 9223372036854775807) (h0 : 0 ≤ left) (h1 : left ≤ 1048576) (hd : ∀ p ∈ l, OdFit p) :
    Ret Tryz.prog 27 #[v, I left] w fun v w' => (v = I (-1) ∨ (v = I (left - l.length - totOd l) ∧ l.length + totOd l ≤ left)) ∧ Ext w w' := by
  obtain ⟨ds, A, c, rfl, rfl, _, hr, hok⟩ := h
  rw [List.length_map] at hlen ⊢
  refine Ret_enter Tryz.func27 rfl rfl rfl ?_
  repeat' (first | apply Jbq | apply Jbr | apply Jbs | apply Jbt | apply Jbu | apply Jbv | apply Jbw | apply Jbx | apply Jby | apply Jbz | apply Jca | apply Jcb | apply Jcc | (refine Jcd rfl ?_) | (refine Jce rfl ?_) | (refine Jcf rfl ?_) | (apply Jcg; (first | exact Jaa rfl | exact Jab rfl | exact Jac Us.h rfl | exact Jad rfl rfl | exact Jaf rfl rfl (by omega) | exact Jag Us.h Sz.h rfl rfl (by omega) | exact Jaj rfl | exact Jal rfl rfl | exact Jap rfl rfl (by omega) | exact Jaq Us.h rfl | exact Jar Us.h Sz.h rfl rfl (by omega) | exact Jat rfl rfl | exact Jav Us.h rfl rfl | (apply Jbl; exact Us.h; exact rfl; exact Sz.h; exact rfl)); exact rfl) | refine Jch rfl rfl rfl ?_ | refine Jci rfl rfl rfl rfl rfl ?_ | refine Jcj rfl rfl rfl rfl ?_)
  refine Jcx rfl (fun hb => ?_) (fun hb => ?_)
  · repeat' (first | apply Jbq | apply Jbr | apply Jbs | apply Jbt | apply Jbu | apply Jbv | apply Jbw | apply Jbx | apply Jby | apply Jbz | apply Jca | apply Jcb | apply Jcc | (refine Jcd rfl ?_) | (refine Jce rfl ?_) | (refine Jcf rfl ?_) | (apply Jcg; (first | exact Jaa rfl | exact Jab rfl | exact Jac Us.h rfl | exact Jad rfl rfl | exact Jaf rfl rfl (by omega) | exact Jag Us.h Sz.h rfl rfl (by omega) | exact Jaj rfl | exact Jal rfl rfl | exact Jap rfl rfl (by omega) | exact Jaq Us.h rfl | exact Jar Us.h Sz.h rfl rfl (by omega) | exact Jat rfl rfl | exact Jav Us.h rfl rfl | (apply Jbl; exact Us.h; exact rfl; exact Sz.h; exact rfl)); exact rfl) | refine Jch rfl rfl rfl ?_ | refine Jci rfl rfl rfl rfl rfl ?_ | refine Jcj rfl rfl rfl rfl ?_)
    exact TR_of (res1 rfl rfl) ⟨.inl rfl, Ch.refl _ _⟩
  · repeat' (first | apply Jbq | apply Jbr | apply Jbs | apply Jbt | apply Jbu | apply Jbv | apply Jbw | apply Jbx | apply Jby | apply Jbz | apply Jca | apply Jcb | apply Jcc | (refine Jcd rfl ?_) | (refine Jce rfl ?_) | (refine Jcf rfl ?_) | (apply Jcg; (first | exact Jaa rfl | exact Jab rfl | exact Jac Us.h rfl | exact Jad rfl rfl | exact Jaf rfl rfl (by omega) | exact Jag Us.h Sz.h rfl rfl (by omega) | exact Jaj rfl | exact Jal rfl rfl | exact Jap rfl rfl (by omega) | exact Jaq Us.h rfl | exact Jar Us.h Sz.h rfl rfl (by omega) | exact Jat rfl rfl | exact Jav Us.h rfl rfl | (apply Jbl; exact Us.h; exact rfl; exact Sz.h; exact rfl)); exact rfl) | refine Jch rfl rfl rfl ?_ | refine Jci rfl rfl rfl rfl rfl ?_ | refine Jcj rfl rfl rfl rfl ?_)
    refine TC_loop (ι := Nat) (fun k => [(0, .slice A ds.length c), (1, I (left - ds.length - totOd ((ds.map OdP).take k))), (5, I k)]) (fun k w' => k ≤ ds.length ∧ ds.length + totOd ((ds.map OdP).take k) ≤ left ∧ Ext w w') (fun k => ds.length - k) 0
      (subEnv_cons rfl (subEnv_cons (congrArg (fun z => some (I z)) (by simp [totOd])) (subEnv_cons rfl (subEnv_nil _)))) ⟨Nat.zero_le _, by simp [totOd]; omega, Ch.refl _ _⟩ ?_
    intro k w2 ⟨hk, hle, e2⟩
    have hnn := totOd_nn ((ds.map OdP).take k)
    repeat' (first | apply Jbq | apply Jbr | apply Jbs | apply Jbt | apply Jbu | apply Jbv | apply Jbw | apply Jbx | apply Jby | apply Jbz | apply Jca | apply Jcb | apply Jcc | (refine Jcd rfl ?_) | (refine Jce rfl ?_) | (refine Jcf rfl ?_) | (apply Jcg; (first | exact Jaa rfl | exact Jab rfl | exact Jac Us.h rfl | exact Jad rfl rfl | exact Jaf rfl rfl (by omega) | exact Jag Us.h Sz.h rfl rfl (by omega) | exact Jaj rfl | exact Jal rfl rfl | exact Jap rfl rfl (by omega) | exact Jaq Us.h rfl | exact Jar Us.h Sz.h rfl rfl (by omega) | exact Jat rfl rfl | exact Jav Us.h rfl rfl | (apply Jbl; exact Us.h; exact rfl; exact Sz.h; exact rfl)); exact rfl) | refine Jch rfl rfl rfl ?_ | refine Jci rfl rfl rfl rfl rfl ?_ | refine Jcj rfl rfl rfl rfl ?_)
    refine Jcx rfl (fun hlt0 => ?_) (fun hge => ?_)
    · have hlt : k < ds.length := by omega
      obtain ⟨ad, rfl, hc⟩ := Rd.elem OdC_len (hr.ext e2) hlt
      have hmem := List.getElem_mem hlt
      have hdk := hd _ (List.mem_map_of_mem (f := OdP) hmem)
      have ht := totOd_take (l := ds.map OdP) (k := k) (by rw [List.length_map]; exact hlt)
      rw [List.getElem_map] at ht
      have hwn := OdW_nn (OdP ds[k])
      repeat' (first | apply Jbq | apply Jbr | apply Jbs | apply Jbt | apply Jbu | apply Jbv | apply Jbw | apply Jbx | apply Jby | apply Jbz | apply Jca | apply Jcb | apply Jcc | (refine Jcd rfl ?_) | (refine Jce rfl ?_) | (refine Jcf rfl ?_) | (apply Jcg; (first | exact Jaa rfl | exact Jab rfl | exact Jac Us.h rfl | exact Jad rfl rfl | exact Jaf rfl rfl (by omega) | exact Jag Us.h Sz.h rfl rfl (by omega) | exact Jaj rfl | exact Jal rfl rfl | exact Jap rfl rfl (by omega) | exact Jaq Us.h rfl | exact Jar Us.h Sz.h rfl rfl (by omega) | exact Jat rfl rfl | exact Jav Us.h rfl rfl | (apply Jbl; exact Us.h; exact rfl; exact Sz.h; exact rfl)); exact rfl) | refine Jch rfl rfl rfl ?_ | refine Jci rfl rfl rfl rfl rfl ?_ | refine Jcj rfl rfl rfl rfl ?_ | refine Jcg (Pu_loadAgg (cs := OdC ds[k]) Us.h rfl Sz.h rfl (fun _ e j u hu => by rw [e]; exact hc j u hu)) rfl ?_)
      refine TL_call rfl en21 (szOd_c ((hok _ hmem).ch e2 (fun _ _ _ t => t)) hdk (by omega) (by omega)) rfl rfl ?_
      rintro _ w3 ⟨hv, e3⟩
      rcases hv with rfl | ⟨rfl, hle3⟩
      · repeat' (first | apply Jbq | apply Jbr | apply Jbs | apply Jbt | apply Jbu | apply Jbv | apply Jbw | apply Jbx | apply Jby | apply Jbz | apply Jca | apply Jcb | apply Jcc | (refine Jcd rfl ?_) | (refine Jce rfl ?_) | (refine Jcf rfl ?_) | (apply Jcg; (first | exact Jbm rfl rfl | exact Jbn Us.h rfl rfl | exact Jbo rfl rfl | exact Jaa rfl | exact Jab rfl | exact Jac Us.h rfl | exact Jad rfl rfl | exact Jaf rfl rfl (by omega) | exact Jag Us.h Sz.h rfl rfl (by omega) | exact Jaj rfl | exact Jal rfl rfl | exact Jap rfl rfl (by omega) | exact Jaq Us.h rfl | exact Jar Us.h Sz.h rfl rfl (by omega) | exact Jat rfl rfl | exact Jav Us.h rfl rfl | (apply Jbl; exact Us.h; exact rfl; exact Sz.h; exact rfl)); exact rfl) | refine Jch rfl rfl rfl ?_ | refine Jci rfl rfl rfl rfl rfl ?_ | refine Jcj rfl rfl rfl rfl ?_ | (refine Jcs rfl rfl (fun hb => ?_) (fun hb => ?_) <;> (try (exfalso; omega))) | (refine Jct rfl rfl (fun hb => ?_) (fun hb => ?_) <;> (try (exfalso; omega))) | refine Jcr rfl rfl (fun hb => ?_) (fun hb => ?_) | (refine Jcx rfl (fun hb => ?_) (fun hb => ?_) <;> (try (exfalso; omega))) | (refine Jcy rfl (fun hb => ?_) (fun hb => ?_) <;> (try (exfalso; omega))) | refine Jcz rfl (fun hb => ?_) (fun hb => ?_))
        exact TR_of (res1 rfl rfl) ⟨.inl rfl, e2.ext e3⟩
      · repeat' (first | apply Jbq | apply Jbr | apply Jbs | apply Jbt | apply Jbu | apply Jbv | apply Jbw | apply Jbx | apply Jby | apply Jbz | apply Jca | apply Jcb | apply Jcc | (refine Jcd rfl ?_) | (refine Jce rfl ?_) | (refine Jcf rfl ?_) | (apply Jcg; (first | exact Jbm rfl rfl | exact Jbn Us.h rfl rfl | exact Jbo rfl rfl | exact Jaa rfl | exact Jab rfl | exact Jac Us.h rfl | exact Jad rfl rfl | exact Jaf rfl rfl (by omega) | exact Jag Us.h Sz.h rfl rfl (by omega) | exact Jaj rfl | exact Jal rfl rfl | exact Jap rfl rfl (by omega) | exact Jaq Us.h rfl | exact Jar Us.h Sz.h rfl rfl (by omega) | exact Jat rfl rfl | exact Jav Us.h rfl rfl | (apply Jbl; exact Us.h; exact rfl; exact Sz.h; exact rfl)); exact rfl) | refine Jch rfl rfl rfl ?_ | refine Jci rfl rfl rfl rfl rfl ?_ | refine Jcj rfl rfl rfl rfl ?_ | (refine Jcs rfl rfl (fun hb => ?_) (fun hb => ?_) <;> (try (exfalso; omega))) | (refine Jct rfl rfl (fun hb => ?_) (fun hb => ?_) <;> (try (exfalso; omega))) | refine Jcr rfl rfl (fun hb => ?_) (fun hb => ?_) | (refine Jcx rfl (fun hb => ?_) (fun hb => ?_) <;> (try (exfalso; omega))) | (refine Jcy rfl (fun hb => ?_) (fun hb => ?_) <;> (try (exfalso; omega))) | refine Jcz rfl (fun hb => ?_) (fun hb => ?_))
        exact TN_round (k + 1) (subEnv_cons rfl (subEnv_cons (congrArg (fun z => some (I z)) (by omega)) (subEnv_cons rfl (subEnv_nil _)))) ⟨hlt, by omega, e2.ext e3⟩ (by omega)
    · obtain rfl : k = ds.length := by omega
      rw [List.take_of_length_le (by simp)] at *
      repeat' (first | apply Jbq | apply Jbr | apply Jbs | apply Jbt | apply Jbu | apply Jbv | apply Jbw | apply Jbx | apply Jby | apply Jbz | apply Jca | apply Jcb | apply Jcc | (refine Jcd rfl ?_) | (refine Jce rfl ?_) | (refine Jcf rfl ?_) | (apply Jcg; (first | exact Jaa rfl | exact Jab rfl | exact Jac Us.h rfl | exact Jad rfl rfl | exact Jaf rfl rfl (by omega) | exact Jag Us.h Sz.h rfl rfl (by omega) | exact Jaj rfl | exact Jal rfl rfl | exact Jap rfl rfl (by omega) | exact Jaq Us.h rfl | exact Jar Us.h Sz.h rfl rfl (by omega) | exact Jat rfl rfl | exact Jav Us.h rfl rfl | (apply Jbl; exact Us.h; exact rfl; exact Sz.h; exact rfl)); exact rfl) | refine Jch rfl rfl rfl ?_ | refine Jci rfl rfl rfl rfl rfl ?_ | refine Jcj rfl rfl rfl rfl ?_)
      exact TR_of (res1 rfl rfl) ⟨.inr ⟨rfl, hle⟩, e2⟩
set_option maxHeartbeats 1000000 in
theorem eqOpS_k {w : World} {lo hi lo2 hi2 : Nat} {v v2 : Value} {l : List OpP} (h : ROps w lo hi v l) (h2 : ROps w lo2 hi2 v2 l) (hl : l.length + totOd l ≤ 1048576) :
    Ret Tryz.prog 31 #[v, v2] w fun v' w' => v' = .bool true ∧ Ext w w' := by
  obtain ⟨ds, A, c, rfl, rfl, _, hr, hok⟩ := h
  obtain ⟨ds2, A2, c2, hm2, rfl, _, hr2, hok2⟩ := h2
  have hnn := totOd_nn (ds.map OdP)
  have hll : ds2.length = ds.length := by have := congrArg List.length hm2; simpa using this
  rw [List.length_map] at hl
  rw [hll] at hr2 ⊢
  refine Ret_enter Tryz.func31 rfl rfl rfl ?_
  repeat' (first | apply Jbq | apply Jbr | apply Jbs | apply Jbt | apply Jbu | apply Jbv | apply Jbw | apply Jbx | apply Jby | apply Jbz | apply Jca | apply Jcb | apply Jcc | (refine Jcd rfl ?_) | (refine Jce rfl ?_) | (refine Jcf rfl ?_) | (apply Jcg; (first | exact Jbm rfl rfl | exact Jbn Us.h rfl rfl | exact Jbo rfl rfl | exact Jaa rfl | exact Jab rfl | exact Jac Us.h rfl | exact Jad rfl rfl | exact Jaf rfl rfl (by omega) | exact Jag Us.h Sz.h rfl rfl (by omega) | exact Jaj rfl | exact Jal rfl rfl | exact Jap rfl rfl (by omega) | exact Jaq Us.h rfl | exact Jar Us.h Sz.h rfl rfl (by omega) | exact Jat rfl rfl | exact Jav Us.h rfl rfl | (apply Jbl; exact Us.h; exact rfl; exact Sz.h; exact rfl)); exact rfl) | refine Jch rfl rfl rfl ?_ | refine Jci rfl rfl rfl rfl rfl ?_ | refine Jcj rfl rfl rfl rfl ?_ | (refine Jcs rfl rfl (fun hb => ?_) (fun hb => ?_) <;> (try (exfalso; omega))) | (refine Jct rfl rfl (fun hb => ?_) (fun hb => ?_) <;> (try (exfalso; omega))) | refine Jcr rfl rfl (fun hb => ?_) (fun hb => ?_) | (refine Jcx rfl (fun hb => ?_) (fun hb => ?_) <;> (try (exfalso; omega))) | (refine Jcy rfl (fun hb => ?_) (fun hb => ?_) <;> (try (exfalso; omega))) | refine Jcz rfl (fun hb => ?_) (fun hb => ?_))
  refine TC_loop (ι := Nat) (fun k => [(0, .slice A ds.length c), (1, .slice A2 ds.length c2), (5, I k)]) (fun k w' => k ≤ ds.length ∧ Ext w w') (fun k => ds.length - k) 0 (subEnv_cons rfl (subEnv_cons rfl (subEnv_cons rfl (subEnv_nil _)))) ⟨Nat.zero_le _, Ch.refl _ _⟩ ?_
  intro k w2 ⟨hk, e2⟩
  repeat' (first | apply Jbq | apply Jbr | apply Jbs | apply Jbt | apply Jbu | apply Jbv | apply Jbw | apply Jbx | apply Jby | apply Jbz | apply Jca | apply Jcb | apply Jcc | (refine Jcd rfl ?_) | (refine Jce rfl ?_) | (refine Jcf rfl ?_) | (apply Jcg; (first | exact Jaa rfl | exact Jab rfl | exact Jac Us.h rfl | exact Jad rfl rfl | exact Jaf rfl rfl (by omega) | exact Jag Us.h Sz.h rfl rfl (by omega) | exact Jaj rfl | exact Jal rfl rfl | exact Jap rfl rfl (by omega) | exact Jaq Us.h rfl | exact Jar Us.h Sz.h rfl rfl (by omega) | exact Jat rfl rfl | exact Jav Us.h rfl rfl | (apply Jbl; exact Us.h; exact rfl; exact Sz.h; exact rfl)); exact rfl) | refine Jch rfl rfl rfl ?_ | refine Jci rfl rfl rfl rfl rfl ?_ | refine Jcj rfl rfl rfl rfl ?_)
  refine Jcx rfl (fun hlt0 => ?_) (fun hge => ?_)
  · have hlt : k < ds.length := by omega
    have hlt2 : k < ds2.length := by omega
    obtain ⟨ad, rfl, hc⟩ := Rd.elem OdC_len (hr.ext e2) hlt
    obtain ⟨ad2, rfl, hc2⟩ := Rd.elem (l := ds2) OdC_len (by rw [hll]; exact hr2.ext e2) hlt2
    have hpk : OdP ds[k] = OdP ds2[k] := by
      have := congrArg (fun l => l[k]?) hm2
      simp only [List.getElem?_map, List.getElem?_eq_getElem hlt, List.getElem?_eq_getElem hlt2, Option.map_some, Option.some.injEq] at this
      exact this.symm
    have hwk := totOd_mem (List.mem_map_of_mem (f := OdP) (List.getElem_mem hlt))
    repeat' (first | apply Jbq | apply Jbr | apply Jbs | apply Jbt | apply Jbu | apply Jbv | apply Jbw | apply Jbx | apply Jby | apply Jbz | apply Jca | apply Jcb | apply Jcc | (refine Jcd rfl ?_) | (refine Jce rfl ?_) | (refine Jcf rfl ?_) | (apply Jcg; (first | exact Jaa rfl | exact Jab rfl | exact Jac Us.h rfl | exact Jad rfl rfl | exact Jaf rfl rfl (by omega) | exact Jag Us.h Sz.h rfl rfl (by omega) | exact Jaj rfl | exact Jal rfl rfl | exact Jap rfl rfl (by omega) | exact Jaq Us.h rfl | exact Jar Us.h Sz.h rfl rfl (by omega) | exact Jat rfl rfl | exact Jav Us.h rfl rfl | (apply Jbl; exact Us.h; exact rfl; exact Sz.h; exact rfl)); exact rfl) | refine Jch rfl rfl rfl ?_ | refine Jci rfl rfl rfl rfl rfl ?_ | refine Jcj rfl rfl rfl rfl ?_)
    refine TC_any mixed rfl ?_
    intro w3 hE hz3
    have E3 := e2.ext hE
    (refine Jco 0 rfl (by kernel_rfl) (by kernel_rfl) (by kernel_rfl) (fun _ _ _ h => h) hE (by (first | exact Pu_loadAgg (cs := OdC ds[k]) Us.h rfl Sz.h rfl (fun w' e j u hu => Ext.cell e (hc j u hu)) | exact Pu_loadAgg (cs := OdC ds2[k]) Us.h rfl Sz.h rfl (fun w' e j u hu => Ext.cell e (hc2 j u hu)) | exact Jaa rfl | exact Jab rfl | exact Jac Us.h rfl | exact Jad rfl rfl | exact Jaf rfl rfl (by omega) | exact Jag Us.h Sz.h rfl rfl (by omega) | exact Jaj rfl | exact Jal rfl rfl | exact Jap rfl rfl (by omega) | exact Jaq Us.h rfl | exact Jar Us.h Sz.h rfl rfl (by omega) | exact Jat rfl rfl | exact Jav Us.h rfl rfl | (apply Jbl; exact Us.h; exact rfl; exact Sz.h; exact rfl))) rfl ?_; refine Jco 1 rfl (by kernel_rfl) (by kernel_rfl) (by kernel_rfl) (fun _ _ _ h => h) hE (by (first | exact Pu_loadAgg (cs := OdC ds[k]) Us.h rfl Sz.h rfl (fun w' e j u hu => Ext.cell e (hc j u hu)) | exact Pu_loadAgg (cs := OdC ds2[k]) Us.h rfl Sz.h rfl (fun w' e j u hu => Ext.cell e (hc2 j u hu)) | exact Jaa rfl | exact Jab rfl | exact Jac Us.h rfl | exact Jad rfl rfl | exact Jaf rfl rfl (by omega) | exact Jag Us.h Sz.h rfl rfl (by omega) | exact Jaj rfl | exact Jal rfl rfl | exact Jap rfl rfl (by omega) | exact Jaq Us.h rfl | exact Jar Us.h Sz.h rfl rfl (by omega) | exact Jat rfl rfl | exact Jav Us.h rfl rfl | (apply Jbl; exact Us.h; exact rfl; exact Sz.h; exact rfl))) rfl ?_; refine Jco 2 rfl (by kernel_rfl) (by kernel_rfl) (by kernel_rfl) (fun _ _ _ h => h) hE (by (first | exact Pu_loadAgg (cs := OdC ds[k]) Us.h rfl Sz.h rfl (fun w' e j u hu => Ext.cell e (hc j u hu)) | exact Pu_loadAgg (cs := OdC ds2[k]) Us.h rfl Sz.h rfl (fun w' e j u hu => Ext.cell e (hc2 j u hu)) | exact Jaa rfl | exact Jab rfl | exact Jac Us.h rfl | exact Jad rfl rfl | exact Jaf rfl rfl (by omega) | exact Jag Us.h Sz.h rfl rfl (by omega) | exact Jaj rfl | exact Jal rfl rfl | exact Jap rfl rfl (by omega) | exact Jaq Us.h rfl | exact Jar Us.h Sz.h rfl rfl (by omega) | exact Jat rfl rfl | exact Jav Us.h rfl rfl | (apply Jbl; exact Us.h; exact rfl; exact Sz.h; exact rfl))) rfl ?_; refine Jco 3 rfl (by kernel_rfl) (by kernel_rfl) (by kernel_rfl) (fun _ _ _ h => h) hE (by (first | exact Pu_loadAgg (cs := OdC ds[k]) Us.h rfl Sz.h rfl (fun w' e j u hu => Ext.cell e (hc j u hu)) | exact Pu_loadAgg (cs := OdC ds2[k]) Us.h rfl Sz.h rfl (fun w' e j u hu => Ext.cell e (hc2 j u hu)) | exact Jaa rfl | exact Jab rfl | exact Jac Us.h rfl | exact Jad rfl rfl | exact Jaf rfl rfl (by omega) | exact Jag Us.h Sz.h rfl rfl (by omega) | exact Jaj rfl | exact Jal rfl rfl | exact Jap rfl rfl (by omega) | exact Jaq Us.h rfl | exact Jar Us.h Sz.h rfl rfl (by omega) | exact Jat rfl rfl | exact Jav Us.h rfl rfl | (apply Jbl; exact Us.h; exact rfl; exact Sz.h; exact rfl))) rfl ?_; refine Jco 4 rfl (by kernel_rfl) (by kernel_rfl) (by kernel_rfl) (fun _ _ _ h => h) hE (by (first | exact Pu_loadAgg (cs := OdC ds[k]) Us.h rfl Sz.h rfl (fun w' e j u hu => Ext.cell e (hc j u hu)) | exact Pu_loadAgg (cs := OdC ds2[k]) Us.h rfl Sz.h rfl (fun w' e j u hu => Ext.cell e (hc2 j u hu)) | exact Jaa rfl | exact Jab rfl | exact Jac Us.h rfl | exact Jad rfl rfl | exact Jaf rfl rfl (by omega) | exact Jag Us.h Sz.h rfl rfl (by omega) | exact Jaj rfl | exact Jal rfl rfl | exact Jap rfl rfl (by omega) | exact Jaq Us.h rfl | exact Jar Us.h Sz.h rfl rfl (by omega) | exact Jat rfl rfl | exact Jav Us.h rfl rfl | (apply Jbl; exact Us.h; exact rfl; exact Sz.h; exact rfl))) rfl ?_; refine Jco 5 rfl (by kernel_rfl) (by kernel_rfl) (by kernel_rfl) (fun _ _ _ h => h) hE (by (first | exact Pu_loadAgg (cs := OdC ds[k]) Us.h rfl Sz.h rfl (fun w' e j u hu => Ext.cell e (hc j u hu)) | exact Pu_loadAgg (cs := OdC ds2[k]) Us.h rfl Sz.h rfl (fun w' e j u hu => Ext.cell e (hc2 j u hu)) | exact Jaa rfl | exact Jab rfl | exact Jac Us.h rfl | exact Jad rfl rfl | exact Jaf rfl rfl (by omega) | exact Jag Us.h Sz.h rfl rfl (by omega) | exact Jaj rfl | exact Jal rfl rfl | exact Jap rfl rfl (by omega) | exact Jaq Us.h rfl | exact Jar Us.h Sz.h rfl rfl (by omega) | exact Jat rfl rfl | exact Jav Us.h rfl rfl | (apply Jbl; exact Us.h; exact rfl; exact Sz.h; exact rfl))) rfl ?_; refine Jco 6 rfl (by kernel_rfl) (by kernel_rfl) (by kernel_rfl) (fun _ _ _ h => h) hE (by (first | exact Pu_loadAgg (cs := OdC ds[k]) Us.h rfl Sz.h rfl (fun w' e j u hu => Ext.cell e (hc j u hu)) | exact Pu_loadAgg (cs := OdC ds2[k]) Us.h rfl Sz.h rfl (fun w' e j u hu => Ext.cell e (hc2 j u hu)) | exact Jaa rfl | exact Jab rfl | exact Jac Us.h rfl | exact Jad rfl rfl | exact Jaf rfl rfl (by omega) | exact Jag Us.h Sz.h rfl rfl (by omega) | exact Jaj rfl | exact Jal rfl rfl | exact Jap rfl rfl (by omega) | exact Jaq Us.h rfl | exact Jar Us.h Sz.h rfl rfl (by omega) | exact Jat rfl rfl | exact Jav Us.h rfl rfl | (apply Jbl; exact Us.h; exact rfl; exact Sz.h; exact rfl))) rfl ?_; refine Jco 7 rfl (by kernel_rfl) (by kernel_rfl) (by kernel_rfl) (fun _ _ _ h => h) hE (by (first | exact Pu_loadAgg (cs := OdC ds[k]) Us.h rfl Sz.h rfl (fun w' e j u hu => Ext.cell e (hc j u hu)) | exact Pu_loadAgg (cs := OdC ds2[k]) Us.h rfl Sz.h rfl (fun w' e j u hu => Ext.cell e (hc2 j u hu)) | exact Jaa rfl | exact Jab rfl | exact Jac Us.h rfl | exact Jad rfl rfl | exact Jaf rfl rfl (by omega) | exact Jag Us.h Sz.h rfl rfl (by omega) | exact Jaj rfl | exact Jal rfl rfl | exact Jap rfl rfl (by omega) | exact Jaq Us.h rfl | exact Jar Us.h Sz.h rfl rfl (by omega) | exact Jat rfl rfl | exact Jav Us.h rfl rfl | (apply Jbl; exact Us.h; exact rfl; exact Sz.h; exact rfl))) rfl ?_)
    refine TA_one 8 (by kernel_rfl) rfl ?_
    refine TL_call rfl en25 (eqOd_c ((hok _ (List.getElem_mem hlt)).ch E3 (fun _ _ _ t => t)) ((hok2 _ (List.getElem_mem hlt2)).ch E3 (fun _ _ _ t => t)) hpk (by omega)) rfl rfl ?_
    rintro _ w4 ⟨rfl, e4⟩
    replace hE := hE.ext e4
    refine Jbq (TN_any hE ?_)
    (refine Jco 9 rfl (by kernel_rfl) (by kernel_rfl) (by kernel_rfl) (fun _ _ _ h => h) hE (by (first | exact Jaa rfl | exact Jab rfl | exact Jac Us.h rfl | exact Jad rfl rfl | exact Jaf rfl rfl (by omega) | exact Jag Us.h Sz.h rfl rfl (by omega) | exact Jaj rfl | exact Jal rfl rfl | exact Jap rfl rfl (by omega) | exact Jaq Us.h rfl | exact Jar Us.h Sz.h rfl rfl (by omega) | exact Jat rfl rfl | exact Jav Us.h rfl rfl | (apply Jbl; exact Us.h; exact rfl; exact Sz.h; exact rfl))) rfl ?_)
    refine TA_done (by kernel_rfl) ?_
    repeat' (first | apply Jbq | apply Jbr | apply Jbs | apply Jbt | apply Jbu | apply Jbv | apply Jbw | apply Jbx | apply Jby | apply Jbz | apply Jca | apply Jcb | apply Jcc | (refine Jcd rfl ?_) | (refine Jce rfl ?_) | (refine Jcf rfl ?_) | (apply Jcg; (first | exact Jaa rfl | exact Jab rfl | exact Jac Us.h rfl | exact Jad rfl rfl | exact Jaf rfl rfl (by omega) | exact Jag Us.h Sz.h rfl rfl (by omega) | exact Jaj rfl | exact Jal rfl rfl | exact Jap rfl rfl (by omega) | exact Jaq Us.h rfl | exact Jar Us.h Sz.h rfl rfl (by omega) | exact Jat rfl rfl | exact Jav Us.h rfl rfl | (apply Jbl; exact Us.h; exact rfl; exact Sz.h; exact rfl)); exact rfl) | refine Jch rfl rfl rfl ?_ | refine Jci rfl rfl rfl rfl rfl ?_ | refine Jcj rfl rfl rfl rfl ?_)
    exact TN_round (k + 1) (subEnv_cons rfl (subEnv_cons rfl (subEnv_cons rfl (subEnv_nil _)))) ⟨hlt, e2.ext hE⟩ (by omega)
  · repeat' (first | apply Jbq | apply Jbr | apply Jbs | apply Jbt | apply Jbu | apply Jbv | apply Jbw | apply Jbx | apply Jby | apply Jbz | apply Jca | apply Jcb | apply Jcc | (refine Jcd rfl ?_) | (refine Jce rfl ?_) | (refine Jcf rfl ?_) | (apply Jcg; (first | exact Jaa rfl | exact Jab rfl | exact Jac Us.h rfl | exact Jad rfl rfl | exact Jaf rfl rfl (by omega) | exact Jag Us.h Sz.h rfl rfl (by omega) | exact Jaj rfl | exact Jal rfl rfl | exact Jap rfl rfl (by omega) | exact Jaq Us.h rfl | exact Jar Us.h Sz.h rfl rfl (by omega) | exact Jat rfl rfl | exact Jav Us.h rfl rfl | (apply Jbl; exact Us.h; exact rfl; exact Sz.h; exact rfl)); exact rfl) | refine Jch rfl rfl rfl ?_ | refine Jci rfl rfl rfl rfl rfl ?_ | refine Jcj rfl rfl rfl rfl ?_)
    exact TR_of (res1 rfl rfl) ⟨rfl, e2⟩
theorem ROps.op {w : World} {lo hi : Nat} {v : Value} {l : List OpP} (h : ROps w lo hi v l) : ROp w lo hi v l := h
theorem ROps.of {w : World} {lo hi : Nat} {v : Value} {l : List OpP} (h : ROp w lo hi v l) : ROps w lo hi v l := h
/-! rows of operations that a call owns -/
def bksO (v : Value) (es : List Od) : List Nat := blk v ++ es.flatMap (fun x => blk x.v)
structure OOx (w : World) (v : Value) (es : List Od) : Prop where
  row : RowOx OdC 49 5 w v es
  ok : ∀ x ∈ es, OBx w x.v x.o.data
  nd : (bksO v es).Nodup
theorem OOx.ch {w w' : World} {v : Value} {es : List Od} {T : Nat → Prop} (h : OOx w v es) (k : Ch T w w') (hd : ∀ b ∈ bksO v es, ¬ T b) : OOx w' v es :=
  ⟨h.row.ch k (fun b hb => hd b (List.mem_append.2 (.inl hb))), fun d hm => (h.ok d hm).ch k (fun b hb => hd b (List.mem_append.2 (.inr (List.mem_flatMap.2 ⟨d, hm, hb⟩)))), h.nd⟩
def OOr (w : World) (lo hi : Nat) (v : Value) (l : List OpP) : Prop := hi ≤ w.heap.size ∧ ∃ es : List Od, es.map OdP = l ∧ OOx w v es ∧ ∀ b ∈ bksO v es, lo ≤ b ∧ b < hi
theorem OOr.ch {w w' : World} {lo hi : Nat} {v : Value} {l : List OpP} {T : Nat → Prop} (h : OOr w lo hi v l) (c : Ch T w w') (hd : ∀ k, lo ≤ k → k < hi → ¬ T k) : OOr w' lo hi v l := by
  obtain ⟨h0, ds, h1, h2, h3⟩ := h
  exact ⟨Nat.le_trans h0 c.size, ds, h1, h2.ch c (fun b hb => hd b (h3 b hb).1 (h3 b hb).2), h3⟩
theorem OOr.ext {w w' : World} {lo hi : Nat} {v : Value} {l : List OpP} (h : OOr w lo hi v l) (c : Ext w w') : OOr w' lo hi v l := h.ch c (fun _ _ _ t => t)
theorem OOr.one {w : World} {lo hi : Nat} {v : Value} {l : List OpP} (h : OOr w lo hi v l) : v.oneCell' = true := by obtain ⟨_, ds, _, h2, _⟩ := h; exact h2.row.one
theorem OOr.rd {w : World} {lo hi : Nat} {v : Value} {l : List OpP} (h : OOr w lo hi v l) : ROps w lo hi v l := by
  obtain ⟨h0, es, h1, h2, h3⟩ := h
  obtain ⟨A, c, hv, ho⟩ := h2.row.at_ (lo := lo) (hi := hi) (fun b hb => h3 b (List.mem_append.2 (.inl hb))) h0
  exact ⟨es, A, c, h1, hv, ho.cap.1, ho.rd, fun x hx => ((h2.ok x hx).at_ (fun b hb => h3 b (List.mem_append.2 (.inr (List.mem_flatMap.2 ⟨x, hx, hb⟩)))) h0).rd⟩
set_option maxHeartbeats 1000000 in
theorem toOpS_k {w : World} {lo hi : Nat} {v : Value} {l : List OpP} (h : ROps w lo hi v l) (hl : l.length + totOd l ≤ 1048576) :
    Ret Tryz.prog 29 #[v] w fun v' w' => Ext w w' ∧ OOr w' w.heap.size w'.heap.size v' l := by
  obtain ⟨ds, A, c, rfl, rfl, _, hr, hok⟩ := h
  have hnn := totOd_nn (ds.map OdP)
  rw [List.length_map] at hl
  refine Ret_enter Tryz.func29 rfl rfl rfl ?_
  repeat' (first | apply Jbq | apply Jbr | apply Jbs | apply Jbt | apply Jbu | apply Jbv | apply Jbw | apply Jbx | apply Jby | apply Jbz | apply Jca | apply Jcb | apply Jcc | (refine Jcd rfl ?_) | (refine Jce rfl ?_) | (refine Jcf rfl ?_) | (apply Jcg; (first | exact Jaa rfl | exact Jab rfl | exact Jac Us.h rfl | exact Jad rfl rfl | exact Jaf rfl rfl (by omega) | exact Jag Us.h Sz.h rfl rfl (by omega) | exact Jaj rfl | exact Jal rfl rfl | exact Jap rfl rfl (by omega) | exact Jaq Us.h rfl | exact Jar Us.h Sz.h rfl rfl (by omega) | exact Jat rfl rfl | exact Jav Us.h rfl rfl | (apply Jbl; exact Us.h; exact rfl; exact Sz.h; exact rfl)); exact rfl) | refine Jch rfl rfl rfl ?_ | refine Jci rfl rfl rfl rfl rfl ?_ | refine Jcj rfl rfl rfl rfl ?_)
  refine TL_make Us.h Inf.h rfl rfl (by omega) (by omega) (by omega) rfl ?_
  intro w1 g e1 hg hz1 hown
  repeat' (first | apply Jbq | apply Jbr | apply Jbs | apply Jbt | apply Jbu | apply Jbv | apply Jbw | apply Jbx | apply Jby | apply Jbz | apply Jca | apply Jcb | apply Jcc | (refine Jcd rfl ?_) | (refine Jce rfl ?_) | (refine Jcf rfl ?_) | (apply Jcg; (first | exact Jaa rfl | exact Jab rfl | exact Jac Us.h rfl | exact Jad rfl rfl | exact Jaf rfl rfl (by omega) | exact Jag Us.h Sz.h rfl rfl (by omega) | exact Jaj rfl | exact Jal rfl rfl | exact Jap rfl rfl (by omega) | exact Jaq Us.h rfl | exact Jar Us.h Sz.h rfl rfl (by omega) | exact Jat rfl rfl | exact Jav Us.h rfl rfl | (apply Jbl; exact Us.h; exact rfl; exact Sz.h; exact rfl)); exact rfl) | refine Jch rfl rfl rfl ?_ | refine Jci rfl rfl rfl rfl rfl ?_ | refine Jcj rfl rfl rfl rfl ?_)
  obtain ⟨xs, hxs⟩ : ∃ xs, xs = (madeCells (Value.cells (.agg #[.int .i64 0, .string ByteArray.empty, .string ByteArray.empty, .int .i64 0, .slice none 0 0])) ((ds.length : Int).toNat * 5)).toList := ⟨_, rfl⟩
  rw [← hxs] at hown
  have hxl : xs.length = ds.length * 5 := by have := hown.len; simpa using this
  refine TC_loop (ι := Nat × List Od) (fun x => [(0, .slice A ds.length c), (3, .slice (some ⟨g, 0, none⟩) ds.length ds.length), (4, I x.1)])
    (fun x w' => x.1 ≤ ds.length ∧ x.2.map OdP = (ds.map OdP).take x.1 ∧ x.2.length = x.1 ∧ Ext w w' ∧ Own w' g (g + 1) 49 5 (some ⟨g, 0, none⟩) ds.length ds.length (cellsL OdC x.2 ++ xs.drop (x.1 * 5)) ∧ (∀ d ∈ x.2, OB w' (g + 1) w'.heap.size d.v d.o.data) ∧ (x.2.flatMap (fun x => blk x.v)).Nodup) (fun x => ds.length - x.1) (0, [])
    (subEnv_cons rfl (subEnv_cons rfl (subEnv_cons rfl (subEnv_nil _)))) ⟨Nat.zero_le _, by simp, rfl, e1, by simpa [cellsL] using hown, by simp, by simp⟩ ?_
  rintro ⟨k, ys⟩ w2 ⟨hk, hys, hyl, e2, hown2, hok2, hnd2⟩
  simp only at hk hys hyl hown2 hok2 hnd2
  repeat' (first | apply Jbq | apply Jbr | apply Jbs | apply Jbt | apply Jbu | apply Jbv | apply Jbw | apply Jbx | apply Jby | apply Jbz | apply Jca | apply Jcb | apply Jcc | (refine Jcd rfl ?_) | (refine Jce rfl ?_) | (refine Jcf rfl ?_) | (apply Jcg; (first | exact Jaa rfl | exact Jab rfl | exact Jac Us.h rfl | exact Jad rfl rfl | exact Jaf rfl rfl (by omega) | exact Jag Us.h Sz.h rfl rfl (by omega) | exact Jaj rfl | exact Jal rfl rfl | exact Jap rfl rfl (by omega) | exact Jaq Us.h rfl | exact Jar Us.h Sz.h rfl rfl (by omega) | exact Jat rfl rfl | exact Jav Us.h rfl rfl | (apply Jbl; exact Us.h; exact rfl; exact Sz.h; exact rfl)); exact rfl) | refine Jch rfl rfl rfl ?_ | refine Jci rfl rfl rfl rfl rfl ?_ | refine Jcj rfl rfl rfl rfl ?_)
  refine Jcx rfl (fun hlt0 => ?_) (fun hge => ?_)
  · have hlt : k < ds.length := by omega
    obtain ⟨ad, rfl, hc⟩ := Rd.elem OdC_len (hr.ext e2) hlt
    have hmem := List.getElem_mem hlt
    have hwk := totOd_mem (List.mem_map_of_mem (f := OdP) hmem)
    have hwk2 : OdW (OdP ds[k]) = OpW ds[k].o := rfl
    unfold OpW at hwk2
    repeat' (first | apply Jbq | apply Jbr | apply Jbs | apply Jbt | apply Jbu | apply Jbv | apply Jbw | apply Jbx | apply Jby | apply Jbz | apply Jca | apply Jcb | apply Jcc | (refine Jcd rfl ?_) | (refine Jce rfl ?_) | (refine Jcf rfl ?_) | (apply Jcg; (first | exact Jaa rfl | exact Jab rfl | exact Jac Us.h rfl | exact Jad rfl rfl | exact Jaf rfl rfl (by omega) | exact Jag Us.h Sz.h rfl rfl (by omega) | exact Jaj rfl | exact Jal rfl rfl | exact Jap rfl rfl (by omega) | exact Jaq Us.h rfl | exact Jar Us.h Sz.h rfl rfl (by omega) | exact Jat rfl rfl | exact Jav Us.h rfl rfl | (apply Jbl; exact Us.h; exact rfl; exact Sz.h; exact rfl)); exact rfl) | refine Jch rfl rfl rfl ?_ | refine Jci rfl rfl rfl rfl rfl ?_ | refine Jcj rfl rfl rfl rfl ?_ | refine Jcg (Pu_loadAgg (cs := OdC ds[k]) Us.h rfl Sz.h rfl (fun _ e j u hu => by rw [e]; exact hc j u hu)) rfl ?_)
    refine TL_call rfl en23 (toOp_c (RB.ext (hok _ hmem) e2) (by omega)) rfl rfl ?_
    rintro _ w3 ⟨vb, rfl, e3, hok3⟩
    have hone3 : (OdC ⟨ds[k].o, vb⟩).all (·.oneCell') = true := by obtain ⟨_, _, rfl, _⟩ := hok3; rfl
    have hcl : (cellsL OdC ys).length = k * 5 := by rw [cellsL_length OdC_len, hyl]
    have hgl := hown2.hi_le
    have hs3 := e3.size
    repeat' (first | apply Jbq | apply Jbr | apply Jbs | apply Jbt | apply Jbu | apply Jbv | apply Jbw | apply Jbx | apply Jby | apply Jbz | apply Jca | apply Jcb | apply Jcc | (refine Jcd rfl ?_) | (refine Jce rfl ?_) | (refine Jcf rfl ?_) | (apply Jcg; (first | exact Jaa rfl | exact Jab rfl | exact Jac Us.h rfl | exact Jad rfl rfl | exact Jaf rfl rfl (by omega) | exact Jag Us.h Sz.h rfl rfl (by omega) | exact Jaj rfl | exact Jal rfl rfl | exact Jap rfl rfl (by omega) | exact Jaq Us.h rfl | exact Jar Us.h Sz.h rfl rfl (by omega) | exact Jat rfl rfl | exact Jav Us.h rfl rfl | (apply Jbl; exact Us.h; exact rfl; exact Sz.h; exact rfl)); exact rfl) | refine Jch rfl rfl rfl ?_ | refine Jci rfl rfl rfl rfl rfl ?_ | refine Jcj rfl rfl rfl rfl ?_)
    refine TL_storeOwnAgg (us := OdC ⟨ds[k].o, vb⟩) rfl (add0 g (k * 5)) rfl Sz.h hone3 (hown2.ext e3) (by rw [OdC_len]; omega) ?_
    intro w4 c4 hz4 hown4
    rw [setL_app _ _ _ _ hcl (by rw [OdC_len, List.length_drop]; omega), List.drop_drop, OdC_len] at hown4
    repeat' (first | apply Jbq | apply Jbr | apply Jbs | apply Jbt | apply Jbu | apply Jbv | apply Jbw | apply Jbx | apply Jby | apply Jbz | apply Jca | apply Jcb | apply Jcc | (refine Jcd rfl ?_) | (refine Jce rfl ?_) | (refine Jcf rfl ?_) | (apply Jcg; (first | exact Jaa rfl | exact Jab rfl | exact Jac Us.h rfl | exact Jad rfl rfl | exact Jaf rfl rfl (by omega) | exact Jag Us.h Sz.h rfl rfl (by omega) | exact Jaj rfl | exact Jal rfl rfl | exact Jap rfl rfl (by omega) | exact Jaq Us.h rfl | exact Jar Us.h Sz.h rfl rfl (by omega) | exact Jat rfl rfl | exact Jav Us.h rfl rfl | (apply Jbl; exact Us.h; exact rfl; exact Sz.h; exact rfl)); exact rfl) | refine Jch rfl rfl rfl ?_ | refine Jci rfl rfl rfl rfl rfl ?_ | refine Jcj rfl rfl rfl rfl ?_)
    refine TN_round (k + 1, ys ++ [⟨ds[k].o, vb⟩]) (subEnv_cons rfl (subEnv_cons rfl (subEnv_cons rfl (subEnv_nil _)))) ⟨hlt, ?_, by simp [hyl], Ext.then_iv (e2.ext e3) c4 (by omega), ?_, ?_, ?_⟩ (by simp only; omega)
    · rw [List.map_append, hys, List.take_succ_eq_append_getElem (by rw [List.length_map]; exact hlt)]; simp [OdP]
    · rw [cellsL_append]
      have : cellsL OdC [(⟨ds[k].o, vb⟩ : Od)] = OdC ⟨ds[k].o, vb⟩ := by simp [cellsL]
      rw [this, Nat.succ_mul]
      exact hown4
    · intro x hx
      rcases List.mem_append.1 hx with hx | hx
      · exact (((hok2 x hx).ch e3 (fun _ _ _ t => t)).ch c4 (by intro j _ _; simp only [Iv]; omega)).wide (Nat.le_refl _) (by omega) (Nat.le_refl _)
      · rw [List.mem_singleton.1 hx]
        exact (hok3.ch c4 (by intro j _ _; simp only [Iv]; omega)).wide (by omega) (by omega) (Nat.le_refl _)
    · simp only
      rw [List.flatMap_append, List.nodup_append]
      refine ⟨hnd2, by simpa using blk_nodup vb, fun a ha b hb => ?_⟩
      obtain ⟨y, hy, hya⟩ := List.mem_flatMap.1 ha
      have h1 := (hok2 y hy).bin a hya
      have h2 := hok3.bin b (by simpa using hb)
      omega
  · obtain rfl : k = ds.length := by omega
    rw [List.drop_eq_nil_of_le (by omega), List.append_nil] at hown2
    rw [List.take_of_length_le (by simp)] at hys
    repeat' (first | apply Jbq | apply Jbr | apply Jbs | apply Jbt | apply Jbu | apply Jbv | apply Jbw | apply Jbx | apply Jby | apply Jbz | apply Jca | apply Jcb | apply Jcc | (refine Jcd rfl ?_) | (refine Jce rfl ?_) | (refine Jcf rfl ?_) | (apply Jcg; (first | exact Jaa rfl | exact Jab rfl | exact Jac Us.h rfl | exact Jad rfl rfl | exact Jaf rfl rfl (by omega) | exact Jag Us.h Sz.h rfl rfl (by omega) | exact Jaj rfl | exact Jal rfl rfl | exact Jap rfl rfl (by omega) | exact Jaq Us.h rfl | exact Jar Us.h Sz.h rfl rfl (by omega) | exact Jat rfl rfl | exact Jav Us.h rfl rfl | (apply Jbl; exact Us.h; exact rfl; exact Sz.h; exact rfl)); exact rfl) | refine Jch rfl rfl rfl ?_ | refine Jci rfl rfl rfl rfl rfl ?_ | refine Jcj rfl rfl rfl rfl ?_)
    have hh := hown2.hi_le
    have hrow : RowO OdC 49 5 w2 g (g + 1) (.slice (some ⟨g, 0, none⟩) ds.length ds.length) ys := ⟨some ⟨g, 0, none⟩, ds.length, by rw [hyl], by rw [hyl]; exact hown2⟩
    refine TR_of (res1 rfl rfl) ⟨e2, Nat.le_refl _, ys, hys, ⟨hrow.x, fun d hd => (hok2 d hd).x, ?_⟩, fun b hb => ?_⟩
    · show ([g] ++ ys.flatMap (fun x => blk x.v)).Nodup
      rw [List.singleton_append, List.nodup_cons]
      refine ⟨fun hg' => ?_, hnd2⟩
      obtain ⟨y, hy, hya⟩ := List.mem_flatMap.1 hg'
      have := (hok2 y hy).bin g hya
      omega
    · rcases List.mem_append.1 hb with hb | hb
      · have := hrow.bin b hb; omega
      · obtain ⟨y, hy, hya⟩ := List.mem_flatMap.1 hb
        have := (hok2 y hy).bin b hya
        omega
/-! marks -/
def sgO (x : Od) : Value × Nat := (x.v, x.o.data.length)
def cntS : List (Value × Nat) → Int
  | [] => 0
  | a :: r => 4 + a.2 + cntS r
theorem cntS_append (l m : List (Value × Nat)) : cntS (l ++ m) = cntS l + cntS m := by
  induction l with
  | nil => simp [cntS]
  | cons a r ih => simp only [List.cons_append, cntS, ih]; omega
theorem cntS_nn (l : List (Value × Nat)) : 0 ≤ cntS l := by
  induction l with
  | nil => simp [cntS]
  | cons a r ih => simp only [cntS]; omega
theorem cntS_tot (es : List Od) : cntS (es.map sgO) ≤ 4 * es.length + totOd (es.map OdP) := by
  induction es with
  | nil => simp [cntS, totOd]
  | cons a r ih =>
    have : OdW (OdP a) = OpW a.o := rfl
    unfold OpW at this
    simp only [totOd, List.map_cons, List.sum_cons, cntS, sgO, List.length_cons] at *
    omega
theorem set_at {α : Type} (A r : List α) (k j : Nat) (u : α) (h : A.length = k) : (A ++ r).set (k + j) u = A ++ r.set j u := by
  subst h; rw [List.set_append_right _ _ (by omega)]; congr 2; omega
theorem cellsO_mid (M D : List Od) (x : Od) : cellsL OdC (M ++ x :: D) = cellsL OdC M ++ (I x.o.kind :: S x.o.name :: S x.o.to :: I x.o.size :: x.v :: cellsL OdC D) := by
  rw [cellsL_append]; simp [cellsL, OdC, opC]
theorem bksO_sg {v : Value} {es ys : List Od} (h : ys.map sgO = es.map sgO) : bksO v ys = bksO v es := by
  unfold bksO
  congr 1
  have e : ∀ l : List Od, l.flatMap (fun x => blk x.v) = (l.map sgO).flatMap (fun p => blk p.1) := fun l => by rw [List.flatMap_map]; rfl
  rw [e, e, h]
set_option maxHeartbeats 8000000 in
theorem markOpS_k {w : World} {lo hi : Nat} {v : Value} {l : List OpP} {k : Int} (h : OOr w lo hi v l) (hl : l.length + totOd l ≤ 1048576) (hk0 : 0 < k) (hk1 : k ≤ 100000000) :
    Ret Tryz.prog 32 #[v, I k] w fun v' w' => ∃ mk : Int, v' = I mk ∧ 0 ≤ mk ∧ mk ≤ k + 8388608 ∧ Ch (Iv lo hi) w w' := by
  obtain ⟨hhi, es, rfl, hx, hin0⟩ := h
  obtain ⟨A, c, rfl⟩ : ∃ A c, v = .slice A es.length c := by obtain ⟨_, _, ⟨A, c, h1, _⟩, _⟩ := hx.row; exact ⟨A, c, h1⟩
  rw [List.length_map] at hl
  have hnn := totOd_nn (es.map OdP)
  have htot := cntS_tot es
  refine Ret_enter Tryz.func32 rfl rfl rfl ?_
  repeat' (first | apply Jbq | apply Jbr | apply Jbs | apply Jbt | apply Jbu | apply Jbv | apply Jbw | apply Jbx | apply Jby | apply Jbz | apply Jca | apply Jcb | apply Jcc | (refine Jcd rfl ?_) | (refine Jce rfl ?_) | (refine Jcf rfl ?_) | (apply Jcg; (first | exact Jaa rfl | exact Jab rfl | exact Jac Us.h rfl | exact Jad rfl rfl | exact Jaf rfl rfl (by omega) | exact Jag Us.h Sz.h rfl rfl (by omega) | exact Jaj rfl | exact Jal rfl rfl | exact Jap rfl rfl (by omega) | exact Jaq Us.h rfl | exact Jar Us.h Sz.h rfl rfl (by omega) | exact Jat rfl rfl | exact Jav Us.h rfl rfl | (apply Jbl; exact Us.h; exact rfl; exact Sz.h; exact rfl)); exact rfl) | refine Jch rfl rfl rfl ?_ | refine Jci rfl rfl rfl rfl rfl ?_ | refine Jcj rfl rfl rfl rfl ?_)
  refine TC_loop (ι := Nat × List Od) (fun x => [(0, .slice A es.length c), (1, I (k + cntS ((es.map sgO).take x.1))), (5, I x.1)]) (fun x w' => x.1 ≤ es.length ∧ Ch (Iv lo hi) w w' ∧ x.2.map sgO = es.map sgO ∧ OOx w' (.slice A es.length c) x.2) (fun x => es.length - x.1) (0, es)
    (subEnv_cons rfl (subEnv_cons (congrArg (fun z => some (I z)) (by simp [cntS])) (subEnv_cons rfl (subEnv_nil _)))) ⟨Nat.zero_le _, Ch.refl _ _, rfl, hx⟩ ?_
  rintro ⟨i, ys⟩ w2 ⟨hi2, c2, hsg, h2⟩
  simp only at hi2 hsg h2
  have hyl : ys.length = es.length := by have := congrArg List.length hsg; simpa using this
  have hbk := bksO_sg (v := .slice A es.length c) hsg
  repeat' (first | apply Jbq | apply Jbr | apply Jbs | apply Jbt | apply Jbu | apply Jbv | apply Jbw | apply Jbx | apply Jby | apply Jbz | apply Jca | apply Jcb | apply Jcc | (refine Jcd rfl ?_) | (refine Jce rfl ?_) | (refine Jcf rfl ?_) | (apply Jcg; (first | exact Jaa rfl | exact Jab rfl | exact Jac Us.h rfl | exact Jad rfl rfl | exact Jaf rfl rfl (by omega) | exact Jag Us.h Sz.h rfl rfl (by omega) | exact Jaj rfl | exact Jal rfl rfl | exact Jap rfl rfl (by omega) | exact Jaq Us.h rfl | exact Jar Us.h Sz.h rfl rfl (by omega) | exact Jat rfl rfl | exact Jav Us.h rfl rfl | (apply Jbl; exact Us.h; exact rfl; exact Sz.h; exact rfl)); exact rfl) | refine Jch rfl rfl rfl ?_ | refine Jci rfl rfl rfl rfl rfl ?_ | refine Jcj rfl rfl rfl rfl ?_)
  refine Jcx rfl (fun hlt0 => ?_) (fun hge => ?_)
  · have hlt : i < es.length := by omega
    have hdr : ys = ys.take i ++ ys[i] :: ys.drop (i + 1) := by rw [← List.drop_eq_getElem_cons (by omega), List.take_append_drop]
    have hct : cntS ((es.map sgO).take (i + 1)) = cntS ((es.map sgO).take i) + 4 + (ys[i].o.data.length : Int) := by
      rw [← hsg, List.take_succ_eq_append_getElem (by rw [List.length_map]; omega), cntS_append]
      simp only [cntS, List.getElem_map, sgO]
      omega
    have hall : cntS (es.map sgO) = cntS ((es.map sgO).take (i + 1)) + cntS ((es.map sgO).drop (i + 1)) := by rw [← cntS_append, List.take_append_drop]
    have hn1 := cntS_nn ((es.map sgO).take i)
    have hn2 := cntS_nn ((es.map sgO).drop (i + 1))
    obtain ⟨M, hM⟩ : ∃ M, M = ys.take i := ⟨_, rfl⟩
    obtain ⟨x, hxx⟩ : ∃ x, x = ys[i] := ⟨_, rfl⟩
    obtain ⟨D, hD⟩ : ∃ D, D = ys.drop (i + 1) := ⟨_, rfl⟩
    have hml : M.length = i := by rw [hM, List.length_take]; omega
    rw [← hM, ← hxx, ← hD] at hdr
    rw [← hxx] at hct
    obtain ⟨q, hq⟩ : ∃ q : Nat, k + cntS ((es.map sgO).take i) = (q : Int) := nat_of (by omega)
    obtain ⟨o, vb⟩ := x
    simp only at hct
    have hqb : q + 4 + o.data.length ≤ 1099511627776 := by omega
    have hlen : (M ++ (⟨o, vb⟩ : Od) :: D).length = es.length := by rw [← hdr]; exact hyl
    subst hdr
    have hcl : (cellsL OdC M).length = i * 5 := by rw [cellsL_length OdC_len, hml]
    obtain ⟨⟨l1, h1, ⟨A', c', hv', ho2⟩, hin⟩, hok, hnd⟩ := h2
    rw [hlen] at hv' ho2
    injection hv' with hA' _ hc'
    subst hA' hc'
    rw [cellsO_mid] at ho2
    simp only at ho2
    have inR : ∀ b ∈ bksO (.slice A es.length c) (M ++ (⟨o, vb⟩ : Od) :: D), lo ≤ b ∧ b < hi := fun b hb => hin0 b (by rw [← hbk]; exact hb)
    have nd0 := hnd
    have ap0 : ∀ b ∈ blk (.slice A es.length c), ∀ y ∈ M ++ (⟨o, vb⟩ : Od) :: D, b ∉ blk y.v := fun b hb y hy hby => by
      unfold bksO at hnd
      rw [List.nodup_append] at hnd
      exact hnd.2.2 b hb b (List.mem_flatMap.2 ⟨y, hy, hby⟩) rfl
    have ap1 : ∀ b ∈ blk vb, ∀ y ∈ M ++ D, b ∉ blk y.v := fun b hb y hy hby => by
      unfold bksO at hnd
      rw [List.flatMap_append, List.flatMap_cons, List.nodup_append, List.nodup_append, List.nodup_append] at hnd
      obtain ⟨_, ⟨_, ⟨_, _, hD1⟩, hM1⟩, _⟩ := hnd
      rcases List.mem_append.1 hy with hy | hy
      · exact hM1 b (List.mem_flatMap.2 ⟨y, hy, hby⟩) b (List.mem_append.2 (.inl hb)) rfl
      · exact hD1 b hb b (List.mem_flatMap.2 ⟨y, hy, hby⟩) rfl
    have okb : OBx w2 vb o.data := hok ⟨o, vb⟩ (by simp)
    have oko : ∀ y ∈ M ++ D, OBx w2 y.v y.o.data := fun y hy => hok y (by rcases List.mem_append.1 hy with h | h <;> simp [h])
    have memO : ∀ y ∈ M ++ D, y ∈ M ++ (⟨o, vb⟩ : Od) :: D := fun y hy => by rcases List.mem_append.1 hy with h | h <;> simp [h]
    clear hok hnd
    rw [hq]
    rcases ho2.head with rfl | ⟨g, rfl, hg1, hg2⟩
    · obtain ⟨ad, h, _⟩ := ho2.rd.at_ (by omega)
      cases h
    have hgv : blk (.slice (some ⟨g, 0, none⟩) es.length c) = [g] := rfl
    have hgR := inR g (List.mem_append.2 (.inl (by rw [hgv]; simp)))
    have hgb : g ∉ blk vb := ap0 g (by rw [hgv]; simp) ⟨o, vb⟩ (by simp)
    have hgo : ∀ y ∈ M ++ D, g ∉ blk y.v := fun y hy => ap0 g (by rw [hgv]; simp) y (memO y hy)
    repeat' (first | apply Jbq | apply Jbr | apply Jbs | apply Jbt | apply Jbu | apply Jbv | apply Jbw | apply Jbx | apply Jby | apply Jbz | apply Jca | apply Jcb | apply Jcc | (refine Jcd rfl ?_) | (refine Jce rfl ?_) | (refine Jcf rfl ?_) | (apply Jcg; (first | exact Jaa rfl | exact Jab rfl | exact Jac Us.h rfl | exact Jad rfl rfl | exact Jaf rfl rfl (by omega) | exact Jag Us.h Sz.h rfl rfl (by omega) | exact Jaj rfl | exact Jal rfl rfl | exact Jap rfl rfl (by omega) | exact Jaq Us.h rfl | exact Jar Us.h Sz.h rfl rfl (by omega) | exact Jat rfl rfl | exact Jav Us.h rfl rfl | (apply Jbl; exact Us.h; exact rfl; exact Sz.h; exact rfl)); exact rfl) | refine Jch rfl rfl rfl ?_ | refine Jci rfl rfl rfl rfl rfl ?_ | refine Jcj rfl rfl rfl rfl ?_)
    refine TL_storeOwn rfl (add_lit3 g (i * 5) 0) rfl Sz.h rfl ho2 (by omega) ?_
    intro w3 c3 hz3 ho3
    rw [set_at _ _ _ _ _ hcl] at ho3
    repeat' (first | apply Jbq | apply Jbr | apply Jbs | apply Jbt | apply Jbu | apply Jbv | apply Jbw | apply Jbx | apply Jby | apply Jbz | apply Jca | apply Jcb | apply Jcc | (refine Jcd rfl ?_) | (refine Jce rfl ?_) | (refine Jcf rfl ?_) | (apply Jcg; (first | exact Jaa rfl | exact Jab rfl | exact Jac Us.h rfl | exact Jad rfl rfl | exact Jaf rfl rfl (by omega) | exact Jag Us.h Sz.h rfl rfl (by omega) | exact Jaj rfl | exact Jal rfl rfl | exact Jap rfl rfl (by omega) | exact Jaq Us.h rfl | exact Jar Us.h Sz.h rfl rfl (by omega) | exact Jat rfl rfl | exact Jav Us.h rfl rfl | (apply Jbl; exact Us.h; exact rfl; exact Sz.h; exact rfl)); exact rfl) | refine Jch rfl rfl rfl ?_ | refine Jci rfl rfl rfl rfl rfl ?_ | refine Jcj rfl rfl rfl rfl ?_)
    refine TL_call rfl en98 (markText_c (q + 1) _ (by omega) (by omega)) rfl rfl ?_
    rintro _ w4 ⟨rfl, e4⟩
    repeat' (first | apply Jbq | apply Jbr | apply Jbs | apply Jbt | apply Jbu | apply Jbv | apply Jbw | apply Jbx | apply Jby | apply Jbz | apply Jca | apply Jcb | apply Jcc | (refine Jcd rfl ?_) | (refine Jce rfl ?_) | (refine Jcf rfl ?_) | (apply Jcg; (first | exact Jaa rfl | exact Jab rfl | exact Jac Us.h rfl | exact Jad rfl rfl | exact Jaf rfl rfl (by omega) | exact Jag Us.h Sz.h rfl rfl (by omega) | exact Jaj rfl | exact Jal rfl rfl | exact Jap rfl rfl (by omega) | exact Jaq Us.h rfl | exact Jar Us.h Sz.h rfl rfl (by omega) | exact Jat rfl rfl | exact Jav Us.h rfl rfl | (apply Jbl; exact Us.h; exact rfl; exact Sz.h; exact rfl)); exact rfl) | refine Jch rfl rfl rfl ?_ | refine Jci rfl rfl rfl rfl rfl ?_ | refine Jcj rfl rfl rfl rfl ?_)
    refine TL_storeOwn rfl (add_lit3 g (i * 5) 1) rfl Sz.h rfl (ho3.ext e4) (by omega) ?_
    intro w5 c5 hz5 ho5
    rw [set_at _ _ _ _ _ hcl] at ho5
    repeat' (first | apply Jbq | apply Jbr | apply Jbs | apply Jbt | apply Jbu | apply Jbv | apply Jbw | apply Jbx | apply Jby | apply Jbz | apply Jca | apply Jcb | apply Jcc | (refine Jcd rfl ?_) | (refine Jce rfl ?_) | (refine Jcf rfl ?_) | (apply Jcg; (first | exact Jaa rfl | exact Jab rfl | exact Jac Us.h rfl | exact Jad rfl rfl | exact Jaf rfl rfl (by omega) | exact Jag Us.h Sz.h rfl rfl (by omega) | exact Jaj rfl | exact Jal rfl rfl | exact Jap rfl rfl (by omega) | exact Jaq Us.h rfl | exact Jar Us.h Sz.h rfl rfl (by omega) | exact Jat rfl rfl | exact Jav Us.h rfl rfl | (apply Jbl; exact Us.h; exact rfl; exact Sz.h; exact rfl)); exact rfl) | refine Jch rfl rfl rfl ?_ | refine Jci rfl rfl rfl rfl rfl ?_ | refine Jcj rfl rfl rfl rfl ?_)
    refine TL_call rfl en98 (markText_c (q + 2) _ (by omega) (by omega)) rfl rfl ?_
    rintro _ w6 ⟨rfl, e6⟩
    repeat' (first | apply Jbq | apply Jbr | apply Jbs | apply Jbt | apply Jbu | apply Jbv | apply Jbw | apply Jbx | apply Jby | apply Jbz | apply Jca | apply Jcb | apply Jcc | (refine Jcd rfl ?_) | (refine Jce rfl ?_) | (refine Jcf rfl ?_) | (apply Jcg; (first | exact Jaa rfl | exact Jab rfl | exact Jac Us.h rfl | exact Jad rfl rfl | exact Jaf rfl rfl (by omega) | exact Jag Us.h Sz.h rfl rfl (by omega) | exact Jaj rfl | exact Jal rfl rfl | exact Jap rfl rfl (by omega) | exact Jaq Us.h rfl | exact Jar Us.h Sz.h rfl rfl (by omega) | exact Jat rfl rfl | exact Jav Us.h rfl rfl | (apply Jbl; exact Us.h; exact rfl; exact Sz.h; exact rfl)); exact rfl) | refine Jch rfl rfl rfl ?_ | refine Jci rfl rfl rfl rfl rfl ?_ | refine Jcj rfl rfl rfl rfl ?_)
    refine TL_storeOwn rfl (add_lit3 g (i * 5) 2) rfl Sz.h rfl (ho5.ext e6) (by omega) ?_
    intro w7 c7 hz7 ho7
    rw [set_at _ _ _ _ _ hcl] at ho7
    repeat' (first | apply Jbq | apply Jbr | apply Jbs | apply Jbt | apply Jbu | apply Jbv | apply Jbw | apply Jbx | apply Jby | apply Jbz | apply Jca | apply Jcb | apply Jcc | (refine Jcd rfl ?_) | (refine Jce rfl ?_) | (refine Jcf rfl ?_) | (apply Jcg; (first | exact Jaa rfl | exact Jab rfl | exact Jac Us.h rfl | exact Jad rfl rfl | exact Jaf rfl rfl (by omega) | exact Jag Us.h Sz.h rfl rfl (by omega) | exact Jaj rfl | exact Jal rfl rfl | exact Jap rfl rfl (by omega) | exact Jaq Us.h rfl | exact Jar Us.h Sz.h rfl rfl (by omega) | exact Jat rfl rfl | exact Jav Us.h rfl rfl | (apply Jbl; exact Us.h; exact rfl; exact Sz.h; exact rfl)); exact rfl) | refine Jch rfl rfl rfl ?_ | refine Jci rfl rfl rfl rfl rfl ?_ | refine Jcj rfl rfl rfl rfl ?_)
    refine TL_storeOwn rfl (add_lit3 g (i * 5) 3) rfl Sz.h rfl ho7 (by omega) ?_
    intro w8 c8 hz8 ho8
    rw [set_at _ _ _ _ _ hcl] at ho8
    have C8 : Ch (fun j => j = g) w2 w8 := by
      have f3 : Ch (fun j => j = g) w2 w3 := c3.mono (fun j hj => by simp only [Iv] at hj; omega)
      have f4 : Ch (fun j => j = g) w3 w4 := e4.mono (fun j hj => by cases hj)
      have f5 : Ch (fun j => j = g) w4 w5 := c5.mono (fun j hj => by simp only [Iv] at hj; omega)
      have f6 : Ch (fun j => j = g) w5 w6 := e6.mono (fun j hj => by cases hj)
      have f7 : Ch (fun j => j = g) w6 w7 := c7.mono (fun j hj => by simp only [Iv] at hj; omega)
      have f8 : Ch (fun j => j = g) w7 w8 := c8.mono (fun j hj => by simp only [Iv] at hj; omega)
      exact ((((f3.then f4).then f5).then f6).then f7).then f8
    replace okb := okb.ch C8 (fun b hb hg => by subst hg; exact hgb hb)
    replace oko := fun y hy => (oko y hy).ch C8 (fun b hb hg => by subst hg; exact hgo y hy hb)
    have hcb : w8.cell? ((⟨g, 0, none⟩ : Addr).add (i * 5 + 4)) = some vb := by
      obtain ⟨ad, h, _, _, hc⟩ := ho8.rd.at_ (by omega)
      injection h with h; subst h
      exact hc _ _ (by rw [mid_get _ _ _ _ hcl]; rfl)
    rw [← add_of_add] at hcb
    repeat' (first | apply Jbq | apply Jbr | apply Jbs | apply Jbt | apply Jbu | apply Jbv | apply Jbw | apply Jbx | apply Jby | apply Jbz | apply Jca | apply Jcb | apply Jcc | (refine Jcd rfl ?_) | (refine Jce rfl ?_) | (refine Jcf rfl ?_) | (apply Jcg; (first | exact Jaa rfl | exact Jab rfl | exact Jac Us.h rfl | exact Jad rfl rfl | exact Jaf rfl rfl (by omega) | exact Jag Us.h Sz.h rfl rfl (by omega) | exact Jaj rfl | exact Jal rfl rfl | exact Jap rfl rfl (by omega) | exact Jaq Us.h rfl | exact Jar Us.h Sz.h rfl rfl (by omega) | exact Jat rfl rfl | exact Jav Us.h rfl rfl | (apply Jbl; exact Us.h; exact rfl; exact Sz.h; exact rfl)); exact rfl) | refine Jch rfl rfl rfl ?_ | refine Jci rfl rfl rfl rfl rfl ?_ | refine Jcj rfl rfl rfl rfl ?_ | refine Jcg (Pu_load Fl.h rfl (fun _ e => by rw [e]; exact hcb)) rfl ?_)
    obtain ⟨l4, h4, ob, hin4⟩ := okb
    refine TL_call rfl en97 (markB_k ob (by omega) (by omega) (by omega)) rfl rfl ?_
    rintro _ w9 ⟨rfl, c9, hz9, ob9⟩
    have c9' : Ch (fun j => j ∈ blk vb) w8 w9 := c9.mono (fun j hj => hin4 j hj.1 hj.2)
    replace ho8 := ho8.ch c9' (fun j a b hj => by have := hin j a b; rw [hgv, List.mem_singleton] at this; subst this; exact hgb hj)
    replace oko := fun y hy => (oko y hy).ch c9' (fun b hb hg => ap1 b hg y hy hb)
    obtain ⟨o9, ho9⟩ : ∃ o9 : OpD, o9 = ⟨q, markT (q + 1), markT (q + 2), (q : Int) + 1 + 1 + 1, mk8 ((q : Int) + 1 + 1 + 1 + 1) o.data.length⟩ := ⟨_, rfl⟩
    have hcells : cellsL OdC (M ++ (⟨o9, vb⟩ : Od) :: D) = cellsL OdC M ++ (I o9.kind :: S o9.name :: S o9.to :: I o9.size :: vb :: cellsL OdC D) := cellsO_mid M D ⟨o9, vb⟩
    repeat' (first | apply Jbq | apply Jbr | apply Jbs | apply Jbt | apply Jbu | apply Jbv | apply Jbw | apply Jbx | apply Jby | apply Jbz | apply Jca | apply Jcb | apply Jcc | (refine Jcd rfl ?_) | (refine Jce rfl ?_) | (refine Jcf rfl ?_) | (apply Jcg; (first | exact Jaa rfl | exact Jab rfl | exact Jac Us.h rfl | exact Jad rfl rfl | exact Jaf rfl rfl (by omega) | exact Jag Us.h Sz.h rfl rfl (by omega) | exact Jaj rfl | exact Jal rfl rfl | exact Jap rfl rfl (by omega) | exact Jaq Us.h rfl | exact Jar Us.h Sz.h rfl rfl (by omega) | exact Jat rfl rfl | exact Jav Us.h rfl rfl | (apply Jbl; exact Us.h; exact rfl; exact Sz.h; exact rfl)); exact rfl) | refine Jch rfl rfl rfl ?_ | refine Jci rfl rfl rfl rfl rfl ?_ | refine Jcj rfl rfl rfl rfl ?_)
    refine TN_round (i + 1, M ++ (⟨o9, vb⟩ : Od) :: D) (subEnv_cons rfl (subEnv_cons (congrArg (fun z => some (I z)) (by simp only; omega)) (subEnv_cons rfl (subEnv_nil _)))) ⟨hlt, (c2.then (C8.mono (fun j hj => by subst hj; exact hgR))).then (c9'.mono (fun j hj => inR j (List.mem_append.2 (.inr (List.mem_flatMap.2 ⟨⟨o, vb⟩, by simp, hj⟩))))), ?_, ⟨?_, ?_, ?_⟩⟩ (by simp only; omega)
    · rw [← hsg]
      simp only [List.map_append, List.map_cons, sgO, ho9, mk8_length]
    · refine ⟨l1, h1, ⟨some ⟨g, 0, none⟩, c, ?_, ?_⟩, hin⟩
      · simp only; congr 1; rw [← hlen]; simp
      · simp only
        rw [hcells, show (M ++ (⟨o9, vb⟩ : Od) :: D).length = es.length by rw [← hlen]; simp]
        rw [ho9]
        exact ho8
    · intro y hy
      rcases List.mem_append.1 hy with hy | hy
      · exact oko y (List.mem_append.2 (.inl hy))
      · rcases List.mem_cons.1 hy with rfl | hy
        · rw [ho9]; exact ⟨l4, h4, ob9, hin4⟩
        · exact oko y (List.mem_append.2 (.inr hy))
    · unfold bksO at nd0 ⊢
      simpa only [List.flatMap_append, List.flatMap_cons] using nd0
  · obtain rfl : i = es.length := by omega
    rw [List.take_of_length_le (by simp)]
    have hn1 := cntS_nn (es.map sgO)
    repeat' (first | apply Jbq | apply Jbr | apply Jbs | apply Jbt | apply Jbu | apply Jbv | apply Jbw | apply Jbx | apply Jby | apply Jbz | apply Jca | apply Jcb | apply Jcc | (refine Jcd rfl ?_) | (refine Jce rfl ?_) | (refine Jcf rfl ?_) | (apply Jcg; (first | exact Jaa rfl | exact Jab rfl | exact Jac Us.h rfl | exact Jad rfl rfl | exact Jaf rfl rfl (by omega) | exact Jag Us.h Sz.h rfl rfl (by omega) | exact Jaj rfl | exact Jal rfl rfl | exact Jap rfl rfl (by omega) | exact Jaq Us.h rfl | exact Jar Us.h Sz.h rfl rfl (by omega) | exact Jat rfl rfl | exact Jav Us.h rfl rfl | (apply Jbl; exact Us.h; exact rfl; exact Sz.h; exact rfl)); exact rfl) | refine Jch rfl rfl rfl ?_ | refine Jci rfl rfl rfl rfl rfl ?_ | refine Jcj rfl rfl rfl rfl ?_)
    exact TR_of (res1 rfl rfl) ⟨_, rfl, by omega, by omega, c2⟩
end Go.Proofs.YtggaghghclomkaaGreat
