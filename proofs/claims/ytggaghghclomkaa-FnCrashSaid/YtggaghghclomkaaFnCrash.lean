/- FnCrash: the law answers true for every input and leaves its arguments as they were. Conditions: none but those of the given row. -/
import Derived.Test.YtggaghghclomkaaQFFFDFCFC68k
import Derived.Test.YtggaghghclomkaaRows
namespace Go.Proofs.Ytggaghghclomkaa.FnCrashP
open Go.RowKit Go.ChangeShapes Go.WideShapes Go.ChangeAt Go.Deep
open Go.ChangeMaps (open_string shut_string)
section
attribute [local irreducible] TL TC TN TX TR TQ TA Pu Ret
set_option maxRecDepth 100000 in
set_option maxHeartbeats 16000000 in
theorem law_c {v : Value} (code : List UInt8) (W : World) (p : RB W 0 W.heap.size v code) (bl : code.length ≤ 9223372036854775807) : Ret Try.prog 4 #[v] W fun v' w' => v' = .bool true ∧ Ext W w' := by
  refine Ret_enter Try.func4 rfl rfl rfl ?_
  have p0 := p
  obtain ⟨A, c, rfl, hc, _⟩ := p0
  repeat' (first | apply Jbq | apply Jbr | apply Jbs | apply Jbt | apply Jbu | apply Jbv | apply Jbw | apply Jbx | apply Jby | apply Jbz | apply Jca | apply Jcb | apply Jcc | (refine Jcd rfl ?_) | (refine Jce rfl ?_) | (refine Jcf rfl ?_) | (apply Jcg; (first | exact Jaa rfl | exact Jab rfl | exact Jac Us.h rfl | exact Jad rfl rfl | exact Jae rfl rfl | exact Jaf rfl rfl (by omega) | exact Jag Us.h Sz.h rfl rfl (by omega) | exact Jah rfl rfl | exact Jai rfl rfl | exact Jaj rfl | exact Jak rfl rfl | exact Jal rfl rfl | exact Jam rfl rfl | exact Jaq Us.h rfl | exact Jar Us.h Sz.h rfl rfl (by omega) | exact Jas rfl rfl | exact Jat rfl rfl | exact Jau Us.h rfl rfl | exact Jav Us.h rfl rfl | exact Jaw Us.h Us.h rfl | exact Jax Us.h Us.h rfl (by omega) | (apply Jbl; exact Us.h; exact rfl; exact Sz.h; exact rfl)); exact rfl) | refine Jch rfl rfl rfl ?_ | refine Jci rfl rfl rfl rfl rfl ?_ | refine Jcj rfl rfl rfl rfl ?_)
  refine Jcx rfl (fun hb => ?_) (fun hb => ?_)
  · repeat' (first | apply Jbq | apply Jbr | apply Jbs | apply Jbt | apply Jbu | apply Jbv | apply Jbw | apply Jbx | apply Jby | apply Jbz | apply Jca | apply Jcb | apply Jcc | (refine Jcd rfl ?_) | (refine Jce rfl ?_) | (refine Jcf rfl ?_) | (apply Jcg; (first | exact Jaa rfl | exact Jab rfl | exact Jac Us.h rfl | exact Jad rfl rfl | exact Jae rfl rfl | exact Jaf rfl rfl (by omega) | exact Jag Us.h Sz.h rfl rfl (by omega) | exact Jah rfl rfl | exact Jai rfl rfl | exact Jaj rfl | exact Jak rfl rfl | exact Jal rfl rfl | exact Jam rfl rfl | exact Jaq Us.h rfl | exact Jar Us.h Sz.h rfl rfl (by omega) | exact Jas rfl rfl | exact Jat rfl rfl | exact Jau Us.h rfl rfl | exact Jav Us.h rfl rfl | exact Jaw Us.h Us.h rfl | exact Jax Us.h Us.h rfl (by omega) | (apply Jbl; exact Us.h; exact rfl; exact Sz.h; exact rfl)); exact rfl) | refine Jch rfl rfl rfl ?_ | refine Jci rfl rfl rfl rfl rfl ?_ | refine Jcj rfl rfl rfl rfl ?_)
    exact TR_of (res1 rfl rfl) ⟨rfl, Ch.refl _ _⟩
  have hn : code.length ≤ 1048576 := by omega
  repeat' (first | apply Jbq | apply Jbr | apply Jbs | apply Jbt | apply Jbu | apply Jbv | apply Jbw | apply Jbx | apply Jby | apply Jbz | apply Jca | apply Jcb | apply Jcc | (refine Jcd rfl ?_) | (refine Jce rfl ?_) | (refine Jcf rfl ?_) | (apply Jcg; (first | exact Jaa rfl | exact Jab rfl | exact Jac Us.h rfl | exact Jad rfl rfl | exact Jae rfl rfl | exact Jaf rfl rfl (by omega) | exact Jag Us.h Sz.h rfl rfl (by omega) | exact Jah rfl rfl | exact Jai rfl rfl | exact Jaj rfl | exact Jak rfl rfl | exact Jal rfl rfl | exact Jam rfl rfl | exact Jaq Us.h rfl | exact Jar Us.h Sz.h rfl rfl (by omega) | exact Jas rfl rfl | exact Jat rfl rfl | exact Jau Us.h rfl rfl | exact Jav Us.h rfl rfl | exact Jaw Us.h Us.h rfl | exact Jax Us.h Us.h rfl (by omega) | (apply Jbl; exact Us.h; exact rfl; exact Sz.h; exact rfl)); exact rfl) | refine Jch rfl rfl rfl ?_ | refine Jci rfl rfl rfl rfl rfl ?_ | refine Jcj rfl rfl rfl rfl ?_)
  refine TL_call rfl en7 (MakeDisk_c p hn) rfl rfl ?_
  rintro _ w1 ⟨d, sn, sk, st, rfl, hD, E, hd⟩
  have z1 := E.size
  have oned := hd.one
  have hfit := hD.fitsD
  have htot : totD d ≤ 1048576 := by have := hD.totD; omega
  repeat' (first | apply Jbq | apply Jbr | apply Jbs | apply Jbt | apply Jbu | apply Jbv | apply Jbw | apply Jbx | apply Jby | apply Jbz | apply Jca | apply Jcb | apply Jcc | (refine Jcd rfl ?_) | (refine Jce rfl ?_) | (refine Jcf rfl ?_) | (apply Jcg; (first | exact Jaa rfl | exact Jab rfl | exact Jac Us.h rfl | exact Jad rfl rfl | exact Jae rfl rfl | exact Jaf rfl rfl (by omega) | exact Jag Us.h Sz.h rfl rfl (by omega) | exact Jah rfl rfl | exact Jai rfl rfl | exact Jaj rfl | exact Jak rfl rfl | exact Jal rfl rfl | exact Jam rfl rfl | exact Jaq Us.h rfl | exact Jar Us.h Sz.h rfl rfl (by omega) | exact Jas rfl rfl | exact Jat rfl rfl | exact Jau Us.h rfl rfl | exact Jav Us.h rfl rfl | exact Jaw Us.h Us.h rfl | exact Jax Us.h Us.h rfl (by omega) | (apply Jbl; exact Us.h; exact rfl; exact Sz.h; exact rfl)); exact rfl) | refine Jch rfl rfl rfl ?_ | refine Jci rfl rfl rfl rfl rfl ?_ | refine Jcj rfl rfl rfl rfl ?_)
  refine TL_alloc Zs.h rfl rfl ?_
  intro w2 ghbd e hghbd hzghbd hbd
  replace hd := hd.ext e
  replace E := E.ext e
  have z2 := e.size
  clear e
  have hlthbd := hbd.lt
  repeat' (first | apply Jbq | apply Jbr | apply Jbs | apply Jbt | apply Jbu | apply Jbv | apply Jbw | apply Jbx | apply Jby | apply Jbz | apply Jca | apply Jcb | apply Jcc | (refine Jcd rfl ?_) | (refine Jce rfl ?_) | (refine Jcf rfl ?_) | (apply Jcg; (first | exact Jaa rfl | exact Jab rfl | exact Jac Us.h rfl | exact Jad rfl rfl | exact Jae rfl rfl | exact Jaf rfl rfl (by omega) | exact Jag Us.h Sz.h rfl rfl (by omega) | exact Jah rfl rfl | exact Jai rfl rfl | exact Jaj rfl | exact Jak rfl rfl | exact Jal rfl rfl | exact Jam rfl rfl | exact Jaq Us.h rfl | exact Jar Us.h Sz.h rfl rfl (by omega) | exact Jas rfl rfl | exact Jat rfl rfl | exact Jau Us.h rfl rfl | exact Jav Us.h rfl rfl | exact Jaw Us.h Us.h rfl | exact Jax Us.h Us.h rfl (by omega) | (apply Jbl; exact Us.h; exact rfl; exact Sz.h; exact rfl)); exact rfl) | refine Jch rfl rfl rfl ?_ | refine Jci rfl rfl rfl rfl rfl ?_ | refine Jcj rfl rfl rfl rfl ?_)
  refine TL_storeAgg rfl rfl Sz.h oned hbd rfl ?_
  clear hbd
  intro w3 c hzz hbd
  replace hd := hd.ch c (by intro k _ _; simp only [Iv]; omega)
  replace E : Ext W _ := Ext.then_iv E c (by omega)
  have z3 := c.size
  clear c
  repeat' (first | apply Jbq | apply Jbr | apply Jbs | apply Jbt | apply Jbu | apply Jbv | apply Jbw | apply Jbx | apply Jby | apply Jbz | apply Jca | apply Jcb | apply Jcc | (refine Jcd rfl ?_) | (refine Jce rfl ?_) | (refine Jcf rfl ?_) | (apply Jcg; (first | exact Jaa rfl | exact Jab rfl | exact Jac Us.h rfl | exact Jad rfl rfl | exact Jae rfl rfl | exact Jaf rfl rfl (by omega) | exact Jag Us.h Sz.h rfl rfl (by omega) | exact Jah rfl rfl | exact Jai rfl rfl | exact Jaj rfl | exact Jak rfl rfl | exact Jal rfl rfl | exact Jam rfl rfl | exact Jaq Us.h rfl | exact Jar Us.h Sz.h rfl rfl (by omega) | exact Jas rfl rfl | exact Jat rfl rfl | exact Jau Us.h rfl rfl | exact Jav Us.h rfl rfl | exact Jaw Us.h Us.h rfl | exact Jax Us.h Us.h rfl (by omega) | (apply Jbl; exact Us.h; exact rfl; exact Sz.h; exact rfl)); exact rfl) | refine Jch rfl rfl rfl ?_ | refine Jci rfl rfl rfl rfl rfl ?_ | refine Jcj rfl rfl rfl rfl ?_)
  refine TL_call rfl en14 (MakeCut_c (p.ext E) hn) rfl rfl ?_
  rintro _ w4 ⟨t, cuts, vc, rfl, ht, hcl, e, hcu⟩
  replace hd := hd.ext e
  replace hbd := hbd.ext e
  replace E := E.ext e
  have z4 := e.size
  clear e
  repeat' (first | apply Jbq | apply Jbr | apply Jbs | apply Jbt | apply Jbu | apply Jbv | apply Jbw | apply Jbx | apply Jby | apply Jbz | apply Jca | apply Jcb | apply Jcc | (refine Jcd rfl ?_) | (refine Jce rfl ?_) | (refine Jcf rfl ?_) | (apply Jcg; (first | exact Jaa rfl | exact Jab rfl | exact Jac Us.h rfl | exact Jad rfl rfl | exact Jae rfl rfl | exact Jaf rfl rfl (by omega) | exact Jag Us.h Sz.h rfl rfl (by omega) | exact Jah rfl rfl | exact Jai rfl rfl | exact Jaj rfl | exact Jak rfl rfl | exact Jal rfl rfl | exact Jam rfl rfl | exact Jaq Us.h rfl | exact Jar Us.h Sz.h rfl rfl (by omega) | exact Jas rfl rfl | exact Jat rfl rfl | exact Jau Us.h rfl rfl | exact Jav Us.h rfl rfl | exact Jaw Us.h Us.h rfl | exact Jax Us.h Us.h rfl (by omega) | (apply Jbl; exact Us.h; exact rfl; exact Sz.h; exact rfl)); exact rfl) | refine Jch rfl rfl rfl ?_ | refine Jci rfl rfl rfl rfl rfl ?_ | refine Jcj rfl rfl rfl rfl ?_ | refine Jcg (Pu_loadAgg (cs := dskC d sn sk st) Us.h rfl Sz.h rfl (fun _ e j u hu => by rw [e, add0, hbd.cell]; exact hu)) rfl ?_)
  refine TL_call rfl en15 (implDiskCrash_c hd hfit htot hcu (by omega)) rfl rfl ?_
  rintro _ w5 ⟨sn1, sk1, st1, rfl, e, he⟩
  replace hd := hd.ext e
  replace hbd := hbd.ext e
  replace hcu := hcu.ext e
  replace E := E.ext e
  have z5 := e.size
  clear e
  rw [pCrash_yes hD] at he ⊢
  simp only at he ⊢
  have hD1 := hD.crash t cuts
  have hus := crash_used hD t cuts
  have hag := crash_again hD t 1 cuts [3, 1]
  obtain ⟨d1, hd1⟩ : ∃ d1, d1 = crashD d t cuts := ⟨_, rfl⟩
  have htu : d1.turns = [] := by rw [hd1]; rfl
  have hfu : d1.fuse = -1 := by rw [hd1]; rfl
  have hnx : d1.next = d.next := by rw [hd1]; rfl
  rw [← hd1] at he hD1 hus hag ⊢
  clear hcu hd1
  have hfit1 := hD1.fitsD
  have htot1 : totD d1 ≤ 1048576 := by have := hD1.totD; omega
  have onee := he.one
  repeat' (first | apply Jbq | apply Jbr | apply Jbs | apply Jbt | apply Jbu | apply Jbv | apply Jbw | apply Jbx | apply Jby | apply Jbz | apply Jca | apply Jcb | apply Jcc | (refine Jcd rfl ?_) | (refine Jce rfl ?_) | (refine Jcf rfl ?_) | (apply Jcg; (first | exact Jaa rfl | exact Jab rfl | exact Jac Us.h rfl | exact Jad rfl rfl | exact Jae rfl rfl | exact Jaf rfl rfl (by omega) | exact Jag Us.h Sz.h rfl rfl (by omega) | exact Jah rfl rfl | exact Jai rfl rfl | exact Jaj rfl | exact Jak rfl rfl | exact Jal rfl rfl | exact Jam rfl rfl | exact Jaq Us.h rfl | exact Jar Us.h Sz.h rfl rfl (by omega) | exact Jas rfl rfl | exact Jat rfl rfl | exact Jau Us.h rfl rfl | exact Jav Us.h rfl rfl | exact Jaw Us.h Us.h rfl | exact Jax Us.h Us.h rfl (by omega) | (apply Jbl; exact Us.h; exact rfl; exact Sz.h; exact rfl)); exact rfl) | refine Jch rfl rfl rfl ?_ | refine Jci rfl rfl rfl rfl rfl ?_ | refine Jcj rfl rfl rfl rfl ?_)
  refine TL_alloc Zs.h rfl rfl ?_
  intro w6 ghbe e hghbe hzghbe hbe
  replace hd := hd.ext e
  replace hbd := hbd.ext e
  replace he := he.ext e
  replace E := E.ext e
  have z6 := e.size
  clear e
  have hlthbe := hbe.lt
  repeat' (first | apply Jbq | apply Jbr | apply Jbs | apply Jbt | apply Jbu | apply Jbv | apply Jbw | apply Jbx | apply Jby | apply Jbz | apply Jca | apply Jcb | apply Jcc | (refine Jcd rfl ?_) | (refine Jce rfl ?_) | (refine Jcf rfl ?_) | (apply Jcg; (first | exact Jaa rfl | exact Jab rfl | exact Jac Us.h rfl | exact Jad rfl rfl | exact Jae rfl rfl | exact Jaf rfl rfl (by omega) | exact Jag Us.h Sz.h rfl rfl (by omega) | exact Jah rfl rfl | exact Jai rfl rfl | exact Jaj rfl | exact Jak rfl rfl | exact Jal rfl rfl | exact Jam rfl rfl | exact Jaq Us.h rfl | exact Jar Us.h Sz.h rfl rfl (by omega) | exact Jas rfl rfl | exact Jat rfl rfl | exact Jau Us.h rfl rfl | exact Jav Us.h rfl rfl | exact Jaw Us.h Us.h rfl | exact Jax Us.h Us.h rfl (by omega) | (apply Jbl; exact Us.h; exact rfl; exact Sz.h; exact rfl)); exact rfl) | refine Jch rfl rfl rfl ?_ | refine Jci rfl rfl rfl rfl rfl ?_ | refine Jcj rfl rfl rfl rfl ?_)
  refine TL_storeAgg rfl rfl Sz.h onee hbe rfl ?_
  clear hbe
  intro w7 c hzz hbe
  replace hd := hd.ch c (by intro k _ _; simp only [Iv]; omega)
  replace hbd := hbd.ch c (by simp only [Iv]; omega)
  replace he := he.ch c (by intro k _ _; simp only [Iv]; omega)
  replace E : Ext W _ := Ext.then_iv E c (by omega)
  have z7 := c.size
  clear c
  repeat' (first | apply Jbq | apply Jbr | apply Jbs | apply Jbt | apply Jbu | apply Jbv | apply Jbw | apply Jbx | apply Jby | apply Jbz | apply Jca | apply Jcb | apply Jcc | (refine Jcd rfl ?_) | (refine Jce rfl ?_) | (refine Jcf rfl ?_) | (apply Jcg; (first | exact Jaa rfl | exact Jab rfl | exact Jac Us.h rfl | exact Jad rfl rfl | exact Jae rfl rfl | exact Jaf rfl rfl (by omega) | exact Jag Us.h Sz.h rfl rfl (by omega) | exact Jah rfl rfl | exact Jai rfl rfl | exact Jaj rfl | exact Jak rfl rfl | exact Jal rfl rfl | exact Jam rfl rfl | exact Jaq Us.h rfl | exact Jar Us.h Sz.h rfl rfl (by omega) | exact Jas rfl rfl | exact Jat rfl rfl | exact Jau Us.h rfl rfl | exact Jav Us.h rfl rfl | exact Jaw Us.h Us.h rfl | exact Jax Us.h Us.h rfl (by omega) | (apply Jbl; exact Us.h; exact rfl; exact Sz.h; exact rfl)); exact rfl) | refine Jch rfl rfl rfl ?_ | refine Jci rfl rfl rfl rfl rfl ?_ | refine Jcj rfl rfl rfl rfl ?_ | refine Jcg (Pu_loadAgg (cs := dskC d1 sn1 sk1 st1) Us.h rfl Sz.h rfl (fun _ e j u hu => by rw [e, add0, hbe.cell]; exact hu)) rfl ?_)
  refine TL_buildSlice (us := i64s [3, 1]) Us.h Zi.h rfl rfl rfl rfl (by kernel_rfl) rfl rfl ?_
  intro w8 gq e hgq hzq hownq
  replace hd := hd.ext e
  replace hbd := hbd.ext e
  replace he := he.ext e
  replace hbe := hbe.ext e
  replace E := E.ext e
  have z8 := e.size
  clear e
  repeat' (first | apply Jbq | apply Jbr | apply Jbs | apply Jbt | apply Jbu | apply Jbv | apply Jbw | apply Jbx | apply Jby | apply Jbz | apply Jca | apply Jcb | apply Jcc | (refine Jcd rfl ?_) | (refine Jce rfl ?_) | (refine Jcf rfl ?_) | (apply Jcg; (first | exact Jaa rfl | exact Jab rfl | exact Jac Us.h rfl | exact Jad rfl rfl | exact Jae rfl rfl | exact Jaf rfl rfl (by omega) | exact Jag Us.h Sz.h rfl rfl (by omega) | exact Jah rfl rfl | exact Jai rfl rfl | exact Jaj rfl | exact Jak rfl rfl | exact Jal rfl rfl | exact Jam rfl rfl | exact Jaq Us.h rfl | exact Jar Us.h Sz.h rfl rfl (by omega) | exact Jas rfl rfl | exact Jat rfl rfl | exact Jau Us.h rfl rfl | exact Jav Us.h rfl rfl | exact Jaw Us.h Us.h rfl | exact Jax Us.h Us.h rfl (by omega) | (apply Jbl; exact Us.h; exact rfl; exact Sz.h; exact rfl)); exact rfl) | refine Jch rfl rfl rfl ?_ | refine Jci rfl rfl rfl rfl rfl ?_ | refine Jcj rfl rfl rfl rfl ?_)
  refine TL_call rfl en15 (implDiskCrash_c (t := 1) (cuts := [3, 1]) he.rd hfit1 htot1 (OI_new (s := [3, 1]) rfl hownq hgq hzq).rd (by simp)) rfl rfl ?_
  rintro _ w9 ⟨sn2, sk2, st2, rfl, e, hf⟩
  replace hd := hd.ext e
  replace hbd := hbd.ext e
  replace he := he.ext e
  replace hbe := hbe.ext e
  replace E := E.ext e
  have z9 := e.size
  clear e
  rw [pCrash_yes hD1] at hf ⊢
  simp only at hf ⊢
  rw [hag] at hf ⊢
  clear hownq
  have onef := hf.one
  repeat' (first | apply Jbq | apply Jbr | apply Jbs | apply Jbt | apply Jbu | apply Jbv | apply Jbw | apply Jbx | apply Jby | apply Jbz | apply Jca | apply Jcb | apply Jcc | (refine Jcd rfl ?_) | (refine Jce rfl ?_) | (refine Jcf rfl ?_) | (apply Jcg; (first | exact Jaa rfl | exact Jab rfl | exact Jac Us.h rfl | exact Jad rfl rfl | exact Jae rfl rfl | exact Jaf rfl rfl (by omega) | exact Jag Us.h Sz.h rfl rfl (by omega) | exact Jah rfl rfl | exact Jai rfl rfl | exact Jaj rfl | exact Jak rfl rfl | exact Jal rfl rfl | exact Jam rfl rfl | exact Jaq Us.h rfl | exact Jar Us.h Sz.h rfl rfl (by omega) | exact Jas rfl rfl | exact Jat rfl rfl | exact Jau Us.h rfl rfl | exact Jav Us.h rfl rfl | exact Jaw Us.h Us.h rfl | exact Jax Us.h Us.h rfl (by omega) | (apply Jbl; exact Us.h; exact rfl; exact Sz.h; exact rfl)); exact rfl) | refine Jch rfl rfl rfl ?_ | refine Jci rfl rfl rfl rfl rfl ?_ | refine Jcj rfl rfl rfl rfl ?_)
  refine TL_alloc Zs.h rfl rfl ?_
  intro w10 ghbf e hghbf hzghbf hbf
  replace hd := hd.ext e
  replace hbd := hbd.ext e
  replace he := he.ext e
  replace hbe := hbe.ext e
  replace hf := hf.ext e
  replace E := E.ext e
  have z10 := e.size
  clear e
  have hlthbf := hbf.lt
  repeat' (first | apply Jbq | apply Jbr | apply Jbs | apply Jbt | apply Jbu | apply Jbv | apply Jbw | apply Jbx | apply Jby | apply Jbz | apply Jca | apply Jcb | apply Jcc | (refine Jcd rfl ?_) | (refine Jce rfl ?_) | (refine Jcf rfl ?_) | (apply Jcg; (first | exact Jaa rfl | exact Jab rfl | exact Jac Us.h rfl | exact Jad rfl rfl | exact Jae rfl rfl | exact Jaf rfl rfl (by omega) | exact Jag Us.h Sz.h rfl rfl (by omega) | exact Jah rfl rfl | exact Jai rfl rfl | exact Jaj rfl | exact Jak rfl rfl | exact Jal rfl rfl | exact Jam rfl rfl | exact Jaq Us.h rfl | exact Jar Us.h Sz.h rfl rfl (by omega) | exact Jas rfl rfl | exact Jat rfl rfl | exact Jau Us.h rfl rfl | exact Jav Us.h rfl rfl | exact Jaw Us.h Us.h rfl | exact Jax Us.h Us.h rfl (by omega) | (apply Jbl; exact Us.h; exact rfl; exact Sz.h; exact rfl)); exact rfl) | refine Jch rfl rfl rfl ?_ | refine Jci rfl rfl rfl rfl rfl ?_ | refine Jcj rfl rfl rfl rfl ?_)
  refine TL_storeAgg rfl rfl Sz.h onef hbf rfl ?_
  clear hbf
  intro w11 c hzz hbf
  replace hd := hd.ch c (by intro k _ _; simp only [Iv]; omega)
  replace hbd := hbd.ch c (by simp only [Iv]; omega)
  replace he := he.ch c (by intro k _ _; simp only [Iv]; omega)
  replace hbe := hbe.ch c (by simp only [Iv]; omega)
  replace hf := hf.ch c (by intro k _ _; simp only [Iv]; omega)
  replace E : Ext W _ := Ext.then_iv E c (by omega)
  have z11 := c.size
  clear c
  obtain ⟨At, ct, hst1, hct, hrt⟩ := he.rd.2.2.row
  rw [htu] at hst1 hct hrt
  subst hst1
  repeat' (first | apply Jbq | apply Jbr | apply Jbs | apply Jbt | apply Jbu | apply Jbv | apply Jbw | apply Jbx | apply Jby | apply Jbz | apply Jca | apply Jcb | apply Jcc | (refine Jcd rfl ?_) | (refine Jce rfl ?_) | (refine Jcf rfl ?_) | (apply Jcg; (first | exact Jaa rfl | exact Jab rfl | exact Jac Us.h rfl | exact Jad rfl rfl | exact Jae rfl rfl | exact Jaf rfl rfl (by omega) | exact Jag Us.h Sz.h rfl rfl (by omega) | exact Jah rfl rfl | exact Jai rfl rfl | exact Jaj rfl | exact Jak rfl rfl | exact Jal rfl rfl | exact Jam rfl rfl | exact Jaq Us.h rfl | exact Jar Us.h Sz.h rfl rfl (by omega) | exact Jas rfl rfl | exact Jat rfl rfl | exact Jau Us.h rfl rfl | exact Jav Us.h rfl rfl | exact Jaw Us.h Us.h rfl | exact Jax Us.h Us.h rfl (by omega) | (apply Jbl; exact Us.h; exact rfl; exact Sz.h; exact rfl)); exact rfl) | refine Jch rfl rfl rfl ?_ | refine Jci rfl rfl rfl rfl rfl ?_ | refine Jcj rfl rfl rfl rfl ?_)
  have hq1 : ∀ w', Ext w11 w' → Ret Try.prog 11 #[.agg (dskC d1 sn1 sk1 (.slice At ([] : List TnD).length ct)).toArray] w' fun v w'' => v = .bool true ∧ Ext w11 w'' := fun w' e => (implDiskOk_c (he.rd.ext e) hfit1 htot1).mono fun v w'' ⟨hv, e2⟩ => ⟨by rw [hv, pDOk_yes hD1], e.ext e2⟩
  have hq2 : ∀ w', Ext w11 w' → Ret Try.prog 12 #[.agg (dskC d1 sn1 sk1 (.slice At ([] : List TnD).length ct)).toArray] w' fun v w'' => v = I (pUsed d1.nodes) ∧ Ext w11 w'' := fun w' e => (implDiskUsed_c (he.rd.ext e) htot1).mono fun v w'' ⟨hv, e2⟩ => ⟨hv, e.ext e2⟩
  have hq3 : ∀ w', Ext w11 w' → Ret Try.prog 12 #[.agg (dskC d sn sk st).toArray] w' fun v w'' => v = I (pUsed d.nodes) ∧ Ext w11 w'' := fun w' e => (implDiskUsed_c (hd.ext e) htot).mono fun v w'' ⟨hv, e2⟩ => ⟨hv, e.ext e2⟩
  refine TC_quietExt mixed (by kernel_rfl) ?_
  repeat' (first | (apply Jck; (first | exact Jaa rfl | exact Jab rfl | exact Jac Us.h rfl | exact Jad rfl rfl | exact Jae rfl rfl | exact Jaf rfl rfl (by omega) | exact Jag Us.h Sz.h rfl rfl (by omega) | exact Jah rfl rfl | exact Jai rfl rfl | exact Jaj rfl | exact Jak rfl rfl | exact Jal rfl rfl | exact Jam rfl rfl | exact Jaq Us.h rfl | exact Jar Us.h Sz.h rfl rfl (by omega) | exact Jas rfl rfl | exact Jat rfl rfl | exact Jau Us.h rfl rfl | exact Jav Us.h rfl rfl | exact Jaw Us.h Us.h rfl | exact Jax Us.h Us.h rfl (by omega) | (apply Jbl; exact Us.h; exact rfl; exact Sz.h; exact rfl)); exact rfl) | refine Jcl rfl rfl rfl ?_ | refine Jcm rfl rfl rfl rfl rfl ?_ | refine Jcn rfl rfl rfl rfl ?_ | refine Jck (Pu_loadAgg (cs := dskC d1 sn1 sk1 (.slice At ([] : List TnD).length ct)) Us.h rfl Sz.h rfl (fun _ e j u hu => Ext.cell e (by rw [add0, hbe.cell]; exact hu))) rfl ?_ | refine Jck (Pu_loadAgg (cs := dskC d sn sk st) Us.h rfl Sz.h rfl (fun _ e j u hu => Ext.cell e (by rw [add0, hbd.cell]; exact hu))) rfl ?_ | refine Jck (Pu_loadAgg (cs := dskC d1 sn2 sk2 st2) Us.h rfl Sz.h rfl (fun _ e j u hu => Ext.cell e (by rw [add0, hbf.cell]; exact hu))) rfl ?_ | refine Jck (Pu_load Fl.h rfl (fun _ e => Ext.cell e (hbe.ld rfl))) rfl ?_ | refine Jck (Pu_load Fl.h rfl (fun _ e => Ext.cell e (hbf.ld rfl))) rfl ?_ | refine Jck (Pu_load Fl.h rfl (fun _ e => Ext.cell e (hbd.ld rfl))) rfl ?_ | refine TQ_call rfl en11 hq1 rfl ?_ | refine TQ_call rfl en12 hq2 rfl ?_ | refine TQ_call rfl en12 hq3 rfl ?_ | (refine Jcv rfl rfl (fun hb => ?_) (fun hb => ?_) <;> (try (exfalso; omega))) | (refine Jcw rfl rfl (fun hb => ?_) (fun hb => ?_) <;> (try (exfalso; omega))) | refine Jcu rfl rfl (fun hb => ?_) (fun hb => ?_))
  refine TQ_nil fun w12 e => ?_
  clear hq1 hq2 hq3
  replace hd := hd.ext e
  replace hbd := hbd.ext e
  replace he := he.ext e
  replace hbe := hbe.ext e
  replace hf := hf.ext e
  replace hbf := hbf.ext e
  replace E := E.ext e
  have z12 := e.size
  clear e
  repeat' (first | apply Jbq | apply Jbr | apply Jbs | apply Jbt | apply Jbu | apply Jbv | apply Jbw | apply Jbx | apply Jby | apply Jbz | apply Jca | apply Jcb | apply Jcc | (refine Jcd rfl ?_) | (refine Jce rfl ?_) | (refine Jcf rfl ?_) | (apply Jcg; (first | exact Jbm rfl rfl | exact Jbn Us.h rfl rfl | exact Jbo rfl rfl | exact Jbp rfl rfl | exact Jaa rfl | exact Jab rfl | exact Jac Us.h rfl | exact Jad rfl rfl | exact Jae rfl rfl | exact Jaf rfl rfl (by omega) | exact Jag Us.h Sz.h rfl rfl (by omega) | exact Jah rfl rfl | exact Jai rfl rfl | exact Jaj rfl | exact Jak rfl rfl | exact Jal rfl rfl | exact Jam rfl rfl | exact Jaq Us.h rfl | exact Jar Us.h Sz.h rfl rfl (by omega) | exact Jas rfl rfl | exact Jat rfl rfl | exact Jau Us.h rfl rfl | exact Jav Us.h rfl rfl | exact Jaw Us.h Us.h rfl | exact Jax Us.h Us.h rfl (by omega) | (apply Jbl; exact Us.h; exact rfl; exact Sz.h; exact rfl)); exact rfl) | refine Jch rfl rfl rfl ?_ | refine Jci rfl rfl rfl rfl rfl ?_ | refine Jcj rfl rfl rfl rfl ?_ | refine Jcg (Pu_loadAgg (cs := dskC d1 sn1 sk1 (.slice At ([] : List TnD).length ct)) Us.h rfl Sz.h rfl (fun _ e j u hu => by rw [e, add0, hbe.cell]; exact hu)) rfl ?_ | (refine Jcs rfl rfl (fun hb => ?_) (fun hb => ?_) <;> (try (exfalso; omega))) | (refine Jct rfl rfl (fun hb => ?_) (fun hb => ?_) <;> (try (exfalso; omega))) | refine Jcr rfl rfl (fun hb => ?_) (fun hb => ?_) | (refine Jcx rfl (fun hb => ?_) (fun hb => ?_) <;> (try (exfalso; omega))) | (refine Jcy rfl (fun hb => ?_) (fun hb => ?_) <;> (try (exfalso; omega))) | refine Jcz rfl (fun hb => ?_) (fun hb => ?_))
  refine TL_call rfl en16 (implDiskDir_c he.rd hfit1 htot1) rfl rfl ?_
  rintro vk w13 ⟨e, hok⟩
  rw [pDirs_yes hD1] at hok
  have hkl := hok.rd
  obtain ⟨Ak, ck, rfl, hck, hrk⟩ := hkl
  have hkn : (pDir d1).length ≤ 48 := by have := pDirs_length (d := d1); rw [pDirs_yes hD1] at this; exact this
  replace hd := hd.ext e
  replace hbd := hbd.ext e
  replace he := he.ext e
  replace hbe := hbe.ext e
  replace hf := hf.ext e
  replace hbf := hbf.ext e
  replace E := E.ext e
  have z13 := e.size
  clear e
  clear hok
  repeat' (first | apply Jbq | apply Jbr | apply Jbs | apply Jbt | apply Jbu | apply Jbv | apply Jbw | apply Jbx | apply Jby | apply Jbz | apply Jca | apply Jcb | apply Jcc | (refine Jcd rfl ?_) | (refine Jce rfl ?_) | (refine Jcf rfl ?_) | (apply Jcg; (first | exact Jaa rfl | exact Jab rfl | exact Jac Us.h rfl | exact Jad rfl rfl | exact Jae rfl rfl | exact Jaf rfl rfl (by omega) | exact Jag Us.h Sz.h rfl rfl (by omega) | exact Jah rfl rfl | exact Jai rfl rfl | exact Jaj rfl | exact Jak rfl rfl | exact Jal rfl rfl | exact Jam rfl rfl | exact Jaq Us.h rfl | exact Jar Us.h Sz.h rfl rfl (by omega) | exact Jas rfl rfl | exact Jat rfl rfl | exact Jau Us.h rfl rfl | exact Jav Us.h rfl rfl | exact Jaw Us.h Us.h rfl | exact Jax Us.h Us.h rfl (by omega) | (apply Jbl; exact Us.h; exact rfl; exact Sz.h; exact rfl)); exact rfl) | refine Jch rfl rfl rfl ?_ | refine Jci rfl rfl rfl rfl rfl ?_ | refine Jcj rfl rfl rfl rfl ?_)
  refine TC_loop (ι := Nat) (fun k => [(6, .pointer (some ⟨ghbe, 0, none⟩)), (8, .pointer (some ⟨ghbf, 0, none⟩)), (76, .slice Ak (pDir d1).length ck), (77, I (pDir d1).length), (78, I k)]) (fun k w' => k ≤ (pDir d1).length ∧ Ext w13 w') (fun k => (pDir d1).length - k) 0 (subEnv_cons rfl (subEnv_cons rfl (subEnv_cons rfl (subEnv_cons rfl (subEnv_cons rfl (subEnv_nil _)))))) ⟨Nat.zero_le _, Ch.refl _ _⟩ ?_
  rintro k w14 ⟨hk, e⟩
  have eK := e
  replace hrk := hrk.ext e
  replace hd := hd.ext e
  replace hbd := hbd.ext e
  replace he := he.ext e
  replace hbe := hbe.ext e
  replace hf := hf.ext e
  replace hbf := hbf.ext e
  replace E := E.ext e
  have z14 := e.size
  clear e
  repeat' (first | apply Jbq | apply Jbr | apply Jbs | apply Jbt | apply Jbu | apply Jbv | apply Jbw | apply Jbx | apply Jby | apply Jbz | apply Jca | apply Jcb | apply Jcc | (refine Jcd rfl ?_) | (refine Jce rfl ?_) | (refine Jcf rfl ?_) | (apply Jcg; (first | exact Jaa rfl | exact Jab rfl | exact Jac Us.h rfl | exact Jad rfl rfl | exact Jae rfl rfl | exact Jaf rfl rfl (by omega) | exact Jag Us.h Sz.h rfl rfl (by omega) | exact Jah rfl rfl | exact Jai rfl rfl | exact Jaj rfl | exact Jak rfl rfl | exact Jal rfl rfl | exact Jam rfl rfl | exact Jaq Us.h rfl | exact Jar Us.h Sz.h rfl rfl (by omega) | exact Jas rfl rfl | exact Jat rfl rfl | exact Jau Us.h rfl rfl | exact Jav Us.h rfl rfl | exact Jaw Us.h Us.h rfl | exact Jax Us.h Us.h rfl (by omega) | (apply Jbl; exact Us.h; exact rfl; exact Sz.h; exact rfl)); exact rfl) | refine Jch rfl rfl rfl ?_ | refine Jci rfl rfl rfl rfl rfl ?_ | refine Jcj rfl rfl rfl rfl ?_)
  refine Jcx rfl (fun hlt0 => ?_) (fun hge => ?_)
  · have hlt : k < (pDir d1).length := by omega
    obtain ⟨ad, rfl, hcell⟩ := Rd.elem LkC_len hrk hlt
    have hxm := List.getElem_mem hlt
    obtain ⟨x, hx⟩ : ∃ x, x = (pDir d1)[k] := ⟨_, rfl⟩
    rw [← hx] at hcell hxm
    have hrd1 := read_dir hD1 hxm
    have hbl := pRead_len d1 x.name htot1
    have hnl : x.name.length ≤ 12 := by have := hD1.dirName d1.turns.length (Nat.le_refl _); rw [List.take_length] at this; exact pName_len (this x hxm)
    repeat' (first | apply Jbq | apply Jbr | apply Jbs | apply Jbt | apply Jbu | apply Jbv | apply Jbw | apply Jbx | apply Jby | apply Jbz | apply Jca | apply Jcb | apply Jcc | (refine Jcd rfl ?_) | (refine Jce rfl ?_) | (refine Jcf rfl ?_) | (apply Jcg; (first | exact Jaa rfl | exact Jab rfl | exact Jac Us.h rfl | exact Jad rfl rfl | exact Jae rfl rfl | exact Jaf rfl rfl (by omega) | exact Jag Us.h Sz.h rfl rfl (by omega) | exact Jah rfl rfl | exact Jai rfl rfl | exact Jaj rfl | exact Jak rfl rfl | exact Jal rfl rfl | exact Jam rfl rfl | exact Jaq Us.h rfl | exact Jar Us.h Sz.h rfl rfl (by omega) | exact Jas rfl rfl | exact Jat rfl rfl | exact Jau Us.h rfl rfl | exact Jav Us.h rfl rfl | exact Jaw Us.h Us.h rfl | exact Jax Us.h Us.h rfl (by omega) | (apply Jbl; exact Us.h; exact rfl; exact Sz.h; exact rfl)); exact rfl) | refine Jch rfl rfl rfl ?_ | refine Jci rfl rfl rfl rfl rfl ?_ | refine Jcj rfl rfl rfl rfl ?_ | refine Jcg (Pu_loadAgg (cs := LkC x) Us.h rfl Sz.h rfl (fun _ e j u hu => by rw [e]; exact hcell j u hu)) rfl ?_)
    refine TL_alloc Zs.h rfl rfl ?_
    intro w15 gl e hgl hzl hbl2
    have eL := e
    replace hd := hd.ext e
    replace hbd := hbd.ext e
    replace he := he.ext e
    replace hbe := hbe.ext e
    replace hf := hf.ext e
    replace hbf := hbf.ext e
    replace E := E.ext e
    have z15 := e.size
    clear e
    repeat' (first | apply Jbq | apply Jbr | apply Jbs | apply Jbt | apply Jbu | apply Jbv | apply Jbw | apply Jbx | apply Jby | apply Jbz | apply Jca | apply Jcb | apply Jcc | (refine Jcd rfl ?_) | (refine Jce rfl ?_) | (refine Jcf rfl ?_) | (apply Jcg; (first | exact Jaa rfl | exact Jab rfl | exact Jac Us.h rfl | exact Jad rfl rfl | exact Jae rfl rfl | exact Jaf rfl rfl (by omega) | exact Jag Us.h Sz.h rfl rfl (by omega) | exact Jah rfl rfl | exact Jai rfl rfl | exact Jaj rfl | exact Jak rfl rfl | exact Jal rfl rfl | exact Jam rfl rfl | exact Jaq Us.h rfl | exact Jar Us.h Sz.h rfl rfl (by omega) | exact Jas rfl rfl | exact Jat rfl rfl | exact Jau Us.h rfl rfl | exact Jav Us.h rfl rfl | exact Jaw Us.h Us.h rfl | exact Jax Us.h Us.h rfl (by omega) | (apply Jbl; exact Us.h; exact rfl; exact Sz.h; exact rfl)); exact rfl) | refine Jch rfl rfl rfl ?_ | refine Jci rfl rfl rfl rfl rfl ?_ | refine Jcj rfl rfl rfl rfl ?_)
    refine TL_storeAgg rfl rfl Sz.h rfl hbl2 rfl ?_
    clear hbl2
    intro w16 c hzz hbl2
    replace eL := Ext.then_iv eL c (by omega)
    replace hd := hd.ch c (by intro k _ _; simp only [Iv]; omega)
    replace hbd := hbd.ch c (by simp only [Iv]; omega)
    replace he := he.ch c (by intro k _ _; simp only [Iv]; omega)
    replace hbe := hbe.ch c (by simp only [Iv]; omega)
    replace hf := hf.ch c (by intro k _ _; simp only [Iv]; omega)
    replace hbf := hbf.ch c (by simp only [Iv]; omega)
    replace E : Ext W _ := Ext.then_iv E c (by omega)
    have z16 := c.size
    clear c
    repeat' (first | apply Jbq | apply Jbr | apply Jbs | apply Jbt | apply Jbu | apply Jbv | apply Jbw | apply Jbx | apply Jby | apply Jbz | apply Jca | apply Jcb | apply Jcc | (refine Jcd rfl ?_) | (refine Jce rfl ?_) | (refine Jcf rfl ?_) | (apply Jcg; (first | exact Jaa rfl | exact Jab rfl | exact Jac Us.h rfl | exact Jad rfl rfl | exact Jae rfl rfl | exact Jaf rfl rfl (by omega) | exact Jag Us.h Sz.h rfl rfl (by omega) | exact Jah rfl rfl | exact Jai rfl rfl | exact Jaj rfl | exact Jak rfl rfl | exact Jal rfl rfl | exact Jam rfl rfl | exact Jaq Us.h rfl | exact Jar Us.h Sz.h rfl rfl (by omega) | exact Jas rfl rfl | exact Jat rfl rfl | exact Jau Us.h rfl rfl | exact Jav Us.h rfl rfl | exact Jaw Us.h Us.h rfl | exact Jax Us.h Us.h rfl (by omega) | (apply Jbl; exact Us.h; exact rfl; exact Sz.h; exact rfl)); exact rfl) | refine Jch rfl rfl rfl ?_ | refine Jci rfl rfl rfl rfl rfl ?_ | refine Jcj rfl rfl rfl rfl ?_ | refine Jcg (Pu_loadAgg (cs := dskC d1 sn1 sk1 (.slice At ([] : List TnD).length ct)) Us.h rfl Sz.h rfl (fun _ e j u hu => by rw [e, add0, hbe.cell]; exact hu)) rfl ?_ | refine Jcg (Pu_load Fl.h rfl (fun _ e => by rw [e]; exact hbl2.ld rfl)) rfl ?_)
    refine TL_call rfl en17 (implDiskRead_c he.rd hfit1 htot1 (by omega)) rfl rfl ?_
    rintro _ w17 ⟨va, rfl, e, ha⟩
    rw [hrd1]
    replace eL := eL.ext e
    replace hd := hd.ext e
    replace hbd := hbd.ext e
    replace he := he.ext e
    replace hbe := hbe.ext e
    replace hf := hf.ext e
    replace hbf := hbf.ext e
    replace hbl2 := hbl2.ext e
    replace E := E.ext e
    have z17 := e.size
    clear e
    repeat' (first | apply Jbq | apply Jbr | apply Jbs | apply Jbt | apply Jbu | apply Jbv | apply Jbw | apply Jbx | apply Jby | apply Jbz | apply Jca | apply Jcb | apply Jcc | (refine Jcd rfl ?_) | (refine Jce rfl ?_) | (refine Jcf rfl ?_) | (apply Jcg; (first | exact Jaa rfl | exact Jab rfl | exact Jac Us.h rfl | exact Jad rfl rfl | exact Jae rfl rfl | exact Jaf rfl rfl (by omega) | exact Jag Us.h Sz.h rfl rfl (by omega) | exact Jah rfl rfl | exact Jai rfl rfl | exact Jaj rfl | exact Jak rfl rfl | exact Jal rfl rfl | exact Jam rfl rfl | exact Jaq Us.h rfl | exact Jar Us.h Sz.h rfl rfl (by omega) | exact Jas rfl rfl | exact Jat rfl rfl | exact Jau Us.h rfl rfl | exact Jav Us.h rfl rfl | exact Jaw Us.h Us.h rfl | exact Jax Us.h Us.h rfl (by omega) | (apply Jbl; exact Us.h; exact rfl; exact Sz.h; exact rfl)); exact rfl) | refine Jch rfl rfl rfl ?_ | refine Jci rfl rfl rfl rfl rfl ?_ | refine Jcj rfl rfl rfl rfl ?_ | refine Jcg (Pu_loadAgg (cs := dskC d1 sn2 sk2 st2) Us.h rfl Sz.h rfl (fun _ e j u hu => by rw [e, add0, hbf.cell]; exact hu)) rfl ?_ | refine Jcg (Pu_load Fl.h rfl (fun _ e => by rw [e]; exact hbl2.ld rfl)) rfl ?_)
    refine TL_call rfl en17 (implDiskRead_c hf.rd hfit1 htot1 (by omega)) rfl rfl ?_
    rintro _ w18 ⟨vb, rfl, e, hb2⟩
    rw [hrd1]
    replace eL := eL.ext e
    replace hd := hd.ext e
    replace hbd := hbd.ext e
    replace he := he.ext e
    replace hbe := hbe.ext e
    replace hf := hf.ext e
    replace hbf := hbf.ext e
    replace hbl2 := hbl2.ext e
    replace ha := ha.ext e
    replace E := E.ext e
    have z18 := e.size
    clear e
    have hA := ha.rd
    have hB := hb2.rd
    clear ha hb2
    obtain ⟨Aa, ca, rfl, hca, hra⟩ := hA
    obtain ⟨Ab, cb, rfl, hcb, hrb⟩ := hB
    repeat' (first | apply Jbq | apply Jbr | apply Jbs | apply Jbt | apply Jbu | apply Jbv | apply Jbw | apply Jbx | apply Jby | apply Jbz | apply Jca | apply Jcb | apply Jcc | (refine Jcd rfl ?_) | (refine Jce rfl ?_) | (refine Jcf rfl ?_) | (apply Jcg; (first | exact Jbm rfl rfl | exact Jbn Us.h rfl rfl | exact Jbo rfl rfl | exact Jbp rfl rfl | exact Jaa rfl | exact Jab rfl | exact Jac Us.h rfl | exact Jad rfl rfl | exact Jae rfl rfl | exact Jaf rfl rfl (by omega) | exact Jag Us.h Sz.h rfl rfl (by omega) | exact Jah rfl rfl | exact Jai rfl rfl | exact Jaj rfl | exact Jak rfl rfl | exact Jal rfl rfl | exact Jam rfl rfl | exact Jaq Us.h rfl | exact Jar Us.h Sz.h rfl rfl (by omega) | exact Jas rfl rfl | exact Jat rfl rfl | exact Jau Us.h rfl rfl | exact Jav Us.h rfl rfl | exact Jaw Us.h Us.h rfl | exact Jax Us.h Us.h rfl (by omega) | (apply Jbl; exact Us.h; exact rfl; exact Sz.h; exact rfl)); exact rfl) | refine Jch rfl rfl rfl ?_ | refine Jci rfl rfl rfl rfl rfl ?_ | refine Jcj rfl rfl rfl rfl ?_ | refine Jcg (Pu_string Us.h Us.h Us.h rfl (fun w' e => by rw [e]; exact ⟨_, _, hra⟩)) rfl ?_ | refine Jcg (Pu_string Us.h Us.h Us.h rfl (fun w' e => by rw [e]; exact ⟨_, _, hrb⟩)) rfl ?_ | (refine Jcs rfl rfl (fun hb => ?_) (fun hb => ?_) <;> (try (exfalso; omega))) | (refine Jct rfl rfl (fun hb => ?_) (fun hb => ?_) <;> (try (exfalso; omega))) | refine Jcr rfl rfl (fun hb => ?_) (fun hb => ?_) | (refine Jcx rfl (fun hb => ?_) (fun hb => ?_) <;> (try (exfalso; omega))) | (refine Jcy rfl (fun hb => ?_) (fun hb => ?_) <;> (try (exfalso; omega))) | refine Jcz rfl (fun hb => ?_) (fun hb => ?_))
    exact TN_round (k + 1) (subEnv_cons rfl (subEnv_cons rfl (subEnv_cons rfl (subEnv_cons rfl (subEnv_cons rfl (subEnv_nil _)))))) ⟨hlt, eK.ext eL⟩ (by omega)
  · repeat' (first | apply Jbq | apply Jbr | apply Jbs | apply Jbt | apply Jbu | apply Jbv | apply Jbw | apply Jbx | apply Jby | apply Jbz | apply Jca | apply Jcb | apply Jcc | (refine Jcd rfl ?_) | (refine Jce rfl ?_) | (refine Jcf rfl ?_) | (apply Jcg; (first | exact Jaa rfl | exact Jab rfl | exact Jac Us.h rfl | exact Jad rfl rfl | exact Jae rfl rfl | exact Jaf rfl rfl (by omega) | exact Jag Us.h Sz.h rfl rfl (by omega) | exact Jah rfl rfl | exact Jai rfl rfl | exact Jaj rfl | exact Jak rfl rfl | exact Jal rfl rfl | exact Jam rfl rfl | exact Jaq Us.h rfl | exact Jar Us.h Sz.h rfl rfl (by omega) | exact Jas rfl rfl | exact Jat rfl rfl | exact Jau Us.h rfl rfl | exact Jav Us.h rfl rfl | exact Jaw Us.h Us.h rfl | exact Jax Us.h Us.h rfl (by omega) | (apply Jbl; exact Us.h; exact rfl; exact Sz.h; exact rfl)); exact rfl) | refine Jch rfl rfl rfl ?_ | refine Jci rfl rfl rfl rfl rfl ?_ | refine Jcj rfl rfl rfl rfl ?_)
    have hA : ∀ w', Ext w14 w' → ∀ j u, (dskC d1 sn1 sk1 (.slice At ([] : List TnD).length ct))[j]? = some u → w'.cell? ((⟨ghbe, 0, none⟩ : Addr).add j) = some u := fun w' e j u hu => by rw [add0]; exact e.cell ((hbe.cell j).trans hu)
    have hB : ∀ w', Ext w14 w' → ∀ j u, (dskC d1 sn2 sk2 st2)[j]? = some u → w'.cell? ((⟨ghbf, 0, none⟩ : Addr).add j) = some u := fun w' e j u hu => by rw [add0]; exact e.cell ((hbf.cell j).trans hu)
    refine TC_any mixed rfl ?_
    intro wa hE hza
    (refine Jco 0 rfl (by kernel_rfl) (by kernel_rfl) (by kernel_rfl) (fun _ _ _ h => h) hE (by (first | exact Pu_loadAgg (cs := dskC d1 sn1 sk1 (.slice At ([] : List TnD).length ct)) Us.h rfl Sz.h rfl hA | exact Pu_loadAgg (cs := dskC d1 sn2 sk2 st2) Us.h rfl Sz.h rfl hB | exact Jaa rfl | exact Jab rfl | exact Jac Us.h rfl | exact Jad rfl rfl | exact Jae rfl rfl | exact Jaf rfl rfl (by omega) | exact Jag Us.h Sz.h rfl rfl (by omega) | exact Jah rfl rfl | exact Jai rfl rfl | exact Jaj rfl | exact Jak rfl rfl | exact Jal rfl rfl | exact Jam rfl rfl | exact Jaq Us.h rfl | exact Jar Us.h Sz.h rfl rfl (by omega) | exact Jas rfl rfl | exact Jat rfl rfl | exact Jau Us.h rfl rfl | exact Jav Us.h rfl rfl | exact Jaw Us.h Us.h rfl | exact Jax Us.h Us.h rfl (by omega) | (apply Jbl; exact Us.h; exact rfl; exact Sz.h; exact rfl))) rfl ?_; refine Jco 3 rfl (by kernel_rfl) (by kernel_rfl) (by kernel_rfl) (fun _ _ _ h => h) hE (by (first | exact Pu_loadAgg (cs := dskC d1 sn1 sk1 (.slice At ([] : List TnD).length ct)) Us.h rfl Sz.h rfl hA | exact Pu_loadAgg (cs := dskC d1 sn2 sk2 st2) Us.h rfl Sz.h rfl hB | exact Jaa rfl | exact Jab rfl | exact Jac Us.h rfl | exact Jad rfl rfl | exact Jae rfl rfl | exact Jaf rfl rfl (by omega) | exact Jag Us.h Sz.h rfl rfl (by omega) | exact Jah rfl rfl | exact Jai rfl rfl | exact Jaj rfl | exact Jak rfl rfl | exact Jal rfl rfl | exact Jam rfl rfl | exact Jaq Us.h rfl | exact Jar Us.h Sz.h rfl rfl (by omega) | exact Jas rfl rfl | exact Jat rfl rfl | exact Jau Us.h rfl rfl | exact Jav Us.h rfl rfl | exact Jaw Us.h Us.h rfl | exact Jax Us.h Us.h rfl (by omega) | (apply Jbl; exact Us.h; exact rfl; exact Sz.h; exact rfl))) rfl ?_)
    refine TA_one 1 (by kernel_rfl) rfl ?_
    refine TL_call rfl en16 (implDiskDir_c (he.rd.ext hE) hfit1 htot1) rfl rfl ?_
    rintro _ wb ⟨e, ho1⟩
    rw [pDirs_yes hD1] at ho1
    have ho1 := ho1.rd
    obtain ⟨A1, c1, rfl, _, _⟩ := ho1
    replace hE := hE.ext e
    clear e
    refine Jbq (TN_any hE ?_)
    (refine Jco 2 rfl (by kernel_rfl) (by kernel_rfl) (by kernel_rfl) (fun _ _ _ h => h) hE (by (first | exact Jaa rfl | exact Jab rfl | exact Jac Us.h rfl | exact Jad rfl rfl | exact Jae rfl rfl | exact Jaf rfl rfl (by omega) | exact Jag Us.h Sz.h rfl rfl (by omega) | exact Jah rfl rfl | exact Jai rfl rfl | exact Jaj rfl | exact Jak rfl rfl | exact Jal rfl rfl | exact Jam rfl rfl | exact Jaq Us.h rfl | exact Jar Us.h Sz.h rfl rfl (by omega) | exact Jas rfl rfl | exact Jat rfl rfl | exact Jau Us.h rfl rfl | exact Jav Us.h rfl rfl | exact Jaw Us.h Us.h rfl | exact Jax Us.h Us.h rfl (by omega) | (apply Jbl; exact Us.h; exact rfl; exact Sz.h; exact rfl))) rfl ?_)
    refine TA_one 4 (by kernel_rfl) rfl ?_
    refine TL_call rfl en16 (implDiskDir_c (hf.rd.ext hE) hfit1 htot1) rfl rfl ?_
    rintro _ wc ⟨e, ho2⟩
    rw [pDirs_yes hD1] at ho2
    have ho2 := ho2.rd
    obtain ⟨A2, c2, rfl, _, _⟩ := ho2
    replace hE := hE.ext e
    clear e
    refine Jbq (TN_any hE ?_)
    (refine Jco 5 rfl (by kernel_rfl) (by kernel_rfl) (by kernel_rfl) (fun _ _ _ h => h) hE (by (first | exact Jaa rfl | exact Jab rfl | exact Jac Us.h rfl | exact Jad rfl rfl | exact Jae rfl rfl | exact Jaf rfl rfl (by omega) | exact Jag Us.h Sz.h rfl rfl (by omega) | exact Jah rfl rfl | exact Jai rfl rfl | exact Jaj rfl | exact Jak rfl rfl | exact Jal rfl rfl | exact Jam rfl rfl | exact Jaq Us.h rfl | exact Jar Us.h Sz.h rfl rfl (by omega) | exact Jas rfl rfl | exact Jat rfl rfl | exact Jau Us.h rfl rfl | exact Jav Us.h rfl rfl | exact Jaw Us.h Us.h rfl | exact Jax Us.h Us.h rfl (by omega) | (apply Jbl; exact Us.h; exact rfl; exact Sz.h; exact rfl))) rfl ?_; refine Jco 6 rfl (by kernel_rfl) (by kernel_rfl) (by kernel_rfl) (fun _ _ _ h => h) hE (by (first | exact Jaa rfl | exact Jab rfl | exact Jac Us.h rfl | exact Jad rfl rfl | exact Jae rfl rfl | exact Jaf rfl rfl (by omega) | exact Jag Us.h Sz.h rfl rfl (by omega) | exact Jah rfl rfl | exact Jai rfl rfl | exact Jaj rfl | exact Jak rfl rfl | exact Jal rfl rfl | exact Jam rfl rfl | exact Jaq Us.h rfl | exact Jar Us.h Sz.h rfl rfl (by omega) | exact Jas rfl rfl | exact Jat rfl rfl | exact Jau Us.h rfl rfl | exact Jav Us.h rfl rfl | exact Jaw Us.h Us.h rfl | exact Jax Us.h Us.h rfl (by omega) | (apply Jbl; exact Us.h; exact rfl; exact Sz.h; exact rfl))) rfl ?_; refine Jco 7 rfl (by kernel_rfl) (by kernel_rfl) (by kernel_rfl) (fun _ _ _ h => h) hE (by (first | exact Jaa rfl | exact Jab rfl | exact Jac Us.h rfl | exact Jad rfl rfl | exact Jae rfl rfl | exact Jaf rfl rfl (by omega) | exact Jag Us.h Sz.h rfl rfl (by omega) | exact Jah rfl rfl | exact Jai rfl rfl | exact Jaj rfl | exact Jak rfl rfl | exact Jal rfl rfl | exact Jam rfl rfl | exact Jaq Us.h rfl | exact Jar Us.h Sz.h rfl rfl (by omega) | exact Jas rfl rfl | exact Jat rfl rfl | exact Jau Us.h rfl rfl | exact Jav Us.h rfl rfl | exact Jaw Us.h Us.h rfl | exact Jax Us.h Us.h rfl (by omega) | (apply Jbl; exact Us.h; exact rfl; exact Sz.h; exact rfl))) rfl ?_)
    refine TA_done (by kernel_rfl) ?_
    repeat' (first | apply Jbq | apply Jbr | apply Jbs | apply Jbt | apply Jbu | apply Jbv | apply Jbw | apply Jbx | apply Jby | apply Jbz | apply Jca | apply Jcb | apply Jcc | (refine Jcd rfl ?_) | (refine Jce rfl ?_) | (refine Jcf rfl ?_) | (apply Jcg; (first | exact Jaa rfl | exact Jab rfl | exact Jac Us.h rfl | exact Jad rfl rfl | exact Jae rfl rfl | exact Jaf rfl rfl (by omega) | exact Jag Us.h Sz.h rfl rfl (by omega) | exact Jah rfl rfl | exact Jai rfl rfl | exact Jaj rfl | exact Jak rfl rfl | exact Jal rfl rfl | exact Jam rfl rfl | exact Jaq Us.h rfl | exact Jar Us.h Sz.h rfl rfl (by omega) | exact Jas rfl rfl | exact Jat rfl rfl | exact Jau Us.h rfl rfl | exact Jav Us.h rfl rfl | exact Jaw Us.h Us.h rfl | exact Jax Us.h Us.h rfl (by omega) | (apply Jbl; exact Us.h; exact rfl; exact Sz.h; exact rfl)); exact rfl) | refine Jch rfl rfl rfl ?_ | refine Jci rfl rfl rfl rfl rfl ?_ | refine Jcj rfl rfl rfl rfl ?_)
    exact TR_of (res1 rfl rfl) ⟨by simp, E.ext hE⟩
end
theorem own : ownKnob Try.prog.godebug = none := by kernel_rfl
theorem laidOut : laidOutB Try.prog = true := by kernel_rfl
set_option maxRecDepth 100000 in
theorem lifted (os : Os) (started : os.Started) (H : Type) (enc : TypeId × Value → H) :
    ReturnsInHanded {} Try.checked os 4 .any (Rows.fnCrashSpec.pre6 enc Try.prog Try.f4 Rows.fnCrashRow.domain false) (Rows.fnCrashSpec.post enc Try.prog Try.f4 false true false false) := by
  refine returnsInHanded_of_change (C := Try.checked) own started (by kernel_rfl) Try.func4
    (ChangeSpec.witness6 (enc := enc) (C := Try.checked) false ⟨#[], #[.slice none 0 0], []⟩ 8 (by kernel_rfl) (by kernel_rfl) (by kernel_rfl) (by kernel_rfl)) ?_
  intro W base args ds gs before hval0 hW hcnd _
  have hval : ∀ (j : Nat) t v, Try.f4.params[j]? = some t → args[j]? = some v → Value.okWide Try.prog W .any base t v := hval0
  have hW' := hW
  obtain ⟨p, q, hA0, hV, rfl, hfz, hnd⟩ := hW
  have hA : DataW.TrodAll enc Try.prog W 0 (fun _ => true) true Try.f4.params.toList args.toList ds p := hA0
  rw [Try.params4] at hA hval
  obtain ⟨v0, vs0, d0, ds0, p0, q0, hargs, rfl, rfl, h0, r0⟩ := trodAll_cons hA
  obtain ⟨rfl, rfl, rfl⟩ := trodAll_nil r0
  obtain rfl : args = #[v0] := by cases args; simp_all
  obtain ⟨rfl, rfl⟩ := trodVars_none hV
  have k0 := h0
  have lt0 : ∀ x ∈ p0, x.block < W.heap.size := by obtain ⟨m, hm⟩ := k0; exact DataW.trod_lt m _ _ _ hm
  obtain ⟨a0, len0, cap0, rfl⟩ := okWide_slice Try.underlying22 (hval 0 22 v0 rfl rfl)
  obtain ⟨fuel0, hf0⟩ := h0
  obtain ⟨A0, c0, code, e0, b0, m0, R0⟩ := arg_bytes Try.underlying22 Try.underlying5 (by kernel_rfl) hf0
  clear hA0 hval0
  have hc := law_c code W ⟨_, _, rfl, b0, R0⟩ (by omega)
  have hc : Calls Try.prog 4 _ W _ := hc
  rw [← e0] at hc
  refine hc.mono fun e W' ⟨v, he, hv, hx⟩ => ?_
  subst hv
  subst he
  have bel := Ch.below hx
  exact ⟨_, rfl, _, _, _, [], _, [], hW', trodAll_mk1 (shut_bool Try.underlying4 _), (trodAll_cons_mk (Below.trod laidOut (by kernel_rfl) (of_decide_eq_true (by kernel_rfl)) k0 bel lt0) trodAll_mk0), rfl, bel.frame _, fun h => by cases h⟩
theorem over : Rows.fnCrashRow.holds Try.pinned (OpenSpec.ofChange Rows.fnCrashSpec) :=
  OpenClaim.holds_of_wide 4 Try.f4 rfl rfl rfl rfl rfl rfl rfl ⟨rfl, rfl, rfl, rfl, rfl⟩ rfl rfl rfl rfl rfl (by kernel_rfl) Try.func4 (by kernel_rfl)
    (of_decide_eq_true (by kernel_rfl)) (by unfold Func.isWrapper; first | (rw [if_pos (by decide +kernel)]; kernel_rfl) | (rw [if_neg (by decide +kernel)]; exact ⟨rfl, rfl⟩))
    (fun os started H enc _ => lifted os started H enc)
theorem proved : Rows.FnCrashSaid := over
#print axioms proved
end Go.Proofs.Ytggaghghclomkaa.FnCrashP
