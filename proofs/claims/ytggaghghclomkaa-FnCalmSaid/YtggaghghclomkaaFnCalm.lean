/- FnCalm: the law answers true for every input and leaves its arguments as they were. Conditions: none but those of the given row. -/
import Derived.Test.YtggaghghclomkaaQFFFDFCFC68k
import Derived.Test.YtggaghghclomkaaRows
namespace Go.Proofs.Ytggaghghclomkaa.FnCalmP
open Go.RowKit Go.ChangeShapes Go.WideShapes Go.ChangeAt Go.Deep
open Go.ChangeMaps (open_string shut_string)
section
attribute [local irreducible] TL TC TN TX TR TQ TA Pu Ret
set_option maxRecDepth 100000 in
set_option maxHeartbeats 16000000 in
theorem law_c {v : Value} (code : List UInt8) (W : World) (p : RB W 0 W.heap.size v code) (bl : code.length ≤ 9223372036854775807) : Ret Try.prog 5 #[v] W fun v' w' => v' = .bool true ∧ Ext W w' := by
  refine Ret_enter Try.func5 rfl rfl rfl ?_
  have p0 := p
  obtain ⟨A, c, rfl, hc, _⟩ := p0
  repeat' (first | apply Jbq | apply Jbr | apply Jbs | apply Jbt | apply Jbu | apply Jbv | apply Jbw | apply Jbx | apply Jby | apply Jbz | apply Jca | apply Jcb | apply Jcc | (refine Jcd rfl ?_) | (refine Jce rfl ?_) | (refine Jcf rfl ?_) | (apply Jcg; (first | exact Jaa rfl | exact Jab rfl | exact Jac Us.h rfl | exact Jad rfl rfl | exact Jae rfl rfl | exact Jaf rfl rfl (by omega) | exact Jag Us.h Sz.h rfl rfl (by omega) | exact Jah rfl rfl | exact Jai rfl rfl | exact Jaj rfl | exact Jal rfl rfl | exact Jam rfl rfl | exact Jaq Us.h rfl | exact Jar Us.h Sz.h rfl rfl (by omega) | exact Jat rfl rfl | exact Jav Us.h rfl rfl | exact Jaw Us.h Us.h rfl | exact Jax Us.h Us.h rfl (by omega) | (apply Jbl; exact Us.h; exact rfl; exact Sz.h; exact rfl)); exact rfl) | refine Jch rfl rfl rfl ?_ | refine Jci rfl rfl rfl rfl rfl ?_ | refine Jcj rfl rfl rfl rfl ?_)
  refine Jcx rfl (fun hb => ?_) (fun hb => ?_)
  · repeat' (first | apply Jbq | apply Jbr | apply Jbs | apply Jbt | apply Jbu | apply Jbv | apply Jbw | apply Jbx | apply Jby | apply Jbz | apply Jca | apply Jcb | apply Jcc | (refine Jcd rfl ?_) | (refine Jce rfl ?_) | (refine Jcf rfl ?_) | (apply Jcg; (first | exact Jaa rfl | exact Jab rfl | exact Jac Us.h rfl | exact Jad rfl rfl | exact Jae rfl rfl | exact Jaf rfl rfl (by omega) | exact Jag Us.h Sz.h rfl rfl (by omega) | exact Jah rfl rfl | exact Jai rfl rfl | exact Jaj rfl | exact Jal rfl rfl | exact Jam rfl rfl | exact Jaq Us.h rfl | exact Jar Us.h Sz.h rfl rfl (by omega) | exact Jat rfl rfl | exact Jav Us.h rfl rfl | exact Jaw Us.h Us.h rfl | exact Jax Us.h Us.h rfl (by omega) | (apply Jbl; exact Us.h; exact rfl; exact Sz.h; exact rfl)); exact rfl) | refine Jch rfl rfl rfl ?_ | refine Jci rfl rfl rfl rfl rfl ?_ | refine Jcj rfl rfl rfl rfl ?_)
    exact TR_of (res1 rfl rfl) ⟨rfl, Ch.refl _ _⟩
  have hn : code.length ≤ 1048576 := by omega
  repeat' (first | apply Jbq | apply Jbr | apply Jbs | apply Jbt | apply Jbu | apply Jbv | apply Jbw | apply Jbx | apply Jby | apply Jbz | apply Jca | apply Jcb | apply Jcc | (refine Jcd rfl ?_) | (refine Jce rfl ?_) | (refine Jcf rfl ?_) | (apply Jcg; (first | exact Jaa rfl | exact Jab rfl | exact Jac Us.h rfl | exact Jad rfl rfl | exact Jae rfl rfl | exact Jaf rfl rfl (by omega) | exact Jag Us.h Sz.h rfl rfl (by omega) | exact Jah rfl rfl | exact Jai rfl rfl | exact Jaj rfl | exact Jal rfl rfl | exact Jam rfl rfl | exact Jaq Us.h rfl | exact Jar Us.h Sz.h rfl rfl (by omega) | exact Jat rfl rfl | exact Jav Us.h rfl rfl | exact Jaw Us.h Us.h rfl | exact Jax Us.h Us.h rfl (by omega) | (apply Jbl; exact Us.h; exact rfl; exact Sz.h; exact rfl)); exact rfl) | refine Jch rfl rfl rfl ?_ | refine Jci rfl rfl rfl rfl rfl ?_ | refine Jcj rfl rfl rfl rfl ?_)
  refine TL_call rfl en7 (MakeDisk_c p hn) rfl rfl ?_
  rintro _ w1 ⟨d, sn, sk, st, rfl, hD, E, hd⟩
  have z1 := E.size
  have oned := hd.one
  have hfit := hD.fitsD
  have htot : totD d ≤ 1048576 := by have := hD.totD; omega
  repeat' (first | apply Jbq | apply Jbr | apply Jbs | apply Jbt | apply Jbu | apply Jbv | apply Jbw | apply Jbx | apply Jby | apply Jbz | apply Jca | apply Jcb | apply Jcc | (refine Jcd rfl ?_) | (refine Jce rfl ?_) | (refine Jcf rfl ?_) | (apply Jcg; (first | exact Jaa rfl | exact Jab rfl | exact Jac Us.h rfl | exact Jad rfl rfl | exact Jae rfl rfl | exact Jaf rfl rfl (by omega) | exact Jag Us.h Sz.h rfl rfl (by omega) | exact Jah rfl rfl | exact Jai rfl rfl | exact Jaj rfl | exact Jal rfl rfl | exact Jam rfl rfl | exact Jaq Us.h rfl | exact Jar Us.h Sz.h rfl rfl (by omega) | exact Jat rfl rfl | exact Jav Us.h rfl rfl | exact Jaw Us.h Us.h rfl | exact Jax Us.h Us.h rfl (by omega) | (apply Jbl; exact Us.h; exact rfl; exact Sz.h; exact rfl)); exact rfl) | refine Jch rfl rfl rfl ?_ | refine Jci rfl rfl rfl rfl rfl ?_ | refine Jcj rfl rfl rfl rfl ?_)
  refine TL_alloc Zs.h rfl rfl ?_
  intro w2 ghbd e hghbd hzghbd hbd
  replace hd := hd.ext e
  replace E := E.ext e
  have z2 := e.size
  clear e
  have hlthbd := hbd.lt
  repeat' (first | apply Jbq | apply Jbr | apply Jbs | apply Jbt | apply Jbu | apply Jbv | apply Jbw | apply Jbx | apply Jby | apply Jbz | apply Jca | apply Jcb | apply Jcc | (refine Jcd rfl ?_) | (refine Jce rfl ?_) | (refine Jcf rfl ?_) | (apply Jcg; (first | exact Jaa rfl | exact Jab rfl | exact Jac Us.h rfl | exact Jad rfl rfl | exact Jae rfl rfl | exact Jaf rfl rfl (by omega) | exact Jag Us.h Sz.h rfl rfl (by omega) | exact Jah rfl rfl | exact Jai rfl rfl | exact Jaj rfl | exact Jal rfl rfl | exact Jam rfl rfl | exact Jaq Us.h rfl | exact Jar Us.h Sz.h rfl rfl (by omega) | exact Jat rfl rfl | exact Jav Us.h rfl rfl | exact Jaw Us.h Us.h rfl | exact Jax Us.h Us.h rfl (by omega) | (apply Jbl; exact Us.h; exact rfl; exact Sz.h; exact rfl)); exact rfl) | refine Jch rfl rfl rfl ?_ | refine Jci rfl rfl rfl rfl rfl ?_ | refine Jcj rfl rfl rfl rfl ?_)
  refine TL_storeAgg rfl rfl Sz.h oned hbd rfl ?_
  clear hbd
  intro w3 c hzz hbd
  replace hd := hd.ch c (by intro k _ _; simp only [Iv]; omega)
  replace E : Ext W _ := Ext.then_iv E c (by omega)
  have z3 := c.size
  clear c
  repeat' (first | apply Jbq | apply Jbr | apply Jbs | apply Jbt | apply Jbu | apply Jbv | apply Jbw | apply Jbx | apply Jby | apply Jbz | apply Jca | apply Jcb | apply Jcc | (refine Jcd rfl ?_) | (refine Jce rfl ?_) | (refine Jcf rfl ?_) | (apply Jcg; (first | exact Jaa rfl | exact Jab rfl | exact Jac Us.h rfl | exact Jad rfl rfl | exact Jae rfl rfl | exact Jaf rfl rfl (by omega) | exact Jag Us.h Sz.h rfl rfl (by omega) | exact Jah rfl rfl | exact Jai rfl rfl | exact Jaj rfl | exact Jal rfl rfl | exact Jam rfl rfl | exact Jaq Us.h rfl | exact Jar Us.h Sz.h rfl rfl (by omega) | exact Jat rfl rfl | exact Jav Us.h rfl rfl | exact Jaw Us.h Us.h rfl | exact Jax Us.h Us.h rfl (by omega) | (apply Jbl; exact Us.h; exact rfl; exact Sz.h; exact rfl)); exact rfl) | refine Jch rfl rfl rfl ?_ | refine Jci rfl rfl rfl rfl rfl ?_ | refine Jcj rfl rfl rfl rfl ?_)
  refine TL_call rfl en14 (MakeCut_c (p.ext E) hn) rfl rfl ?_
  rintro _ w4 ⟨t, cuts, vc, rfl, ht, hcl, e, hcu⟩
  replace hd := hd.ext e
  replace hbd := hbd.ext e
  replace E := E.ext e
  have z4 := e.size
  clear e
  repeat' (first | apply Jbq | apply Jbr | apply Jbs | apply Jbt | apply Jbu | apply Jbv | apply Jbw | apply Jbx | apply Jby | apply Jbz | apply Jca | apply Jcb | apply Jcc | (refine Jcd rfl ?_) | (refine Jce rfl ?_) | (refine Jcf rfl ?_) | (apply Jcg; (first | exact Jaa rfl | exact Jab rfl | exact Jac Us.h rfl | exact Jad rfl rfl | exact Jae rfl rfl | exact Jaf rfl rfl (by omega) | exact Jag Us.h Sz.h rfl rfl (by omega) | exact Jah rfl rfl | exact Jai rfl rfl | exact Jaj rfl | exact Jal rfl rfl | exact Jam rfl rfl | exact Jaq Us.h rfl | exact Jar Us.h Sz.h rfl rfl (by omega) | exact Jat rfl rfl | exact Jav Us.h rfl rfl | exact Jaw Us.h Us.h rfl | exact Jax Us.h Us.h rfl (by omega) | (apply Jbl; exact Us.h; exact rfl; exact Sz.h; exact rfl)); exact rfl) | refine Jch rfl rfl rfl ?_ | refine Jci rfl rfl rfl rfl rfl ?_ | refine Jcj rfl rfl rfl rfl ?_ | refine Jcg (Pu_loadAgg (cs := dskC d sn sk st) Us.h rfl Sz.h rfl (fun _ e j u hu => by rw [e, add0, hbd.cell]; exact hu)) rfl ?_)
  refine TL_call rfl en18 (implDiskCalm_c hd hfit htot) rfl rfl ?_
  rintro _ w5 ⟨sn0, sk0, st0, rfl, e, h0⟩
  replace hd := hd.ext e
  replace hbd := hbd.ext e
  replace hcu := hcu.ext e
  replace E := E.ext e
  have z5 := e.size
  clear e
  rw [pCalm_yes hD] at h0 ⊢
  simp only at h0 ⊢
  have hD0 := hD.calm
  have hag := calm_crash hD t cuts
  have hrd : ∀ s, pRead (crashD (calmD d) t cuts) s = pRead d s := fun s => by rw [hag, read_fuse hD0 (by omega), calm_read hD]
  have hdr : pDir (crashD (calmD d) t cuts) = pDir d := by rw [hag]; rfl
  obtain ⟨d0, hd0⟩ : ∃ d0, d0 = calmD d := ⟨_, rfl⟩
  rw [← hd0] at h0 hD0 hrd hdr hag ⊢
  have hfu : (crashD d0 t cuts).fuse = -1 := rfl
  clear hd0 hag
  have one0 := h0.one
  repeat' (first | apply Jbq | apply Jbr | apply Jbs | apply Jbt | apply Jbu | apply Jbv | apply Jbw | apply Jbx | apply Jby | apply Jbz | apply Jca | apply Jcb | apply Jcc | (refine Jcd rfl ?_) | (refine Jce rfl ?_) | (refine Jcf rfl ?_) | (apply Jcg; (first | exact Jaa rfl | exact Jab rfl | exact Jac Us.h rfl | exact Jad rfl rfl | exact Jae rfl rfl | exact Jaf rfl rfl (by omega) | exact Jag Us.h Sz.h rfl rfl (by omega) | exact Jah rfl rfl | exact Jai rfl rfl | exact Jaj rfl | exact Jal rfl rfl | exact Jam rfl rfl | exact Jaq Us.h rfl | exact Jar Us.h Sz.h rfl rfl (by omega) | exact Jat rfl rfl | exact Jav Us.h rfl rfl | exact Jaw Us.h Us.h rfl | exact Jax Us.h Us.h rfl (by omega) | (apply Jbl; exact Us.h; exact rfl; exact Sz.h; exact rfl)); exact rfl) | refine Jch rfl rfl rfl ?_ | refine Jci rfl rfl rfl rfl rfl ?_ | refine Jcj rfl rfl rfl rfl ?_)
  refine TL_alloc Zs.h rfl rfl ?_
  intro w6 ghb0 e hghb0 hzghb0 hb0
  replace hd := hd.ext e
  replace hbd := hbd.ext e
  replace hcu := hcu.ext e
  replace h0 := h0.ext e
  replace E := E.ext e
  have z6 := e.size
  clear e
  have hlthb0 := hb0.lt
  repeat' (first | apply Jbq | apply Jbr | apply Jbs | apply Jbt | apply Jbu | apply Jbv | apply Jbw | apply Jbx | apply Jby | apply Jbz | apply Jca | apply Jcb | apply Jcc | (refine Jcd rfl ?_) | (refine Jce rfl ?_) | (refine Jcf rfl ?_) | (apply Jcg; (first | exact Jaa rfl | exact Jab rfl | exact Jac Us.h rfl | exact Jad rfl rfl | exact Jae rfl rfl | exact Jaf rfl rfl (by omega) | exact Jag Us.h Sz.h rfl rfl (by omega) | exact Jah rfl rfl | exact Jai rfl rfl | exact Jaj rfl | exact Jal rfl rfl | exact Jam rfl rfl | exact Jaq Us.h rfl | exact Jar Us.h Sz.h rfl rfl (by omega) | exact Jat rfl rfl | exact Jav Us.h rfl rfl | exact Jaw Us.h Us.h rfl | exact Jax Us.h Us.h rfl (by omega) | (apply Jbl; exact Us.h; exact rfl; exact Sz.h; exact rfl)); exact rfl) | refine Jch rfl rfl rfl ?_ | refine Jci rfl rfl rfl rfl rfl ?_ | refine Jcj rfl rfl rfl rfl ?_)
  refine TL_storeAgg rfl rfl Sz.h one0 hb0 rfl ?_
  clear hb0
  intro w7 c hzz hb0
  replace hd := hd.ch c (by intro k _ _; simp only [Iv]; omega)
  replace hbd := hbd.ch c (by simp only [Iv]; omega)
  replace hcu := hcu.ch c (by intro k _ _; simp only [Iv]; omega)
  replace h0 := h0.ch c (by intro k _ _; simp only [Iv]; omega)
  replace E : Ext W _ := Ext.then_iv E c (by omega)
  have z7 := c.size
  clear c
  repeat' (first | apply Jbq | apply Jbr | apply Jbs | apply Jbt | apply Jbu | apply Jbv | apply Jbw | apply Jbx | apply Jby | apply Jbz | apply Jca | apply Jcb | apply Jcc | (refine Jcd rfl ?_) | (refine Jce rfl ?_) | (refine Jcf rfl ?_) | (apply Jcg; (first | exact Jaa rfl | exact Jab rfl | exact Jac Us.h rfl | exact Jad rfl rfl | exact Jae rfl rfl | exact Jaf rfl rfl (by omega) | exact Jag Us.h Sz.h rfl rfl (by omega) | exact Jah rfl rfl | exact Jai rfl rfl | exact Jaj rfl | exact Jal rfl rfl | exact Jam rfl rfl | exact Jaq Us.h rfl | exact Jar Us.h Sz.h rfl rfl (by omega) | exact Jat rfl rfl | exact Jav Us.h rfl rfl | exact Jaw Us.h Us.h rfl | exact Jax Us.h Us.h rfl (by omega) | (apply Jbl; exact Us.h; exact rfl; exact Sz.h; exact rfl)); exact rfl) | refine Jch rfl rfl rfl ?_ | refine Jci rfl rfl rfl rfl rfl ?_ | refine Jcj rfl rfl rfl rfl ?_ | refine Jcg (Pu_loadAgg (cs := dskC d0 sn0 sk0 st0) Us.h rfl Sz.h rfl (fun _ e j u hu => by rw [e, add0, hb0.cell]; exact hu)) rfl ?_)
  refine TL_call rfl en15 (implDiskCrash_c h0.rd hD0.fitsD (by have := hD0.totD; omega) hcu (by omega)) rfl rfl ?_
  rintro _ w8 ⟨sn1, sk1, st1, rfl, e, he⟩
  replace hd := hd.ext e
  replace hbd := hbd.ext e
  replace hcu := hcu.ext e
  replace h0 := h0.ext e
  replace hb0 := hb0.ext e
  replace E := E.ext e
  have z8 := e.size
  clear e
  rw [pCrash_yes hD0] at he ⊢
  simp only at he ⊢
  have hD1 := hD0.crash t cuts
  obtain ⟨d1, hd1⟩ : ∃ d1, d1 = crashD d0 t cuts := ⟨_, rfl⟩
  rw [← hd1] at he hD1 hrd hdr hfu ⊢
  clear hcu hd1 h0 hb0
  have hfit1 := hD1.fitsD
  have htot1 : totD d1 ≤ 1048576 := by have := hD1.totD; omega
  have onee := he.one
  repeat' (first | apply Jbq | apply Jbr | apply Jbs | apply Jbt | apply Jbu | apply Jbv | apply Jbw | apply Jbx | apply Jby | apply Jbz | apply Jca | apply Jcb | apply Jcc | (refine Jcd rfl ?_) | (refine Jce rfl ?_) | (refine Jcf rfl ?_) | (apply Jcg; (first | exact Jaa rfl | exact Jab rfl | exact Jac Us.h rfl | exact Jad rfl rfl | exact Jae rfl rfl | exact Jaf rfl rfl (by omega) | exact Jag Us.h Sz.h rfl rfl (by omega) | exact Jah rfl rfl | exact Jai rfl rfl | exact Jaj rfl | exact Jal rfl rfl | exact Jam rfl rfl | exact Jaq Us.h rfl | exact Jar Us.h Sz.h rfl rfl (by omega) | exact Jat rfl rfl | exact Jav Us.h rfl rfl | exact Jaw Us.h Us.h rfl | exact Jax Us.h Us.h rfl (by omega) | (apply Jbl; exact Us.h; exact rfl; exact Sz.h; exact rfl)); exact rfl) | refine Jch rfl rfl rfl ?_ | refine Jci rfl rfl rfl rfl rfl ?_ | refine Jcj rfl rfl rfl rfl ?_)
  refine TL_alloc Zs.h rfl rfl ?_
  intro w9 ghbe e hghbe hzghbe hbe
  replace hd := hd.ext e
  replace hbd := hbd.ext e
  replace he := he.ext e
  replace E := E.ext e
  have z9 := e.size
  clear e
  have hlthbe := hbe.lt
  repeat' (first | apply Jbq | apply Jbr | apply Jbs | apply Jbt | apply Jbu | apply Jbv | apply Jbw | apply Jbx | apply Jby | apply Jbz | apply Jca | apply Jcb | apply Jcc | (refine Jcd rfl ?_) | (refine Jce rfl ?_) | (refine Jcf rfl ?_) | (apply Jcg; (first | exact Jaa rfl | exact Jab rfl | exact Jac Us.h rfl | exact Jad rfl rfl | exact Jae rfl rfl | exact Jaf rfl rfl (by omega) | exact Jag Us.h Sz.h rfl rfl (by omega) | exact Jah rfl rfl | exact Jai rfl rfl | exact Jaj rfl | exact Jal rfl rfl | exact Jam rfl rfl | exact Jaq Us.h rfl | exact Jar Us.h Sz.h rfl rfl (by omega) | exact Jat rfl rfl | exact Jav Us.h rfl rfl | exact Jaw Us.h Us.h rfl | exact Jax Us.h Us.h rfl (by omega) | (apply Jbl; exact Us.h; exact rfl; exact Sz.h; exact rfl)); exact rfl) | refine Jch rfl rfl rfl ?_ | refine Jci rfl rfl rfl rfl rfl ?_ | refine Jcj rfl rfl rfl rfl ?_)
  refine TL_storeAgg rfl rfl Sz.h onee hbe rfl ?_
  clear hbe
  intro w10 c hzz hbe
  replace hd := hd.ch c (by intro k _ _; simp only [Iv]; omega)
  replace hbd := hbd.ch c (by simp only [Iv]; omega)
  replace he := he.ch c (by intro k _ _; simp only [Iv]; omega)
  replace E : Ext W _ := Ext.then_iv E c (by omega)
  have z10 := c.size
  clear c
  have hkn : (pDir d).length ≤ 48 := by have := pDirs_length (d := d); rw [pDirs_yes hD] at this; exact this
  repeat' (first | apply Jbq | apply Jbr | apply Jbs | apply Jbt | apply Jbu | apply Jbv | apply Jbw | apply Jbx | apply Jby | apply Jbz | apply Jca | apply Jcb | apply Jcc | (refine Jcd rfl ?_) | (refine Jce rfl ?_) | (refine Jcf rfl ?_) | (apply Jcg; (first | exact Jaa rfl | exact Jab rfl | exact Jac Us.h rfl | exact Jad rfl rfl | exact Jae rfl rfl | exact Jaf rfl rfl (by omega) | exact Jag Us.h Sz.h rfl rfl (by omega) | exact Jah rfl rfl | exact Jai rfl rfl | exact Jaj rfl | exact Jal rfl rfl | exact Jam rfl rfl | exact Jaq Us.h rfl | exact Jar Us.h Sz.h rfl rfl (by omega) | exact Jat rfl rfl | exact Jav Us.h rfl rfl | exact Jaw Us.h Us.h rfl | exact Jax Us.h Us.h rfl (by omega) | (apply Jbl; exact Us.h; exact rfl; exact Sz.h; exact rfl)); exact rfl) | refine Jch rfl rfl rfl ?_ | refine Jci rfl rfl rfl rfl rfl ?_ | refine Jcj rfl rfl rfl rfl ?_ | refine Jcg (Pu_loadAgg (cs := dskC d sn sk st) Us.h rfl Sz.h rfl (fun _ e j u hu => by rw [e, add0, hbd.cell]; exact hu)) rfl ?_)
  refine TL_call rfl en16 (implDiskDir_c hd hfit htot) rfl rfl ?_
  rintro v1 w11 ⟨e, hok⟩
  rw [pDirs_yes hD] at hok
  have hkl := hok.rd
  clear hok
  obtain ⟨Ak, ck, rfl, hck, hrk⟩ := hkl
  replace hd := hd.ext e
  replace hbd := hbd.ext e
  replace he := he.ext e
  replace hbe := hbe.ext e
  replace E := E.ext e
  have z11 := e.size
  clear e
  repeat' (first | apply Jbq | apply Jbr | apply Jbs | apply Jbt | apply Jbu | apply Jbv | apply Jbw | apply Jbx | apply Jby | apply Jbz | apply Jca | apply Jcb | apply Jcc | (refine Jcd rfl ?_) | (refine Jce rfl ?_) | (refine Jcf rfl ?_) | (apply Jcg; (first | exact Jaa rfl | exact Jab rfl | exact Jac Us.h rfl | exact Jad rfl rfl | exact Jae rfl rfl | exact Jaf rfl rfl (by omega) | exact Jag Us.h Sz.h rfl rfl (by omega) | exact Jah rfl rfl | exact Jai rfl rfl | exact Jaj rfl | exact Jal rfl rfl | exact Jam rfl rfl | exact Jaq Us.h rfl | exact Jar Us.h Sz.h rfl rfl (by omega) | exact Jat rfl rfl | exact Jav Us.h rfl rfl | exact Jaw Us.h Us.h rfl | exact Jax Us.h Us.h rfl (by omega) | (apply Jbl; exact Us.h; exact rfl; exact Sz.h; exact rfl)); exact rfl) | refine Jch rfl rfl rfl ?_ | refine Jci rfl rfl rfl rfl rfl ?_ | refine Jcj rfl rfl rfl rfl ?_ | refine Jcg (Pu_loadAgg (cs := dskC d1 sn1 sk1 st1) Us.h rfl Sz.h rfl (fun _ e j u hu => by rw [e, add0, hbe.cell]; exact hu)) rfl ?_)
  refine TL_call rfl en16 (implDiskDir_c he.rd hfit1 htot1) rfl rfl ?_
  rintro v2 w12 ⟨e, hok⟩
  rw [pDirs_yes hD1, hdr] at hok
  have hkl := hok.rd
  clear hok
  obtain ⟨Am, cm, rfl, hcm, hrm⟩ := hkl
  replace hd := hd.ext e
  replace hbd := hbd.ext e
  replace he := he.ext e
  replace hbe := hbe.ext e
  replace hrk := hrk.ext e
  replace E := E.ext e
  have z12 := e.size
  clear e
  repeat' (first | apply Jbq | apply Jbr | apply Jbs | apply Jbt | apply Jbu | apply Jbv | apply Jbw | apply Jbx | apply Jby | apply Jbz | apply Jca | apply Jcb | apply Jcc | (refine Jcd rfl ?_) | (refine Jce rfl ?_) | (refine Jcf rfl ?_) | (apply Jcg; (first | exact Jbm rfl rfl | exact Jbn Us.h rfl rfl | exact Jbo rfl rfl | exact Jaa rfl | exact Jab rfl | exact Jac Us.h rfl | exact Jad rfl rfl | exact Jae rfl rfl | exact Jaf rfl rfl (by omega) | exact Jag Us.h Sz.h rfl rfl (by omega) | exact Jah rfl rfl | exact Jai rfl rfl | exact Jaj rfl | exact Jal rfl rfl | exact Jam rfl rfl | exact Jaq Us.h rfl | exact Jar Us.h Sz.h rfl rfl (by omega) | exact Jat rfl rfl | exact Jav Us.h rfl rfl | exact Jaw Us.h Us.h rfl | exact Jax Us.h Us.h rfl (by omega) | (apply Jbl; exact Us.h; exact rfl; exact Sz.h; exact rfl)); exact rfl) | refine Jch rfl rfl rfl ?_ | refine Jci rfl rfl rfl rfl rfl ?_ | refine Jcj rfl rfl rfl rfl ?_ | refine Jcg (Pu_loadAgg (cs := dskC d sn sk st) Us.h rfl Sz.h rfl (fun _ e j u hu => by rw [e, add0, hbd.cell]; exact hu)) rfl ?_ | refine Jcg (Pu_load Fl.h rfl (fun _ e => by rw [e]; exact hbe.ld rfl)) rfl ?_ | (refine Jcs rfl rfl (fun hb => ?_) (fun hb => ?_) <;> (try (exfalso; omega))) | (refine Jct rfl rfl (fun hb => ?_) (fun hb => ?_) <;> (try (exfalso; omega))) | refine Jcr rfl rfl (fun hb => ?_) (fun hb => ?_) | (refine Jcx rfl (fun hb => ?_) (fun hb => ?_) <;> (try (exfalso; omega))) | (refine Jcy rfl (fun hb => ?_) (fun hb => ?_) <;> (try (exfalso; omega))) | refine Jcz rfl (fun hb => ?_) (fun hb => ?_))
  refine TL_call rfl en19 (specDiskDir_o hd hfit htot) rfl rfl ?_
  rintro v3 w13 ⟨e, hok⟩
  rw [pDirs_yes hD] at hok
  have hkl := hok.rd
  clear hok
  obtain ⟨Ax, cx, rfl, _, _⟩ := hkl
  replace hd := hd.ext e
  replace hbd := hbd.ext e
  replace he := he.ext e
  replace hbe := hbe.ext e
  replace hrk := hrk.ext e
  replace hrm := hrm.ext e
  replace E := E.ext e
  have z13 := e.size
  clear e
  repeat' (first | apply Jbq | apply Jbr | apply Jbs | apply Jbt | apply Jbu | apply Jbv | apply Jbw | apply Jbx | apply Jby | apply Jbz | apply Jca | apply Jcb | apply Jcc | (refine Jcd rfl ?_) | (refine Jce rfl ?_) | (refine Jcf rfl ?_) | (apply Jcg; (first | exact Jbm rfl rfl | exact Jbn Us.h rfl rfl | exact Jbo rfl rfl | exact Jaa rfl | exact Jab rfl | exact Jac Us.h rfl | exact Jad rfl rfl | exact Jae rfl rfl | exact Jaf rfl rfl (by omega) | exact Jag Us.h Sz.h rfl rfl (by omega) | exact Jah rfl rfl | exact Jai rfl rfl | exact Jaj rfl | exact Jal rfl rfl | exact Jam rfl rfl | exact Jaq Us.h rfl | exact Jar Us.h Sz.h rfl rfl (by omega) | exact Jat rfl rfl | exact Jav Us.h rfl rfl | exact Jaw Us.h Us.h rfl | exact Jax Us.h Us.h rfl (by omega) | (apply Jbl; exact Us.h; exact rfl; exact Sz.h; exact rfl)); exact rfl) | refine Jch rfl rfl rfl ?_ | refine Jci rfl rfl rfl rfl rfl ?_ | refine Jcj rfl rfl rfl rfl ?_ | refine Jcg (Pu_load Fl.h rfl (fun _ e => by rw [e]; exact hbe.ld rfl)) rfl ?_ | (refine Jcs rfl rfl (fun hb => ?_) (fun hb => ?_) <;> (try (exfalso; omega))) | (refine Jct rfl rfl (fun hb => ?_) (fun hb => ?_) <;> (try (exfalso; omega))) | refine Jcr rfl rfl (fun hb => ?_) (fun hb => ?_) | (refine Jcx rfl (fun hb => ?_) (fun hb => ?_) <;> (try (exfalso; omega))) | (refine Jcy rfl (fun hb => ?_) (fun hb => ?_) <;> (try (exfalso; omega))) | refine Jcz rfl (fun hb => ?_) (fun hb => ?_))
  refine TC_loop (ι := Nat) (fun k => [(3, .pointer (some ⟨ghbd, 0, none⟩)), (8, .pointer (some ⟨ghbe, 0, none⟩)), (11, .slice Am (pDir d).length cm), (70, .slice Ak (pDir d).length ck), (71, I (pDir d).length), (72, I k)]) (fun k w' => k ≤ (pDir d).length ∧ Ext w13 w') (fun k => (pDir d).length - k) 0 (subEnv_cons rfl (subEnv_cons rfl (subEnv_cons rfl (subEnv_cons rfl (subEnv_cons rfl (subEnv_cons rfl (subEnv_nil _))))))) ⟨Nat.zero_le _, Ch.refl _ _⟩ ?_
  rintro k w14 ⟨hk, e⟩
  have eK := e
  replace hd := hd.ext e
  replace hbd := hbd.ext e
  replace he := he.ext e
  replace hbe := hbe.ext e
  replace hrk := hrk.ext e
  replace hrm := hrm.ext e
  replace E := E.ext e
  have z14 := e.size
  clear e
  repeat' (first | apply Jbq | apply Jbr | apply Jbs | apply Jbt | apply Jbu | apply Jbv | apply Jbw | apply Jbx | apply Jby | apply Jbz | apply Jca | apply Jcb | apply Jcc | (refine Jcd rfl ?_) | (refine Jce rfl ?_) | (refine Jcf rfl ?_) | (apply Jcg; (first | exact Jaa rfl | exact Jab rfl | exact Jac Us.h rfl | exact Jad rfl rfl | exact Jae rfl rfl | exact Jaf rfl rfl (by omega) | exact Jag Us.h Sz.h rfl rfl (by omega) | exact Jah rfl rfl | exact Jai rfl rfl | exact Jaj rfl | exact Jal rfl rfl | exact Jam rfl rfl | exact Jaq Us.h rfl | exact Jar Us.h Sz.h rfl rfl (by omega) | exact Jat rfl rfl | exact Jav Us.h rfl rfl | exact Jaw Us.h Us.h rfl | exact Jax Us.h Us.h rfl (by omega) | (apply Jbl; exact Us.h; exact rfl; exact Sz.h; exact rfl)); exact rfl) | refine Jch rfl rfl rfl ?_ | refine Jci rfl rfl rfl rfl rfl ?_ | refine Jcj rfl rfl rfl rfl ?_)
  refine Jcx rfl (fun hlt0 => ?_) (fun hge => ?_)
  · have hlt : k < (pDir d).length := by omega
    obtain ⟨ad, rfl, hcell⟩ := Rd.elem LkC_len hrk hlt
    obtain ⟨am, rfl, hcellm⟩ := Rd.elem LkC_len hrm hlt
    have hxm := List.getElem_mem hlt
    obtain ⟨x, hx⟩ : ∃ x, x = (pDir d)[k] := ⟨_, rfl⟩
    rw [← hx] at hcell hcellm hxm
    have hrd1 := read_dir hD hxm
    have hrd2 := hrd x.name
    have hbl := pRead_len d x.name htot
    have hnl : x.name.length ≤ 12 := by have := hD.dirName d.turns.length (Nat.le_refl _); rw [List.take_length] at this; exact pName_len (this x hxm)
    have hcm0 : _ = some (S x.name) := hcellm 0 _ rfl
    repeat' (first | apply Jbq | apply Jbr | apply Jbs | apply Jbt | apply Jbu | apply Jbv | apply Jbw | apply Jbx | apply Jby | apply Jbz | apply Jca | apply Jcb | apply Jcc | (refine Jcd rfl ?_) | (refine Jce rfl ?_) | (refine Jcf rfl ?_) | (apply Jcg; (first | exact Jaa rfl | exact Jab rfl | exact Jac Us.h rfl | exact Jad rfl rfl | exact Jae rfl rfl | exact Jaf rfl rfl (by omega) | exact Jag Us.h Sz.h rfl rfl (by omega) | exact Jah rfl rfl | exact Jai rfl rfl | exact Jaj rfl | exact Jal rfl rfl | exact Jam rfl rfl | exact Jaq Us.h rfl | exact Jar Us.h Sz.h rfl rfl (by omega) | exact Jat rfl rfl | exact Jav Us.h rfl rfl | exact Jaw Us.h Us.h rfl | exact Jax Us.h Us.h rfl (by omega) | (apply Jbl; exact Us.h; exact rfl; exact Sz.h; exact rfl)); exact rfl) | refine Jch rfl rfl rfl ?_ | refine Jci rfl rfl rfl rfl rfl ?_ | refine Jcj rfl rfl rfl rfl ?_ | refine Jcg (Pu_loadAgg (cs := LkC x) Us.h rfl Sz.h rfl (fun _ e j u hu => by rw [e]; exact hcell j u hu)) rfl ?_)
    refine TL_alloc Zs.h rfl rfl ?_
    intro w15 gl e hgl hzl hbl2
    have eL := e
    replace hd := hd.ext e
    replace hbd := hbd.ext e
    replace he := he.ext e
    replace hbe := hbe.ext e
    replace hrk := hrk.ext e
    replace hrm := hrm.ext e
    replace E := E.ext e
    have z15 := e.size
    clear e
    repeat' (first | apply Jbq | apply Jbr | apply Jbs | apply Jbt | apply Jbu | apply Jbv | apply Jbw | apply Jbx | apply Jby | apply Jbz | apply Jca | apply Jcb | apply Jcc | (refine Jcd rfl ?_) | (refine Jce rfl ?_) | (refine Jcf rfl ?_) | (apply Jcg; (first | exact Jaa rfl | exact Jab rfl | exact Jac Us.h rfl | exact Jad rfl rfl | exact Jae rfl rfl | exact Jaf rfl rfl (by omega) | exact Jag Us.h Sz.h rfl rfl (by omega) | exact Jah rfl rfl | exact Jai rfl rfl | exact Jaj rfl | exact Jal rfl rfl | exact Jam rfl rfl | exact Jaq Us.h rfl | exact Jar Us.h Sz.h rfl rfl (by omega) | exact Jat rfl rfl | exact Jav Us.h rfl rfl | exact Jaw Us.h Us.h rfl | exact Jax Us.h Us.h rfl (by omega) | (apply Jbl; exact Us.h; exact rfl; exact Sz.h; exact rfl)); exact rfl) | refine Jch rfl rfl rfl ?_ | refine Jci rfl rfl rfl rfl rfl ?_ | refine Jcj rfl rfl rfl rfl ?_)
    refine TL_storeAgg rfl rfl Sz.h rfl hbl2 rfl ?_
    clear hbl2
    intro w16 c hzz hbl2
    replace eL := Ext.then_iv eL c (by omega)
    replace hd := hd.ch c (by intro k _ _; simp only [Iv]; omega)
    replace hbd := hbd.ch c (by simp only [Iv]; omega)
    replace he := he.ch c (by intro k _ _; simp only [Iv]; omega)
    replace hbe := hbe.ch c (by simp only [Iv]; omega)
    replace hrk := hrk.ch c (by intro k _ _; simp only [Iv]; omega)
    replace hrm := hrm.ch c (by intro k _ _; simp only [Iv]; omega)
    replace E : Ext W _ := Ext.then_iv E c (by omega)
    have z16 := c.size
    clear c
    repeat' (first | apply Jbq | apply Jbr | apply Jbs | apply Jbt | apply Jbu | apply Jbv | apply Jbw | apply Jbx | apply Jby | apply Jbz | apply Jca | apply Jcb | apply Jcc | (refine Jcd rfl ?_) | (refine Jce rfl ?_) | (refine Jcf rfl ?_) | (apply Jcg; (first | exact Jaa rfl | exact Jab rfl | exact Jac Us.h rfl | exact Jad rfl rfl | exact Jae rfl rfl | exact Jaf rfl rfl (by omega) | exact Jag Us.h Sz.h rfl rfl (by omega) | exact Jah rfl rfl | exact Jai rfl rfl | exact Jaj rfl | exact Jal rfl rfl | exact Jam rfl rfl | exact Jaq Us.h rfl | exact Jar Us.h Sz.h rfl rfl (by omega) | exact Jat rfl rfl | exact Jav Us.h rfl rfl | exact Jaw Us.h Us.h rfl | exact Jax Us.h Us.h rfl (by omega) | (apply Jbl; exact Us.h; exact rfl; exact Sz.h; exact rfl)); exact rfl) | refine Jch rfl rfl rfl ?_ | refine Jci rfl rfl rfl rfl rfl ?_ | refine Jcj rfl rfl rfl rfl ?_ | refine Jcg (Pu_loadAgg (cs := dskC d sn sk st) Us.h rfl Sz.h rfl (fun _ e j u hu => by rw [e, add0, hbd.cell]; exact hu)) rfl ?_ | refine Jcg (Pu_load Fl.h rfl (fun _ e => by rw [e]; exact hbl2.ld rfl)) rfl ?_)
    refine TL_call rfl en17 (implDiskRead_c hd hfit htot (by omega)) rfl rfl ?_
    rintro _ w17 ⟨va, rfl, e, ha⟩
    rw [hrd1]
    replace eL := eL.ext e
    replace hd := hd.ext e
    replace hbd := hbd.ext e
    replace he := he.ext e
    replace hbe := hbe.ext e
    replace hrk := hrk.ext e
    replace hrm := hrm.ext e
    replace hbl2 := hbl2.ext e
    replace E := E.ext e
    have z17 := e.size
    clear e
    repeat' (first | apply Jbq | apply Jbr | apply Jbs | apply Jbt | apply Jbu | apply Jbv | apply Jbw | apply Jbx | apply Jby | apply Jbz | apply Jca | apply Jcb | apply Jcc | (refine Jcd rfl ?_) | (refine Jce rfl ?_) | (refine Jcf rfl ?_) | (apply Jcg; (first | exact Jaa rfl | exact Jab rfl | exact Jac Us.h rfl | exact Jad rfl rfl | exact Jae rfl rfl | exact Jaf rfl rfl (by omega) | exact Jag Us.h Sz.h rfl rfl (by omega) | exact Jah rfl rfl | exact Jai rfl rfl | exact Jaj rfl | exact Jal rfl rfl | exact Jam rfl rfl | exact Jaq Us.h rfl | exact Jar Us.h Sz.h rfl rfl (by omega) | exact Jat rfl rfl | exact Jav Us.h rfl rfl | exact Jaw Us.h Us.h rfl | exact Jax Us.h Us.h rfl (by omega) | (apply Jbl; exact Us.h; exact rfl; exact Sz.h; exact rfl)); exact rfl) | refine Jch rfl rfl rfl ?_ | refine Jci rfl rfl rfl rfl rfl ?_ | refine Jcj rfl rfl rfl rfl ?_ | refine Jcg (Pu_loadAgg (cs := dskC d1 sn1 sk1 st1) Us.h rfl Sz.h rfl (fun _ e j u hu => by rw [e, add0, hbe.cell]; exact hu)) rfl ?_ | refine Jcg (Pu_load Fl.h rfl (fun _ e => by rw [e]; exact hbl2.ld rfl)) rfl ?_)
    refine TL_call rfl en17 (implDiskRead_c he.rd hfit1 htot1 (by omega)) rfl rfl ?_
    rintro _ w18 ⟨vb, rfl, e, hb2⟩
    rw [hrd2] at hb2 ⊢
    rw [hrd1]
    replace eL := eL.ext e
    replace hd := hd.ext e
    replace hbd := hbd.ext e
    replace he := he.ext e
    replace hbe := hbe.ext e
    replace hrk := hrk.ext e
    replace hrm := hrm.ext e
    replace hbl2 := hbl2.ext e
    replace ha := ha.ext e
    replace E := E.ext e
    have z18 := e.size
    clear e
    have hA := ha.rd
    have hB := hb2.rd
    clear ha hb2
    obtain ⟨Aa, ca, rfl, hca, hra⟩ := hA
    obtain ⟨Ab, cb, rfl, hcb, hrb⟩ := hB
    replace hcm0 := Ext.cell eL hcm0
    repeat' (first | apply Jbq | apply Jbr | apply Jbs | apply Jbt | apply Jbu | apply Jbv | apply Jbw | apply Jbx | apply Jby | apply Jbz | apply Jca | apply Jcb | apply Jcc | (refine Jcd rfl ?_) | (refine Jce rfl ?_) | (refine Jcf rfl ?_) | (apply Jcg; (first | exact Jaa rfl | exact Jab rfl | exact Jac Us.h rfl | exact Jad rfl rfl | exact Jae rfl rfl | exact Jaf rfl rfl (by omega) | exact Jag Us.h Sz.h rfl rfl (by omega) | exact Jah rfl rfl | exact Jai rfl rfl | exact Jaj rfl | exact Jal rfl rfl | exact Jam rfl rfl | exact Jaq Us.h rfl | exact Jar Us.h Sz.h rfl rfl (by omega) | exact Jat rfl rfl | exact Jav Us.h rfl rfl | exact Jaw Us.h Us.h rfl | exact Jax Us.h Us.h rfl (by omega) | (apply Jbl; exact Us.h; exact rfl; exact Sz.h; exact rfl)); exact rfl) | refine Jch rfl rfl rfl ?_ | refine Jci rfl rfl rfl rfl rfl ?_ | refine Jcj rfl rfl rfl rfl ?_)
    refine TC_quietExt mixed (by kernel_rfl) ?_
    repeat' (first | (apply Jck; (first | exact Jbm rfl rfl | exact Jbn Us.h rfl rfl | exact Jbo rfl rfl | exact Jaa rfl | exact Jab rfl | exact Jac Us.h rfl | exact Jad rfl rfl | exact Jae rfl rfl | exact Jaf rfl rfl (by omega) | exact Jag Us.h Sz.h rfl rfl (by omega) | exact Jah rfl rfl | exact Jai rfl rfl | exact Jaj rfl | exact Jal rfl rfl | exact Jam rfl rfl | exact Jaq Us.h rfl | exact Jar Us.h Sz.h rfl rfl (by omega) | exact Jat rfl rfl | exact Jav Us.h rfl rfl | exact Jaw Us.h Us.h rfl | exact Jax Us.h Us.h rfl (by omega) | (apply Jbl; exact Us.h; exact rfl; exact Sz.h; exact rfl)); exact rfl) | refine Jcl rfl rfl rfl ?_ | refine Jcm rfl rfl rfl rfl rfl ?_ | refine Jcn rfl rfl rfl rfl ?_ | refine Jck (Pu_load Fl.h rfl (fun _ e => Ext.cell e (hbl2.ld rfl))) rfl ?_ | refine Jck (Pu_load Fl.h rfl (fun _ e => Ext.cell e hcm0)) rfl ?_ | refine Jck (Pu_string Us.h Us.h Us.h rfl (fun w' e => ⟨_, _, hra.ext e⟩)) rfl ?_ | refine Jck (Pu_string Us.h Us.h Us.h rfl (fun w' e => ⟨_, _, hrb.ext e⟩)) rfl ?_ | refine Jck (Jbo rfl rfl) rfl ?_ | (refine Jcv rfl rfl (fun hb => ?_) (fun hb => ?_) <;> (try (exfalso; omega))) | (refine Jcw rfl rfl (fun hb => ?_) (fun hb => ?_) <;> (try (exfalso; omega))) | refine Jcu rfl rfl (fun hb => ?_) (fun hb => ?_))
    refine TQ_nil fun w19 e => ?_
    replace eL := eL.ext e
    repeat' (first | apply Jbq | apply Jbr | apply Jbs | apply Jbt | apply Jbu | apply Jbv | apply Jbw | apply Jbx | apply Jby | apply Jbz | apply Jca | apply Jcb | apply Jcc | (refine Jcd rfl ?_) | (refine Jce rfl ?_) | (refine Jcf rfl ?_) | (apply Jcg; (first | exact Jbm rfl rfl | exact Jbn Us.h rfl rfl | exact Jbo rfl rfl | exact Jaa rfl | exact Jab rfl | exact Jac Us.h rfl | exact Jad rfl rfl | exact Jae rfl rfl | exact Jaf rfl rfl (by omega) | exact Jag Us.h Sz.h rfl rfl (by omega) | exact Jah rfl rfl | exact Jai rfl rfl | exact Jaj rfl | exact Jal rfl rfl | exact Jam rfl rfl | exact Jaq Us.h rfl | exact Jar Us.h Sz.h rfl rfl (by omega) | exact Jat rfl rfl | exact Jav Us.h rfl rfl | exact Jaw Us.h Us.h rfl | exact Jax Us.h Us.h rfl (by omega) | (apply Jbl; exact Us.h; exact rfl; exact Sz.h; exact rfl)); exact rfl) | refine Jch rfl rfl rfl ?_ | refine Jci rfl rfl rfl rfl rfl ?_ | refine Jcj rfl rfl rfl rfl ?_ | (refine Jcs rfl rfl (fun hb => ?_) (fun hb => ?_) <;> (try (exfalso; omega))) | (refine Jct rfl rfl (fun hb => ?_) (fun hb => ?_) <;> (try (exfalso; omega))) | refine Jcr rfl rfl (fun hb => ?_) (fun hb => ?_) | (refine Jcx rfl (fun hb => ?_) (fun hb => ?_) <;> (try (exfalso; omega))) | (refine Jcy rfl (fun hb => ?_) (fun hb => ?_) <;> (try (exfalso; omega))) | refine Jcz rfl (fun hb => ?_) (fun hb => ?_))
    exact TN_round (k + 1) (subEnv_cons rfl (subEnv_cons rfl (subEnv_cons rfl (subEnv_cons rfl (subEnv_cons rfl (subEnv_cons rfl (subEnv_nil _))))))) ⟨hlt, eK.ext eL⟩ (by omega)
  · repeat' (first | apply Jbq | apply Jbr | apply Jbs | apply Jbt | apply Jbu | apply Jbv | apply Jbw | apply Jbx | apply Jby | apply Jbz | apply Jca | apply Jcb | apply Jcc | (refine Jcd rfl ?_) | (refine Jce rfl ?_) | (refine Jcf rfl ?_) | (apply Jcg; (first | exact Jaa rfl | exact Jab rfl | exact Jac Us.h rfl | exact Jad rfl rfl | exact Jae rfl rfl | exact Jaf rfl rfl (by omega) | exact Jag Us.h Sz.h rfl rfl (by omega) | exact Jah rfl rfl | exact Jai rfl rfl | exact Jaj rfl | exact Jal rfl rfl | exact Jam rfl rfl | exact Jaq Us.h rfl | exact Jar Us.h Sz.h rfl rfl (by omega) | exact Jat rfl rfl | exact Jav Us.h rfl rfl | exact Jaw Us.h Us.h rfl | exact Jax Us.h Us.h rfl (by omega) | (apply Jbl; exact Us.h; exact rfl; exact Sz.h; exact rfl)); exact rfl) | refine Jch rfl rfl rfl ?_ | refine Jci rfl rfl rfl rfl rfl ?_ | refine Jcj rfl rfl rfl rfl ?_ | refine Jcg (Pu_loadAgg (cs := dskC d1 sn1 sk1 st1) Us.h rfl Sz.h rfl (fun _ e j u hu => by rw [e, add0, hbe.cell]; exact hu)) rfl ?_)
    refine TL_call rfl en11 (implDiskOk_c he.rd hfit1 htot1) rfl rfl ?_
    rintro _ wz ⟨rfl, e⟩
    repeat' (first | apply Jbq | apply Jbr | apply Jbs | apply Jbt | apply Jbu | apply Jbv | apply Jbw | apply Jbx | apply Jby | apply Jbz | apply Jca | apply Jcb | apply Jcc | (refine Jcd rfl ?_) | (refine Jce rfl ?_) | (refine Jcf rfl ?_) | (apply Jcg; (first | exact Jaa rfl | exact Jab rfl | exact Jac Us.h rfl | exact Jad rfl rfl | exact Jae rfl rfl | exact Jaf rfl rfl (by omega) | exact Jag Us.h Sz.h rfl rfl (by omega) | exact Jah rfl rfl | exact Jai rfl rfl | exact Jaj rfl | exact Jal rfl rfl | exact Jam rfl rfl | exact Jaq Us.h rfl | exact Jar Us.h Sz.h rfl rfl (by omega) | exact Jat rfl rfl | exact Jav Us.h rfl rfl | exact Jaw Us.h Us.h rfl | exact Jax Us.h Us.h rfl (by omega) | (apply Jbl; exact Us.h; exact rfl; exact Sz.h; exact rfl)); exact rfl) | refine Jch rfl rfl rfl ?_ | refine Jci rfl rfl rfl rfl rfl ?_ | refine Jcj rfl rfl rfl rfl ?_)
    exact TR_of (res1 rfl rfl) ⟨by rw [pDOk_yes hD1], E.ext e⟩
end
theorem own : ownKnob Try.prog.godebug = none := by kernel_rfl
theorem laidOut : laidOutB Try.prog = true := by kernel_rfl
set_option maxRecDepth 100000 in
theorem lifted (os : Os) (started : os.Started) (H : Type) (enc : TypeId × Value → H) :
    ReturnsInHanded {} Try.checked os 5 .any (Rows.fnCalmSpec.pre6 enc Try.prog Try.f5 Rows.fnCalmRow.domain false) (Rows.fnCalmSpec.post enc Try.prog Try.f5 false true false false) := by
  refine returnsInHanded_of_change (C := Try.checked) own started (by kernel_rfl) Try.func5
    (ChangeSpec.witness6 (enc := enc) (C := Try.checked) false ⟨#[], #[.slice none 0 0], []⟩ 8 (by kernel_rfl) (by kernel_rfl) (by kernel_rfl) (by kernel_rfl)) ?_
  intro W base args ds gs before hval0 hW hcnd _
  have hval : ∀ (j : Nat) t v, Try.f5.params[j]? = some t → args[j]? = some v → Value.okWide Try.prog W .any base t v := hval0
  have hW' := hW
  obtain ⟨p, q, hA0, hV, rfl, hfz, hnd⟩ := hW
  have hA : DataW.TrodAll enc Try.prog W 0 (fun _ => true) true Try.f5.params.toList args.toList ds p := hA0
  rw [Try.params5] at hA hval
  obtain ⟨v0, vs0, d0, ds0, p0, q0, hargs, rfl, rfl, h0, r0⟩ := trodAll_cons hA
  obtain ⟨rfl, rfl, rfl⟩ := trodAll_nil r0
  obtain rfl : args = #[v0] := by cases args; simp_all
  obtain ⟨rfl, rfl⟩ := trodVars_none hV
  have k0 := h0
  have lt0 : ∀ x ∈ p0, x.block < W.heap.size := by obtain ⟨m, hm⟩ := k0; exact DataW.trod_lt m _ _ _ hm
  obtain ⟨a0, len0, cap0, rfl⟩ := okWide_slice Try.underlying22 (hval 0 22 v0 rfl rfl)
  obtain ⟨fuel0, hf0⟩ := h0
  obtain ⟨A0, c0, code, e0, b0, m0, R0⟩ := arg_bytes Try.underlying22 Try.underlying5 (by kernel_rfl) hf0
  clear hA0 hval0
  have hc := law_c code W ⟨_, _, rfl, b0, R0⟩ (by omega)
  have hc : Calls Try.prog 5 _ W _ := hc
  rw [← e0] at hc
  refine hc.mono fun e W' ⟨v, he, hv, hx⟩ => ?_
  subst hv
  subst he
  have bel := Ch.below hx
  exact ⟨_, rfl, _, _, _, [], _, [], hW', trodAll_mk1 (shut_bool Try.underlying4 _), (trodAll_cons_mk (Below.trod laidOut (by kernel_rfl) (of_decide_eq_true (by kernel_rfl)) k0 bel lt0) trodAll_mk0), rfl, bel.frame _, fun h => by cases h⟩
theorem over : Rows.fnCalmRow.holds Try.pinned (OpenSpec.ofChange Rows.fnCalmSpec) :=
  OpenClaim.holds_of_wide 5 Try.f5 rfl rfl rfl rfl rfl rfl rfl ⟨rfl, rfl, rfl, rfl, rfl⟩ rfl rfl rfl rfl rfl (by kernel_rfl) Try.func5 (by kernel_rfl)
    (of_decide_eq_true (by kernel_rfl)) (by unfold Func.isWrapper; first | (rw [if_pos (by decide +kernel)]; kernel_rfl) | (rw [if_neg (by decide +kernel)]; exact ⟨rfl, rfl⟩))
    (fun os started H enc _ => lifted os started H enc)
theorem proved : Rows.FnCalmSaid := over
#print axioms proved
end Go.Proofs.Ytggaghghclomkaa.FnCalmP
