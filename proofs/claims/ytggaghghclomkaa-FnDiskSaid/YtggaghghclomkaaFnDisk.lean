/- FnDisk: the law answers true for every input and leaves its arguments as they were. Conditions: none but those of the given row. -/
import Derived.Test.YtggaghghclomkaaQFFFDFCFC68k
import Derived.Test.YtggaghghclomkaaRows
namespace Go.Proofs.Ytggaghghclomkaa.FnDiskP
open Go.RowKit Go.ChangeShapes Go.WideShapes Go.ChangeAt Go.Deep
open Go.ChangeMaps (open_string shut_string)
section
attribute [local irreducible] TL TC TN TX TR TQ TA Pu Ret
set_option maxRecDepth 100000 in
set_option maxHeartbeats 16000000 in
theorem law_c {v : Value} (code : List UInt8) (W : World) (p : RB W 0 W.heap.size v code) (bl : code.length ≤ 9223372036854775807) : Ret Try.prog 3 #[v] W fun v' w' => v' = .bool true ∧ Ext W w' := by
  refine Ret_enter Try.func3 rfl rfl rfl ?_
  have p0 := p
  obtain ⟨A, c, rfl, hc, _⟩ := p0
  repeat' (first | apply Jbq | apply Jbr | apply Jbs | apply Jbt | apply Jbu | apply Jbv | apply Jbw | apply Jbx | apply Jby | apply Jbz | apply Jca | apply Jcb | apply Jcc | (refine Jcd rfl ?_) | (refine Jce rfl ?_) | (refine Jcf rfl ?_) | (apply Jcg; (first | exact Jaa rfl | exact Jab rfl | exact Jac Us.h rfl | exact Jad rfl rfl | exact Jae rfl rfl | exact Jaf rfl rfl (by omega) | exact Jag Us.h Sz.h rfl rfl (by omega) | exact Jah rfl rfl | exact Jai rfl rfl | exact Jaj rfl | exact Jak rfl rfl | exact Jal rfl rfl | exact Jam rfl rfl | exact Jan rfl rfl | exact Jaq Us.h rfl | exact Jar Us.h Sz.h rfl rfl (by omega) | exact Jas rfl rfl | exact Jat rfl rfl | exact Jau Us.h rfl rfl | exact Jav Us.h rfl rfl | (apply Jbl; exact Us.h; exact rfl; exact Sz.h; exact rfl)); exact rfl) | refine Jch rfl rfl rfl ?_ | refine Jci rfl rfl rfl rfl rfl ?_ | refine Jcj rfl rfl rfl rfl ?_)
  refine Jcx rfl (fun hb => ?_) (fun hb => ?_)
  · repeat' (first | apply Jbq | apply Jbr | apply Jbs | apply Jbt | apply Jbu | apply Jbv | apply Jbw | apply Jbx | apply Jby | apply Jbz | apply Jca | apply Jcb | apply Jcc | (refine Jcd rfl ?_) | (refine Jce rfl ?_) | (refine Jcf rfl ?_) | (apply Jcg; (first | exact Jaa rfl | exact Jab rfl | exact Jac Us.h rfl | exact Jad rfl rfl | exact Jae rfl rfl | exact Jaf rfl rfl (by omega) | exact Jag Us.h Sz.h rfl rfl (by omega) | exact Jah rfl rfl | exact Jai rfl rfl | exact Jaj rfl | exact Jak rfl rfl | exact Jal rfl rfl | exact Jam rfl rfl | exact Jan rfl rfl | exact Jaq Us.h rfl | exact Jar Us.h Sz.h rfl rfl (by omega) | exact Jas rfl rfl | exact Jat rfl rfl | exact Jau Us.h rfl rfl | exact Jav Us.h rfl rfl | (apply Jbl; exact Us.h; exact rfl; exact Sz.h; exact rfl)); exact rfl) | refine Jch rfl rfl rfl ?_ | refine Jci rfl rfl rfl rfl rfl ?_ | refine Jcj rfl rfl rfl rfl ?_)
    exact TR_of (res1 rfl rfl) ⟨rfl, Ch.refl _ _⟩
  have hn : code.length ≤ 1048576 := by omega
  repeat' (first | apply Jbq | apply Jbr | apply Jbs | apply Jbt | apply Jbu | apply Jbv | apply Jbw | apply Jbx | apply Jby | apply Jbz | apply Jca | apply Jcb | apply Jcc | (refine Jcd rfl ?_) | (refine Jce rfl ?_) | (refine Jcf rfl ?_) | (apply Jcg; (first | exact Jaa rfl | exact Jab rfl | exact Jac Us.h rfl | exact Jad rfl rfl | exact Jae rfl rfl | exact Jaf rfl rfl (by omega) | exact Jag Us.h Sz.h rfl rfl (by omega) | exact Jah rfl rfl | exact Jai rfl rfl | exact Jaj rfl | exact Jak rfl rfl | exact Jal rfl rfl | exact Jam rfl rfl | exact Jan rfl rfl | exact Jaq Us.h rfl | exact Jar Us.h Sz.h rfl rfl (by omega) | exact Jas rfl rfl | exact Jat rfl rfl | exact Jau Us.h rfl rfl | exact Jav Us.h rfl rfl | (apply Jbl; exact Us.h; exact rfl; exact Sz.h; exact rfl)); exact rfl) | refine Jch rfl rfl rfl ?_ | refine Jci rfl rfl rfl rfl rfl ?_ | refine Jcj rfl rfl rfl rfl ?_)
  refine TL_call rfl en7 (MakeDisk_c p hn) rfl rfl ?_
  rintro _ w1 ⟨d, sn, sk, st, rfl, hD, E, hd⟩
  have z1 := E.size
  have oned := hd.one
  have hfit := hD.fitsD
  have htot : totD d ≤ 1048576 := by have := hD.totD; omega
  repeat' (first | apply Jbq | apply Jbr | apply Jbs | apply Jbt | apply Jbu | apply Jbv | apply Jbw | apply Jbx | apply Jby | apply Jbz | apply Jca | apply Jcb | apply Jcc | (refine Jcd rfl ?_) | (refine Jce rfl ?_) | (refine Jcf rfl ?_) | (apply Jcg; (first | exact Jaa rfl | exact Jab rfl | exact Jac Us.h rfl | exact Jad rfl rfl | exact Jae rfl rfl | exact Jaf rfl rfl (by omega) | exact Jag Us.h Sz.h rfl rfl (by omega) | exact Jah rfl rfl | exact Jai rfl rfl | exact Jaj rfl | exact Jak rfl rfl | exact Jal rfl rfl | exact Jam rfl rfl | exact Jan rfl rfl | exact Jaq Us.h rfl | exact Jar Us.h Sz.h rfl rfl (by omega) | exact Jas rfl rfl | exact Jat rfl rfl | exact Jau Us.h rfl rfl | exact Jav Us.h rfl rfl | (apply Jbl; exact Us.h; exact rfl; exact Sz.h; exact rfl)); exact rfl) | refine Jch rfl rfl rfl ?_ | refine Jci rfl rfl rfl rfl rfl ?_ | refine Jcj rfl rfl rfl rfl ?_)
  refine TL_alloc Zs.h rfl rfl ?_
  intro w2 ghbd e hghbd hzghbd hbd
  replace hd := hd.ext e
  replace E := E.ext e
  have z2 := e.size
  clear e
  have hlthbd := hbd.lt
  repeat' (first | apply Jbq | apply Jbr | apply Jbs | apply Jbt | apply Jbu | apply Jbv | apply Jbw | apply Jbx | apply Jby | apply Jbz | apply Jca | apply Jcb | apply Jcc | (refine Jcd rfl ?_) | (refine Jce rfl ?_) | (refine Jcf rfl ?_) | (apply Jcg; (first | exact Jaa rfl | exact Jab rfl | exact Jac Us.h rfl | exact Jad rfl rfl | exact Jae rfl rfl | exact Jaf rfl rfl (by omega) | exact Jag Us.h Sz.h rfl rfl (by omega) | exact Jah rfl rfl | exact Jai rfl rfl | exact Jaj rfl | exact Jak rfl rfl | exact Jal rfl rfl | exact Jam rfl rfl | exact Jan rfl rfl | exact Jaq Us.h rfl | exact Jar Us.h Sz.h rfl rfl (by omega) | exact Jas rfl rfl | exact Jat rfl rfl | exact Jau Us.h rfl rfl | exact Jav Us.h rfl rfl | (apply Jbl; exact Us.h; exact rfl; exact Sz.h; exact rfl)); exact rfl) | refine Jch rfl rfl rfl ?_ | refine Jci rfl rfl rfl rfl rfl ?_ | refine Jcj rfl rfl rfl rfl ?_)
  refine TL_storeAgg rfl rfl Sz.h oned hbd rfl ?_
  clear hbd
  intro w3 c hzz hbd
  replace hd := hd.ch c (by intro k _ _; simp only [Iv]; omega)
  replace E : Ext W _ := Ext.then_iv E c (by omega)
  have z3 := c.size
  clear c
  repeat' (first | apply Jbq | apply Jbr | apply Jbs | apply Jbt | apply Jbu | apply Jbv | apply Jbw | apply Jbx | apply Jby | apply Jbz | apply Jca | apply Jcb | apply Jcc | (refine Jcd rfl ?_) | (refine Jce rfl ?_) | (refine Jcf rfl ?_) | (apply Jcg; (first | exact Jaa rfl | exact Jab rfl | exact Jac Us.h rfl | exact Jad rfl rfl | exact Jae rfl rfl | exact Jaf rfl rfl (by omega) | exact Jag Us.h Sz.h rfl rfl (by omega) | exact Jah rfl rfl | exact Jai rfl rfl | exact Jaj rfl | exact Jak rfl rfl | exact Jal rfl rfl | exact Jam rfl rfl | exact Jan rfl rfl | exact Jaq Us.h rfl | exact Jar Us.h Sz.h rfl rfl (by omega) | exact Jas rfl rfl | exact Jat rfl rfl | exact Jau Us.h rfl rfl | exact Jav Us.h rfl rfl | (apply Jbl; exact Us.h; exact rfl; exact Sz.h; exact rfl)); exact rfl) | refine Jch rfl rfl rfl ?_ | refine Jci rfl rfl rfl rfl rfl ?_ | refine Jcj rfl rfl rfl rfl ?_)
  refine TL_call rfl en8 (MakeOps_c (p.ext E) hn) rfl rfl ?_
  rintro vl w4 ⟨l, hl8, hlo, e, ho⟩
  replace hd := hd.ext e
  replace hbd := hbd.ext e
  replace E := E.ext e
  have z4 := e.size
  clear e
  have hof : ∀ o ∈ l, o.fits := fun o h => (hlo o h).2
  have hop : ∀ o ∈ l, pOp o = true := fun o h => (hlo o h).1
  obtain ⟨es, Ae, ce, hem, rfl, hce, hre, hdat⟩ := ho
  have hel : es.length = l.length := by rw [← hem, List.length_map]
  clear oned hfit htot
  repeat' (first | apply Jbq | apply Jbr | apply Jbs | apply Jbt | apply Jbu | apply Jbv | apply Jbw | apply Jbx | apply Jby | apply Jbz | apply Jca | apply Jcb | apply Jcc | (refine Jcd rfl ?_) | (refine Jce rfl ?_) | (refine Jcf rfl ?_) | (apply Jcg; (first | exact Jaa rfl | exact Jab rfl | exact Jac Us.h rfl | exact Jad rfl rfl | exact Jae rfl rfl | exact Jaf rfl rfl (by omega) | exact Jag Us.h Sz.h rfl rfl (by omega) | exact Jah rfl rfl | exact Jai rfl rfl | exact Jaj rfl | exact Jak rfl rfl | exact Jal rfl rfl | exact Jam rfl rfl | exact Jan rfl rfl | exact Jaq Us.h rfl | exact Jar Us.h Sz.h rfl rfl (by omega) | exact Jas rfl rfl | exact Jat rfl rfl | exact Jau Us.h rfl rfl | exact Jav Us.h rfl rfl | (apply Jbl; exact Us.h; exact rfl; exact Sz.h; exact rfl)); exact rfl) | refine Jch rfl rfl rfl ?_ | refine Jci rfl rfl rfl rfl rfl ?_ | refine Jcj rfl rfl rfl rfl ?_)
  refine TC_loop (ι := Nat × Nat × DiskP × Value × Value × Value) (fun x => [(3, .pointer (some ⟨ghbd, 0, none⟩)), (4, .slice Ae es.length ce), (5, I x.2.1), (22, .slice Ae es.length ce), (23, I es.length), (24, I x.1)])
    (fun x w' => x.1 ≤ es.length ∧ x.2.1 ≤ x.1 ∧ DOk x.2.2.1 ∧ Ext W w' ∧ (Ch (Iv ghbd (ghbd + 1)) w4 w' ∧ w4.heap.size ≤ w'.heap.size) ∧ Blk w' ghbd 27 (dskC x.2.2.1 x.2.2.2.1 x.2.2.2.2.1 x.2.2.2.2.2) ∧ ∃ l1 h1, RDk w' l1 h1 x.2.2.1 x.2.2.2.1 x.2.2.2.2.1 x.2.2.2.2.2 ∧ (h1 ≤ ghbd ∨ ghbd < l1) ∧ h1 ≤ w'.heap.size) (fun x => es.length - x.1) (0, 0, d, sn, sk, st)
    (subEnv_cons rfl (subEnv_cons rfl (subEnv_cons rfl (subEnv_cons rfl (subEnv_cons rfl (subEnv_cons rfl (subEnv_nil _))))))) ⟨Nat.zero_le _, Nat.le_refl _, hD, E, ⟨Ch.refl _ _, Nat.le_refl _⟩, hbd, _, _, hd, by omega, by omega⟩ ?_
  rintro ⟨k, nn, dk, sn, sk, st⟩ w5 ⟨hk, hnn, hDk, E, ⟨cK, hsK⟩, hbd, l1, h1, hd, hap, hh1⟩
  simp only at hk hnn hDk hbd hd
  show TC _ _ _ _ [(3, .pointer (some ⟨ghbd, 0, none⟩)), (4, .slice Ae es.length ce), (5, I (nn : Int)), (22, .slice Ae es.length ce), (23, I es.length), (24, I (k : Int))] w5
  have oned := hd.one
  have hfit := hDk.fitsD
  have htot : totD dk ≤ 1048576 := by have := hDk.totD; omega
  repeat' (first | apply Jbq | apply Jbr | apply Jbs | apply Jbt | apply Jbu | apply Jbv | apply Jbw | apply Jbx | apply Jby | apply Jbz | apply Jca | apply Jcb | apply Jcc | (refine Jcd rfl ?_) | (refine Jce rfl ?_) | (refine Jcf rfl ?_) | (apply Jcg; (first | exact Jaa rfl | exact Jab rfl | exact Jac Us.h rfl | exact Jad rfl rfl | exact Jae rfl rfl | exact Jaf rfl rfl (by omega) | exact Jag Us.h Sz.h rfl rfl (by omega) | exact Jah rfl rfl | exact Jai rfl rfl | exact Jaj rfl | exact Jak rfl rfl | exact Jal rfl rfl | exact Jam rfl rfl | exact Jan rfl rfl | exact Jaq Us.h rfl | exact Jar Us.h Sz.h rfl rfl (by omega) | exact Jas rfl rfl | exact Jat rfl rfl | exact Jau Us.h rfl rfl | exact Jav Us.h rfl rfl | (apply Jbl; exact Us.h; exact rfl; exact Sz.h; exact rfl)); exact rfl) | refine Jch rfl rfl rfl ?_ | refine Jci rfl rfl rfl rfl rfl ?_ | refine Jcj rfl rfl rfl rfl ?_)
  refine Jcx rfl (fun hlt0 => ?_) (fun hge => ?_)
  · have hlt : k < es.length := by omega
    have hreg : ∀ {A : Option Addr} {n : Nat} {xs : List Value} {sz lo hi : Nat}, True := trivial
    clear hreg
    obtain ⟨ad, rfl, hcell⟩ := Rd.elem OdC_len (hre.ch cK (by intro j h1 h2; simp only [Iv]; omega)) hlt
    have hdx := hdat _ (List.getElem_mem hlt)
    have hlk : l[k]'(by omega) = es[k].o := by simp only [← hem, List.getElem_map]
    have hof' := hof _ (List.getElem_mem (show k < l.length by omega))
    have hop' := hop _ (List.getElem_mem (show k < l.length by omega))
    rw [hlk] at hof' hop'
    obtain ⟨x, hx⟩ : ∃ x, x = es[k] := ⟨_, rfl⟩
    rw [← hx] at hcell hdx hof' hop'
    obtain ⟨o, v⟩ := x
    simp only at hdx hof' hop'
    replace hdx := hdx.ch cK (by intro j h1 h2; simp only [Iv]; omega)
    have hdx0 := hdx
    obtain ⟨Ad, cd, rfl, hcd, hrd⟩ := hdx
    replace hcell : ∀ j u, (opC o (.slice Ad o.data.length cd))[j]? = some u → w5.cell? ((ad.add (k * 5)).add j) = some u := hcell
    have hlt3 := hbd.lt
    have eB : Ext w5 w5 := Ch.refl _ _
    repeat' (first | apply Jbq | apply Jbr | apply Jbs | apply Jbt | apply Jbu | apply Jbv | apply Jbw | apply Jbx | apply Jby | apply Jbz | apply Jca | apply Jcb | apply Jcc | (refine Jcd rfl ?_) | (refine Jce rfl ?_) | (refine Jcf rfl ?_) | (apply Jcg; (first | exact Jaa rfl | exact Jab rfl | exact Jac Us.h rfl | exact Jad rfl rfl | exact Jae rfl rfl | exact Jaf rfl rfl (by omega) | exact Jag Us.h Sz.h rfl rfl (by omega) | exact Jah rfl rfl | exact Jai rfl rfl | exact Jaj rfl | exact Jak rfl rfl | exact Jal rfl rfl | exact Jam rfl rfl | exact Jan rfl rfl | exact Jaq Us.h rfl | exact Jar Us.h Sz.h rfl rfl (by omega) | exact Jas rfl rfl | exact Jat rfl rfl | exact Jau Us.h rfl rfl | exact Jav Us.h rfl rfl | (apply Jbl; exact Us.h; exact rfl; exact Sz.h; exact rfl)); exact rfl) | refine Jch rfl rfl rfl ?_ | refine Jci rfl rfl rfl rfl rfl ?_ | refine Jcj rfl rfl rfl rfl ?_ | refine Jcg (Pu_loadAgg (cs := opC o (.slice Ad o.data.length cd)) Us.h rfl Sz.h rfl (fun _ e j u hu => by rw [e]; exact hcell j u hu)) rfl ?_)
    refine TL_alloc Zs.h rfl rfl ?_
    intro w6 go e hgo hzo hbo
    replace eB := eB.ext e
    replace hd := hd.ext e
    replace hbd := hbd.ext e
    replace hdx0 := hdx0.ext e
    replace E := E.ext e
    have z6 := e.size
    clear e
    have z0 := eB.size
    repeat' (first | apply Jbq | apply Jbr | apply Jbs | apply Jbt | apply Jbu | apply Jbv | apply Jbw | apply Jbx | apply Jby | apply Jbz | apply Jca | apply Jcb | apply Jcc | (refine Jcd rfl ?_) | (refine Jce rfl ?_) | (refine Jcf rfl ?_) | (apply Jcg; (first | exact Jaa rfl | exact Jab rfl | exact Jac Us.h rfl | exact Jad rfl rfl | exact Jae rfl rfl | exact Jaf rfl rfl (by omega) | exact Jag Us.h Sz.h rfl rfl (by omega) | exact Jah rfl rfl | exact Jai rfl rfl | exact Jaj rfl | exact Jak rfl rfl | exact Jal rfl rfl | exact Jam rfl rfl | exact Jan rfl rfl | exact Jaq Us.h rfl | exact Jar Us.h Sz.h rfl rfl (by omega) | exact Jas rfl rfl | exact Jat rfl rfl | exact Jau Us.h rfl rfl | exact Jav Us.h rfl rfl | (apply Jbl; exact Us.h; exact rfl; exact Sz.h; exact rfl)); exact rfl) | refine Jch rfl rfl rfl ?_ | refine Jci rfl rfl rfl rfl rfl ?_ | refine Jcj rfl rfl rfl rfl ?_)
    refine TL_storeAgg rfl rfl Sz.h rfl hbo rfl ?_
    clear hbo
    intro w7 c hzz hbo
    replace eB := Ext.then_iv eB c (by omega)
    replace hd := hd.ch c (by intro k h3 h4; simp only [Iv]; omega)
    replace hbd := hbd.ch c (by simp only [Iv]; omega)
    replace hdx0 := hdx0.ch c (by intro k h3 h4; simp only [Iv]; omega)
    have hsW := E.size
    replace E : Ext W _ := Ext.then_iv E c (by omega)
    have z7 := c.size
    clear c
    have hDn := hDk.pDo hop'
    obtain ⟨hn1, hroom, _, _⟩ := pDo_parts hDk hop'
    obtain ⟨r, hr⟩ : ∃ r, r = (pDo dk o).1 := ⟨_, rfl⟩
    rw [← hr] at hDn hroom
    have hus := hDn.used
    have hfitn := hDn.fitsD
    have htotn : totD r ≤ 1048576 := by have := hDn.totD; omega
    repeat' (first | apply Jbq | apply Jbr | apply Jbs | apply Jbt | apply Jbu | apply Jbv | apply Jbw | apply Jbx | apply Jby | apply Jbz | apply Jca | apply Jcb | apply Jcc | (refine Jcd rfl ?_) | (refine Jce rfl ?_) | (refine Jcf rfl ?_) | (apply Jcg; (first | exact Jaa rfl | exact Jab rfl | exact Jac Us.h rfl | exact Jad rfl rfl | exact Jae rfl rfl | exact Jaf rfl rfl (by omega) | exact Jag Us.h Sz.h rfl rfl (by omega) | exact Jah rfl rfl | exact Jai rfl rfl | exact Jaj rfl | exact Jak rfl rfl | exact Jal rfl rfl | exact Jam rfl rfl | exact Jan rfl rfl | exact Jaq Us.h rfl | exact Jar Us.h Sz.h rfl rfl (by omega) | exact Jas rfl rfl | exact Jat rfl rfl | exact Jau Us.h rfl rfl | exact Jav Us.h rfl rfl | (apply Jbl; exact Us.h; exact rfl; exact Sz.h; exact rfl)); exact rfl) | refine Jch rfl rfl rfl ?_ | refine Jci rfl rfl rfl rfl rfl ?_ | refine Jcj rfl rfl rfl rfl ?_ | refine Jcg (Pu_loadAgg (cs := dskC dk sn sk st) Us.h rfl Sz.h rfl (fun _ e j u hu => by rw [e, add0, hbd.cell]; exact hu)) rfl ?_ | refine Jcg (Pu_loadAgg (cs := opC o (.slice Ad o.data.length cd)) Us.h rfl Sz.h rfl (fun _ e j u hu => by rw [e, add0, hbo.cell]; exact hu)) rfl ?_)
    refine TL_call rfl en9 (implDiskDo_c hd hfit htot hdx0 hof') rfl rfl ?_
    rintro _ w8 ⟨sn2, sk2, st2, rfl, e, hx2⟩
    rw [← hr] at hx2 ⊢
    replace eB := eB.ext e
    replace hd := hd.ext e
    replace hbd := hbd.ext e
    replace hdx0 := hdx0.ext e
    replace hbo := hbo.ext e
    replace E := E.ext e
    have z8 := e.size
    clear e
    have onex := hx2.one
    repeat' (first | apply Jbq | apply Jbr | apply Jbs | apply Jbt | apply Jbu | apply Jbv | apply Jbw | apply Jbx | apply Jby | apply Jbz | apply Jca | apply Jcb | apply Jcc | (refine Jcd rfl ?_) | (refine Jce rfl ?_) | (refine Jcf rfl ?_) | (apply Jcg; (first | exact Jaa rfl | exact Jab rfl | exact Jac Us.h rfl | exact Jad rfl rfl | exact Jae rfl rfl | exact Jaf rfl rfl (by omega) | exact Jag Us.h Sz.h rfl rfl (by omega) | exact Jah rfl rfl | exact Jai rfl rfl | exact Jaj rfl | exact Jak rfl rfl | exact Jal rfl rfl | exact Jam rfl rfl | exact Jan rfl rfl | exact Jaq Us.h rfl | exact Jar Us.h Sz.h rfl rfl (by omega) | exact Jas rfl rfl | exact Jat rfl rfl | exact Jau Us.h rfl rfl | exact Jav Us.h rfl rfl | (apply Jbl; exact Us.h; exact rfl; exact Sz.h; exact rfl)); exact rfl) | refine Jch rfl rfl rfl ?_ | refine Jci rfl rfl rfl rfl rfl ?_ | refine Jcj rfl rfl rfl rfl ?_)
    refine TL_alloc Zs.h rfl rfl ?_
    intro w9 gx e hgx hzx hbx
    replace eB := eB.ext e
    replace hd := hd.ext e
    replace hbd := hbd.ext e
    replace hdx0 := hdx0.ext e
    replace hbo := hbo.ext e
    replace hx2 := hx2.ext e
    replace E := E.ext e
    have z9 := e.size
    clear e
    repeat' (first | apply Jbq | apply Jbr | apply Jbs | apply Jbt | apply Jbu | apply Jbv | apply Jbw | apply Jbx | apply Jby | apply Jbz | apply Jca | apply Jcb | apply Jcc | (refine Jcd rfl ?_) | (refine Jce rfl ?_) | (refine Jcf rfl ?_) | (apply Jcg; (first | exact Jaa rfl | exact Jab rfl | exact Jac Us.h rfl | exact Jad rfl rfl | exact Jae rfl rfl | exact Jaf rfl rfl (by omega) | exact Jag Us.h Sz.h rfl rfl (by omega) | exact Jah rfl rfl | exact Jai rfl rfl | exact Jaj rfl | exact Jak rfl rfl | exact Jal rfl rfl | exact Jam rfl rfl | exact Jan rfl rfl | exact Jaq Us.h rfl | exact Jar Us.h Sz.h rfl rfl (by omega) | exact Jas rfl rfl | exact Jat rfl rfl | exact Jau Us.h rfl rfl | exact Jav Us.h rfl rfl | (apply Jbl; exact Us.h; exact rfl; exact Sz.h; exact rfl)); exact rfl) | refine Jch rfl rfl rfl ?_ | refine Jci rfl rfl rfl rfl rfl ?_ | refine Jcj rfl rfl rfl rfl ?_)
    refine TL_storeAgg rfl rfl Sz.h onex hbx rfl ?_
    clear hbx
    intro w10 c hzz hbx
    replace eB := Ext.then_iv eB c (by omega)
    replace hd := hd.ch c (by intro k h3 h4; simp only [Iv]; omega)
    replace hbd := hbd.ch c (by simp only [Iv]; omega)
    replace hdx0 := hdx0.ch c (by intro k h3 h4; simp only [Iv]; omega)
    replace hbo := hbo.ch c (by simp only [Iv]; omega)
    replace hx2 := hx2.ch c (by intro k h3 h4; simp only [Iv]; omega)
    replace E : Ext W _ := Ext.then_iv E c (by omega)
    have z10 := c.size
    clear c
    repeat' (first | apply Jbq | apply Jbr | apply Jbs | apply Jbt | apply Jbu | apply Jbv | apply Jbw | apply Jbx | apply Jby | apply Jbz | apply Jca | apply Jcb | apply Jcc | (refine Jcd rfl ?_) | (refine Jce rfl ?_) | (refine Jcf rfl ?_) | (apply Jcg; (first | exact Jaa rfl | exact Jab rfl | exact Jac Us.h rfl | exact Jad rfl rfl | exact Jae rfl rfl | exact Jaf rfl rfl (by omega) | exact Jag Us.h Sz.h rfl rfl (by omega) | exact Jah rfl rfl | exact Jai rfl rfl | exact Jaj rfl | exact Jak rfl rfl | exact Jal rfl rfl | exact Jam rfl rfl | exact Jan rfl rfl | exact Jaq Us.h rfl | exact Jar Us.h Sz.h rfl rfl (by omega) | exact Jas rfl rfl | exact Jat rfl rfl | exact Jau Us.h rfl rfl | exact Jav Us.h rfl rfl | (apply Jbl; exact Us.h; exact rfl; exact Sz.h; exact rfl)); exact rfl) | refine Jch rfl rfl rfl ?_ | refine Jci rfl rfl rfl rfl rfl ?_ | refine Jcj rfl rfl rfl rfl ?_ | refine Jcg (Pu_loadAgg (cs := dskC dk sn sk st) Us.h rfl Sz.h rfl (fun _ e j u hu => by rw [e, add0, hbd.cell]; exact hu)) rfl ?_ | refine Jcg (Pu_loadAgg (cs := opC o (.slice Ad o.data.length cd)) Us.h rfl Sz.h rfl (fun _ e j u hu => by rw [e, add0, hbo.cell]; exact hu)) rfl ?_)
    refine TL_call rfl en10 (specDiskDo_c hd hfit htot hdx0 hof') rfl rfl ?_
    rintro _ w11 ⟨sn3, sk3, st3, rfl, e, hx3⟩
    rw [← hr] at hx3 ⊢
    have oney := hx3.one
    clear hx3
    replace eB := eB.ext e
    replace hd := hd.ext e
    replace hbd := hbd.ext e
    replace hdx0 := hdx0.ext e
    replace hbo := hbo.ext e
    replace hx2 := hx2.ext e
    replace hbx := hbx.ext e
    replace E := E.ext e
    have z11 := e.size
    clear e
    repeat' (first | apply Jbq | apply Jbr | apply Jbs | apply Jbt | apply Jbu | apply Jbv | apply Jbw | apply Jbx | apply Jby | apply Jbz | apply Jca | apply Jcb | apply Jcc | (refine Jcd rfl ?_) | (refine Jce rfl ?_) | (refine Jcf rfl ?_) | (apply Jcg; (first | exact Jaa rfl | exact Jab rfl | exact Jac Us.h rfl | exact Jad rfl rfl | exact Jae rfl rfl | exact Jaf rfl rfl (by omega) | exact Jag Us.h Sz.h rfl rfl (by omega) | exact Jah rfl rfl | exact Jai rfl rfl | exact Jaj rfl | exact Jak rfl rfl | exact Jal rfl rfl | exact Jam rfl rfl | exact Jan rfl rfl | exact Jaq Us.h rfl | exact Jar Us.h Sz.h rfl rfl (by omega) | exact Jas rfl rfl | exact Jat rfl rfl | exact Jau Us.h rfl rfl | exact Jav Us.h rfl rfl | (apply Jbl; exact Us.h; exact rfl; exact Sz.h; exact rfl)); exact rfl) | refine Jch rfl rfl rfl ?_ | refine Jci rfl rfl rfl rfl rfl ?_ | refine Jcj rfl rfl rfl rfl ?_)
    refine TL_alloc Zs.h rfl rfl ?_
    intro w12 gy e hgy hzy hby
    replace eB := eB.ext e
    replace hd := hd.ext e
    replace hbd := hbd.ext e
    replace hdx0 := hdx0.ext e
    replace hbo := hbo.ext e
    replace hx2 := hx2.ext e
    replace hbx := hbx.ext e
    replace E := E.ext e
    have z12 := e.size
    clear e
    repeat' (first | apply Jbq | apply Jbr | apply Jbs | apply Jbt | apply Jbu | apply Jbv | apply Jbw | apply Jbx | apply Jby | apply Jbz | apply Jca | apply Jcb | apply Jcc | (refine Jcd rfl ?_) | (refine Jce rfl ?_) | (refine Jcf rfl ?_) | (apply Jcg; (first | exact Jaa rfl | exact Jab rfl | exact Jac Us.h rfl | exact Jad rfl rfl | exact Jae rfl rfl | exact Jaf rfl rfl (by omega) | exact Jag Us.h Sz.h rfl rfl (by omega) | exact Jah rfl rfl | exact Jai rfl rfl | exact Jaj rfl | exact Jak rfl rfl | exact Jal rfl rfl | exact Jam rfl rfl | exact Jan rfl rfl | exact Jaq Us.h rfl | exact Jar Us.h Sz.h rfl rfl (by omega) | exact Jas rfl rfl | exact Jat rfl rfl | exact Jau Us.h rfl rfl | exact Jav Us.h rfl rfl | (apply Jbl; exact Us.h; exact rfl; exact Sz.h; exact rfl)); exact rfl) | refine Jch rfl rfl rfl ?_ | refine Jci rfl rfl rfl rfl rfl ?_ | refine Jcj rfl rfl rfl rfl ?_)
    refine TL_storeAgg rfl rfl Sz.h oney hby rfl ?_
    clear hby
    intro w13 c hzz hby
    replace eB := Ext.then_iv eB c (by omega)
    replace hd := hd.ch c (by intro k h3 h4; simp only [Iv]; omega)
    replace hbd := hbd.ch c (by simp only [Iv]; omega)
    replace hdx0 := hdx0.ch c (by intro k h3 h4; simp only [Iv]; omega)
    replace hbo := hbo.ch c (by simp only [Iv]; omega)
    replace hx2 := hx2.ch c (by intro k h3 h4; simp only [Iv]; omega)
    replace hbx := hbx.ch c (by simp only [Iv]; omega)
    replace E : Ext W _ := Ext.then_iv E c (by omega)
    have z13 := c.size
    clear c
    clear hby
    repeat' (first | apply Jbq | apply Jbr | apply Jbs | apply Jbt | apply Jbu | apply Jbv | apply Jbw | apply Jbx | apply Jby | apply Jbz | apply Jca | apply Jcb | apply Jcc | (refine Jcd rfl ?_) | (refine Jce rfl ?_) | (refine Jcf rfl ?_) | (apply Jcg; (first | exact Jaa rfl | exact Jab rfl | exact Jac Us.h rfl | exact Jad rfl rfl | exact Jae rfl rfl | exact Jaf rfl rfl (by omega) | exact Jag Us.h Sz.h rfl rfl (by omega) | exact Jah rfl rfl | exact Jai rfl rfl | exact Jaj rfl | exact Jak rfl rfl | exact Jal rfl rfl | exact Jam rfl rfl | exact Jan rfl rfl | exact Jaq Us.h rfl | exact Jar Us.h Sz.h rfl rfl (by omega) | exact Jas rfl rfl | exact Jat rfl rfl | exact Jau Us.h rfl rfl | exact Jav Us.h rfl rfl | (apply Jbl; exact Us.h; exact rfl; exact Sz.h; exact rfl)); exact rfl) | refine Jch rfl rfl rfl ?_ | refine Jci rfl rfl rfl rfl rfl ?_ | refine Jcj rfl rfl rfl rfl ?_)
    have hq1 : ∀ w', Ext w13 w' → Ret Try.prog 11 #[.agg (dskC r sn2 sk2 st2).toArray] w' fun v w'' => v = .bool true ∧ Ext w13 w'' := fun w' e => (implDiskOk_c (hx2.rd.ext e) hfitn htotn).mono fun v w'' ⟨hv, e2⟩ => ⟨by rw [hv, pDOk_yes hDn], e.ext e2⟩
    have hq2 : ∀ w', Ext w13 w' → Ret Try.prog 12 #[.agg (dskC r sn2 sk2 st2).toArray] w' fun v w'' => v = I (pUsed r.nodes) ∧ Ext w13 w'' := fun w' e => (implDiskUsed_c (hx2.rd.ext e) htotn).mono fun v w'' ⟨hv, e2⟩ => ⟨hv, e.ext e2⟩
    refine TC_quietExt mixed (by kernel_rfl) ?_
    repeat' (first | (apply Jck; (first | exact Jbm rfl rfl | exact Jbn Us.h rfl rfl | exact Jbo rfl rfl | exact Jbp rfl rfl | exact Jaa rfl | exact Jab rfl | exact Jac Us.h rfl | exact Jad rfl rfl | exact Jae rfl rfl | exact Jaf rfl rfl (by omega) | exact Jag Us.h Sz.h rfl rfl (by omega) | exact Jah rfl rfl | exact Jai rfl rfl | exact Jaj rfl | exact Jak rfl rfl | exact Jal rfl rfl | exact Jam rfl rfl | exact Jan rfl rfl | exact Jaq Us.h rfl | exact Jar Us.h Sz.h rfl rfl (by omega) | exact Jas rfl rfl | exact Jat rfl rfl | exact Jau Us.h rfl rfl | exact Jav Us.h rfl rfl | (apply Jbl; exact Us.h; exact rfl; exact Sz.h; exact rfl)); exact rfl) | refine Jcl rfl rfl rfl ?_ | refine Jcm rfl rfl rfl rfl rfl ?_ | refine Jcn rfl rfl rfl rfl ?_ | refine Jck (Pu_loadAgg (cs := dskC r sn2 sk2 st2) Us.h rfl Sz.h rfl (fun _ e j u hu => Ext.cell e (by rw [add0, hbx.cell]; exact hu))) rfl ?_ | refine Jck (Pu_load Fl.h rfl (fun _ e => Ext.cell e (hbx.ld rfl))) rfl ?_ | refine Jck (Pu_load Fl.h rfl (fun _ e => Ext.cell e (hbd.ld rfl))) rfl ?_ | refine TQ_call rfl en11 hq1 rfl ?_ | refine TQ_call rfl en12 hq2 rfl ?_ | (refine Jcv rfl rfl (fun hb => ?_) (fun hb => ?_) <;> (try (exfalso; omega))) | (refine Jcw rfl rfl (fun hb => ?_) (fun hb => ?_) <;> (try (exfalso; omega))) | refine Jcu rfl rfl (fun hb => ?_) (fun hb => ?_))
    refine TQ_nil fun w14 e => ?_
    clear hq1 hq2
    replace eB := eB.ext e
    replace hd := hd.ext e
    replace hbd := hbd.ext e
    replace hdx0 := hdx0.ext e
    replace hbo := hbo.ext e
    replace hx2 := hx2.ext e
    replace hbx := hbx.ext e
    replace E := E.ext e
    have z14 := e.size
    clear e
    repeat' (first | apply Jbq | apply Jbr | apply Jbt | apply Jbu | apply Jbv | apply Jbw | apply Jbx | apply Jby | apply Jbz | apply Jca | apply Jcb | apply Jcc | (refine Jcd rfl ?_) | (refine Jce rfl ?_) | (refine Jcf rfl ?_) | (apply Jcg; (first | exact Jbm rfl rfl | exact Jbn Us.h rfl rfl | exact Jbo rfl rfl | exact Jbp rfl rfl | exact Jaa rfl | exact Jab rfl | exact Jac Us.h rfl | exact Jad rfl rfl | exact Jae rfl rfl | exact Jaf rfl rfl (by omega) | exact Jag Us.h Sz.h rfl rfl (by omega) | exact Jah rfl rfl | exact Jai rfl rfl | exact Jaj rfl | exact Jak rfl rfl | exact Jal rfl rfl | exact Jam rfl rfl | exact Jan rfl rfl | exact Jaq Us.h rfl | exact Jar Us.h Sz.h rfl rfl (by omega) | exact Jas rfl rfl | exact Jat rfl rfl | exact Jau Us.h rfl rfl | exact Jav Us.h rfl rfl | (apply Jbl; exact Us.h; exact rfl; exact Sz.h; exact rfl)); exact rfl) | refine Jch rfl rfl rfl ?_ | refine Jci rfl rfl rfl rfl rfl ?_ | refine Jcj rfl rfl rfl rfl ?_ | (refine Jcs rfl rfl (fun hb => ?_) (fun hb => ?_) <;> (try (exfalso; omega))) | (refine Jct rfl rfl (fun hb => ?_) (fun hb => ?_) <;> (try (exfalso; omega))) | refine Jcr rfl rfl (fun hb => ?_) (fun hb => ?_) | (refine Jcx rfl (fun hb => ?_) (fun hb => ?_) <;> (try (exfalso; omega))) | (refine Jcy rfl (fun hb => ?_) (fun hb => ?_) <;> (try (exfalso; omega))) | refine Jcz rfl (fun hb => ?_) (fun hb => ?_))
    refine TC_join (ι := Nat) (fun m => [(3, .pointer (some ⟨ghbd, 0, none⟩)), (4, .slice (some ad) es.length ce), (5, I m), (8, .pointer (some ⟨gx, 0, none⟩)), (22, .slice (some ad) es.length ce), (23, I es.length), (24, I k)]) (fun m w' => w14 = w' ∧ m ≤ k + 1) ?_ ?_
    · repeat' (first | apply Jbq | apply Jbr | apply Jbs | apply Jbt | apply Jbu | apply Jbv | apply Jbw | apply Jbx | apply Jby | apply Jbz | apply Jca | apply Jcb | apply Jcc | (refine Jcd rfl ?_) | (refine Jce rfl ?_) | (refine Jcf rfl ?_) | (apply Jcg; (first | exact Jaa rfl | exact Jab rfl | exact Jac Us.h rfl | exact Jad rfl rfl | exact Jae rfl rfl | exact Jaf rfl rfl (by omega) | exact Jag Us.h Sz.h rfl rfl (by omega) | exact Jah rfl rfl | exact Jai rfl rfl | exact Jaj rfl | exact Jak rfl rfl | exact Jal rfl rfl | exact Jam rfl rfl | exact Jan rfl rfl | exact Jaq Us.h rfl | exact Jar Us.h Sz.h rfl rfl (by omega) | exact Jas rfl rfl | exact Jat rfl rfl | exact Jau Us.h rfl rfl | exact Jav Us.h rfl rfl | (apply Jbl; exact Us.h; exact rfl; exact Sz.h; exact rfl)); exact rfl) | refine Jch rfl rfl rfl ?_ | refine Jci rfl rfl rfl rfl rfl ?_ | refine Jcj rfl rfl rfl rfl ?_)
      refine Jcx rfl (fun hc => ?_) (fun hc => ?_)
      · repeat' (first | apply Jbq | apply Jbr | apply Jbs | apply Jbt | apply Jbu | apply Jbv | apply Jbw | apply Jbx | apply Jby | apply Jbz | apply Jca | apply Jcb | apply Jcc | (refine Jcd rfl ?_) | (refine Jce rfl ?_) | (refine Jcf rfl ?_) | (apply Jcg; (first | exact Jaa rfl | exact Jab rfl | exact Jac Us.h rfl | exact Jad rfl rfl | exact Jae rfl rfl | exact Jaf rfl rfl (by omega) | exact Jag Us.h Sz.h rfl rfl (by omega) | exact Jah rfl rfl | exact Jai rfl rfl | exact Jaj rfl | exact Jak rfl rfl | exact Jal rfl rfl | exact Jam rfl rfl | exact Jan rfl rfl | exact Jaq Us.h rfl | exact Jar Us.h Sz.h rfl rfl (by omega) | exact Jas rfl rfl | exact Jat rfl rfl | exact Jau Us.h rfl rfl | exact Jav Us.h rfl rfl | (apply Jbl; exact Us.h; exact rfl; exact Sz.h; exact rfl)); exact rfl) | refine Jch rfl rfl rfl ?_ | refine Jci rfl rfl rfl rfl rfl ?_ | refine Jcj rfl rfl rfl rfl ?_)
        exact TN_join (nn + 1) (subEnv_cons rfl (subEnv_cons rfl (subEnv_cons rfl (subEnv_cons rfl (subEnv_cons rfl (subEnv_cons rfl (subEnv_cons rfl (subEnv_nil _)))))))) ⟨rfl, by omega⟩
      · repeat' (first | apply Jbq | apply Jbr | apply Jbs | apply Jbt | apply Jbu | apply Jbv | apply Jbw | apply Jbx | apply Jby | apply Jbz | apply Jca | apply Jcb | apply Jcc | (refine Jcd rfl ?_) | (refine Jce rfl ?_) | (refine Jcf rfl ?_) | (apply Jcg; (first | exact Jaa rfl | exact Jab rfl | exact Jac Us.h rfl | exact Jad rfl rfl | exact Jae rfl rfl | exact Jaf rfl rfl (by omega) | exact Jag Us.h Sz.h rfl rfl (by omega) | exact Jah rfl rfl | exact Jai rfl rfl | exact Jaj rfl | exact Jak rfl rfl | exact Jal rfl rfl | exact Jam rfl rfl | exact Jan rfl rfl | exact Jaq Us.h rfl | exact Jar Us.h Sz.h rfl rfl (by omega) | exact Jas rfl rfl | exact Jat rfl rfl | exact Jau Us.h rfl rfl | exact Jav Us.h rfl rfl | (apply Jbl; exact Us.h; exact rfl; exact Sz.h; exact rfl)); exact rfl) | refine Jch rfl rfl rfl ?_ | refine Jci rfl rfl rfl rfl rfl ?_ | refine Jcj rfl rfl rfl rfl ?_)
        exact TN_join nn (subEnv_cons rfl (subEnv_cons rfl (subEnv_cons rfl (subEnv_cons rfl (subEnv_cons rfl (subEnv_cons rfl (subEnv_cons rfl (subEnv_nil _)))))))) ⟨rfl, by omega⟩
    rintro m _ ⟨rfl, hm⟩
    repeat' (first | apply Jbq | apply Jbr | apply Jbs | apply Jbt | apply Jbu | apply Jbv | apply Jbw | apply Jbx | apply Jby | apply Jbz | apply Jca | apply Jcb | apply Jcc | (refine Jcd rfl ?_) | (refine Jce rfl ?_) | (refine Jcf rfl ?_) | (apply Jcg; (first | exact Jaa rfl | exact Jab rfl | exact Jac Us.h rfl | exact Jad rfl rfl | exact Jae rfl rfl | exact Jaf rfl rfl (by omega) | exact Jag Us.h Sz.h rfl rfl (by omega) | exact Jah rfl rfl | exact Jai rfl rfl | exact Jaj rfl | exact Jak rfl rfl | exact Jal rfl rfl | exact Jam rfl rfl | exact Jan rfl rfl | exact Jaq Us.h rfl | exact Jar Us.h Sz.h rfl rfl (by omega) | exact Jas rfl rfl | exact Jat rfl rfl | exact Jau Us.h rfl rfl | exact Jav Us.h rfl rfl | (apply Jbl; exact Us.h; exact rfl; exact Sz.h; exact rfl)); exact rfl) | refine Jch rfl rfl rfl ?_ | refine Jci rfl rfl rfl rfl rfl ?_ | refine Jcj rfl rfl rfl rfl ?_ | refine Jcg (Pu_loadAgg (cs := dskC r sn2 sk2 st2) Us.h rfl Sz.h rfl (fun _ e j u hu => by rw [e, add0, hbx.cell]; exact hu)) rfl ?_)
    refine TL_storeAgg rfl rfl Sz.h onex hbd rfl ?_
    intro w15 c hzz hbd2
    repeat' (first | apply Jbq | apply Jbr | apply Jbs | apply Jbt | apply Jbu | apply Jbv | apply Jbw | apply Jbx | apply Jby | apply Jbz | apply Jca | apply Jcb | apply Jcc | (refine Jcd rfl ?_) | (refine Jce rfl ?_) | (refine Jcf rfl ?_) | (apply Jcg; (first | exact Jaa rfl | exact Jab rfl | exact Jac Us.h rfl | exact Jad rfl rfl | exact Jae rfl rfl | exact Jaf rfl rfl (by omega) | exact Jag Us.h Sz.h rfl rfl (by omega) | exact Jah rfl rfl | exact Jai rfl rfl | exact Jaj rfl | exact Jak rfl rfl | exact Jal rfl rfl | exact Jam rfl rfl | exact Jan rfl rfl | exact Jaq Us.h rfl | exact Jar Us.h Sz.h rfl rfl (by omega) | exact Jas rfl rfl | exact Jat rfl rfl | exact Jau Us.h rfl rfl | exact Jav Us.h rfl rfl | (apply Jbl; exact Us.h; exact rfl; exact Sz.h; exact rfl)); exact rfl) | refine Jch rfl rfl rfl ?_ | refine Jci rfl rfl rfl rfl rfl ?_ | refine Jcj rfl rfl rfl rfl ?_)
    exact TN_round (k + 1, m, r, sn2, sk2, st2) (subEnv_cons rfl (subEnv_cons rfl (subEnv_cons rfl (subEnv_cons rfl (subEnv_cons rfl (subEnv_cons rfl (subEnv_nil _))))))) ⟨hlt, hm, hDn, Ext.then_iv E c (by omega), ⟨(cK.ext eB).then c, by omega⟩, hbd2, _, _, hx2.rd.ch c (by intro k h3 h4; simp only [Iv]; omega), by omega, by omega⟩ (by simp only; omega)
  · repeat' (first | apply Jbq | apply Jbr | apply Jbs | apply Jbt | apply Jbu | apply Jbv | apply Jbw | apply Jbx | apply Jby | apply Jbz | apply Jca | apply Jcb | apply Jcc | (refine Jcd rfl ?_) | (refine Jce rfl ?_) | (refine Jcf rfl ?_) | (apply Jcg; (first | exact Jaa rfl | exact Jab rfl | exact Jac Us.h rfl | exact Jad rfl rfl | exact Jae rfl rfl | exact Jaf rfl rfl (by omega) | exact Jag Us.h Sz.h rfl rfl (by omega) | exact Jah rfl rfl | exact Jai rfl rfl | exact Jaj rfl | exact Jak rfl rfl | exact Jal rfl rfl | exact Jam rfl rfl | exact Jan rfl rfl | exact Jaq Us.h rfl | exact Jar Us.h Sz.h rfl rfl (by omega) | exact Jas rfl rfl | exact Jat rfl rfl | exact Jau Us.h rfl rfl | exact Jav Us.h rfl rfl | (apply Jbl; exact Us.h; exact rfl; exact Sz.h; exact rfl)); exact rfl) | refine Jch rfl rfl rfl ?_ | refine Jci rfl rfl rfl rfl rfl ?_ | refine Jcj rfl rfl rfl rfl ?_ | refine Jcg (Pu_loadAgg (cs := dskC dk sn sk st) Us.h rfl Sz.h rfl (fun _ e j u hu => by rw [e, add0, hbd.cell]; exact hu)) rfl ?_)
    refine TL_call rfl en13 (implDiskRun_c (l := []) hd hfit htot (ROp.nil _) (by simp) (by simp)) rfl rfl ?_
    rintro _ w16 ⟨sn2, sk2, st2, rfl, e, hx2⟩
    rw [pRuns_yes hDk, pRun_nil] at hx2 ⊢
    simp only at hx2 ⊢
    have onex := hx2.one
    replace E := E.ext e
    have hsW0 := E.size
    clear e hd hbd
    repeat' (first | apply Jbq | apply Jbr | apply Jbs | apply Jbt | apply Jbu | apply Jbv | apply Jbw | apply Jbx | apply Jby | apply Jbz | apply Jca | apply Jcb | apply Jcc | (refine Jcd rfl ?_) | (refine Jce rfl ?_) | (refine Jcf rfl ?_) | (apply Jcg; (first | exact Jaa rfl | exact Jab rfl | exact Jac Us.h rfl | exact Jad rfl rfl | exact Jae rfl rfl | exact Jaf rfl rfl (by omega) | exact Jag Us.h Sz.h rfl rfl (by omega) | exact Jah rfl rfl | exact Jai rfl rfl | exact Jaj rfl | exact Jak rfl rfl | exact Jal rfl rfl | exact Jam rfl rfl | exact Jan rfl rfl | exact Jaq Us.h rfl | exact Jar Us.h Sz.h rfl rfl (by omega) | exact Jas rfl rfl | exact Jat rfl rfl | exact Jau Us.h rfl rfl | exact Jav Us.h rfl rfl | (apply Jbl; exact Us.h; exact rfl; exact Sz.h; exact rfl)); exact rfl) | refine Jch rfl rfl rfl ?_ | refine Jci rfl rfl rfl rfl rfl ?_ | refine Jcj rfl rfl rfl rfl ?_)
    refine TL_alloc Zs.h rfl rfl ?_
    intro w17 gx e hgx hzx hbx
    replace E := E.ext e
    replace hx2 := hx2.ext e
    clear e
    have hsW := E.size
    repeat' (first | apply Jbq | apply Jbr | apply Jbs | apply Jbt | apply Jbu | apply Jbv | apply Jbw | apply Jbx | apply Jby | apply Jbz | apply Jca | apply Jcb | apply Jcc | (refine Jcd rfl ?_) | (refine Jce rfl ?_) | (refine Jcf rfl ?_) | (apply Jcg; (first | exact Jaa rfl | exact Jab rfl | exact Jac Us.h rfl | exact Jad rfl rfl | exact Jae rfl rfl | exact Jaf rfl rfl (by omega) | exact Jag Us.h Sz.h rfl rfl (by omega) | exact Jah rfl rfl | exact Jai rfl rfl | exact Jaj rfl | exact Jak rfl rfl | exact Jal rfl rfl | exact Jam rfl rfl | exact Jan rfl rfl | exact Jaq Us.h rfl | exact Jar Us.h Sz.h rfl rfl (by omega) | exact Jas rfl rfl | exact Jat rfl rfl | exact Jau Us.h rfl rfl | exact Jav Us.h rfl rfl | (apply Jbl; exact Us.h; exact rfl; exact Sz.h; exact rfl)); exact rfl) | refine Jch rfl rfl rfl ?_ | refine Jci rfl rfl rfl rfl rfl ?_ | refine Jcj rfl rfl rfl rfl ?_)
    refine TL_storeAgg rfl rfl Sz.h onex hbx rfl ?_
    clear hbx
    intro w18 c hzz hbx
    have hzx2 := hx2.rd
    replace hx2 := hx2.ch c (by intro k h3 h4; simp only [Iv]; omega)
    replace E : Ext W _ := Ext.then_iv E c (by omega)
    clear c
    repeat' (first | apply Jbq | apply Jbr | apply Jbs | apply Jbt | apply Jbu | apply Jbv | apply Jbw | apply Jbx | apply Jby | apply Jbz | apply Jca | apply Jcb | apply Jcc | (refine Jcd rfl ?_) | (refine Jce rfl ?_) | (refine Jcf rfl ?_) | (apply Jcg; (first | exact Jbm rfl rfl | exact Jbn Us.h rfl rfl | exact Jbo rfl rfl | exact Jbp rfl rfl | exact Jaa rfl | exact Jab rfl | exact Jac Us.h rfl | exact Jad rfl rfl | exact Jae rfl rfl | exact Jaf rfl rfl (by omega) | exact Jag Us.h Sz.h rfl rfl (by omega) | exact Jah rfl rfl | exact Jai rfl rfl | exact Jaj rfl | exact Jak rfl rfl | exact Jal rfl rfl | exact Jam rfl rfl | exact Jan rfl rfl | exact Jaq Us.h rfl | exact Jar Us.h Sz.h rfl rfl (by omega) | exact Jas rfl rfl | exact Jat rfl rfl | exact Jau Us.h rfl rfl | exact Jav Us.h rfl rfl | (apply Jbl; exact Us.h; exact rfl; exact Sz.h; exact rfl)); exact rfl) | refine Jch rfl rfl rfl ?_ | refine Jci rfl rfl rfl rfl rfl ?_ | refine Jcj rfl rfl rfl rfl ?_ | refine Jcg (Pu_loadAgg (cs := dskC dk sn2 sk2 st2) Us.h rfl Sz.h rfl (fun _ e j u hu => by rw [e, add0, hbx.cell]; exact hu)) rfl ?_ | (refine Jcs rfl rfl (fun hb => ?_) (fun hb => ?_) <;> (try (exfalso; omega))) | (refine Jct rfl rfl (fun hb => ?_) (fun hb => ?_) <;> (try (exfalso; omega))) | refine Jcr rfl rfl (fun hb => ?_) (fun hb => ?_) | (refine Jcx rfl (fun hb => ?_) (fun hb => ?_) <;> (try (exfalso; omega))) | (refine Jcy rfl (fun hb => ?_) (fun hb => ?_) <;> (try (exfalso; omega))) | refine Jcz rfl (fun hb => ?_) (fun hb => ?_))
    refine TL_call rfl en11 (implDiskOk_c hx2.rd hfit htot) rfl rfl ?_
    rintro _ w19 ⟨rfl, e⟩
    rw [pDOk_yes hDk]
    repeat' (first | apply Jbq | apply Jbr | apply Jbs | apply Jbt | apply Jbu | apply Jbv | apply Jbw | apply Jbx | apply Jby | apply Jbz | apply Jca | apply Jcb | apply Jcc | (refine Jcd rfl ?_) | (refine Jce rfl ?_) | (refine Jcf rfl ?_) | (apply Jcg; (first | exact Jbm rfl rfl | exact Jbn Us.h rfl rfl | exact Jbo rfl rfl | exact Jbp rfl rfl | exact Jaa rfl | exact Jab rfl | exact Jac Us.h rfl | exact Jad rfl rfl | exact Jae rfl rfl | exact Jaf rfl rfl (by omega) | exact Jag Us.h Sz.h rfl rfl (by omega) | exact Jah rfl rfl | exact Jai rfl rfl | exact Jaj rfl | exact Jak rfl rfl | exact Jal rfl rfl | exact Jam rfl rfl | exact Jan rfl rfl | exact Jaq Us.h rfl | exact Jar Us.h Sz.h rfl rfl (by omega) | exact Jas rfl rfl | exact Jat rfl rfl | exact Jau Us.h rfl rfl | exact Jav Us.h rfl rfl | (apply Jbl; exact Us.h; exact rfl; exact Sz.h; exact rfl)); exact rfl) | refine Jch rfl rfl rfl ?_ | refine Jci rfl rfl rfl rfl rfl ?_ | refine Jcj rfl rfl rfl rfl ?_ | (refine Jcs rfl rfl (fun hb => ?_) (fun hb => ?_) <;> (try (exfalso; omega))) | (refine Jct rfl rfl (fun hb => ?_) (fun hb => ?_) <;> (try (exfalso; omega))) | refine Jcr rfl rfl (fun hb => ?_) (fun hb => ?_) | (refine Jcx rfl (fun hb => ?_) (fun hb => ?_) <;> (try (exfalso; omega))) | (refine Jcy rfl (fun hb => ?_) (fun hb => ?_) <;> (try (exfalso; omega))) | refine Jcz rfl (fun hb => ?_) (fun hb => ?_))
    exact TR_of (res1 rfl rfl) ⟨congrArg Value.bool (decide_eq_true (by omega)), E.ext e⟩
end
theorem own : ownKnob Try.prog.godebug = none := by kernel_rfl
theorem laidOut : laidOutB Try.prog = true := by kernel_rfl
set_option maxRecDepth 100000 in
theorem lifted (os : Os) (started : os.Started) (H : Type) (enc : TypeId × Value → H) :
    ReturnsInHanded {} Try.checked os 3 .any (Rows.fnDiskSpec.pre6 enc Try.prog Try.f3 Rows.fnDiskRow.domain false) (Rows.fnDiskSpec.post enc Try.prog Try.f3 false true false false) := by
  refine returnsInHanded_of_change (C := Try.checked) own started (by kernel_rfl) Try.func3
    (ChangeSpec.witness6 (enc := enc) (C := Try.checked) false ⟨#[], #[.slice none 0 0], []⟩ 8 (by kernel_rfl) (by kernel_rfl) (by kernel_rfl) (by kernel_rfl)) ?_
  intro W base args ds gs before hval0 hW hcnd _
  have hval : ∀ (j : Nat) t v, Try.f3.params[j]? = some t → args[j]? = some v → Value.okWide Try.prog W .any base t v := hval0
  have hW' := hW
  obtain ⟨p, q, hA0, hV, rfl, hfz, hnd⟩ := hW
  have hA : DataW.TrodAll enc Try.prog W 0 (fun _ => true) true Try.f3.params.toList args.toList ds p := hA0
  rw [Try.params3] at hA hval
  obtain ⟨v0, vs0, d0, ds0, p0, q0, hargs, rfl, rfl, h0, r0⟩ := trodAll_cons hA
  obtain ⟨rfl, rfl, rfl⟩ := trodAll_nil r0
  obtain rfl : args = #[v0] := by cases args; simp_all
  obtain ⟨rfl, rfl⟩ := trodVars_none hV
  have k0 := h0
  have lt0 : ∀ x ∈ p0, x.block < W.heap.size := by obtain ⟨m, hm⟩ := k0; exact DataW.trod_lt m _ _ _ hm
  obtain ⟨a0, len0, cap0, rfl⟩ := okWide_slice Try.underlying22 (hval 0 22 v0 rfl rfl)
  obtain ⟨fuel0, hf0⟩ := h0
  obtain ⟨A0, c0, code, e0, b0, m0, R0⟩ := arg_bytes Try.underlying22 Try.underlying5 (by kernel_rfl) hf0
  clear hA0 hval0
  have hc := law_c code W ⟨_, _, rfl, b0, R0⟩ (by omega)
  have hc : Calls Try.prog 3 _ W _ := hc
  rw [← e0] at hc
  refine hc.mono fun e W' ⟨v, he, hv, hx⟩ => ?_
  subst hv
  subst he
  have bel := Ch.below hx
  exact ⟨_, rfl, _, _, _, [], _, [], hW', trodAll_mk1 (shut_bool Try.underlying4 _), (trodAll_cons_mk (Below.trod laidOut (by kernel_rfl) (of_decide_eq_true (by kernel_rfl)) k0 bel lt0) trodAll_mk0), rfl, bel.frame _, fun h => by cases h⟩
theorem over : Rows.fnDiskRow.holds Try.pinned (OpenSpec.ofChange Rows.fnDiskSpec) :=
  OpenClaim.holds_of_wide 3 Try.f3 rfl rfl rfl rfl rfl rfl rfl ⟨rfl, rfl, rfl, rfl, rfl⟩ rfl rfl rfl rfl rfl (by kernel_rfl) Try.func3 (by kernel_rfl)
    (of_decide_eq_true (by kernel_rfl)) (by unfold Func.isWrapper; first | (rw [if_pos (by decide +kernel)]; kernel_rfl) | (rw [if_neg (by decide +kernel)]; exact ⟨rfl, rfl⟩))
    (fun os started H enc _ => lifted os started H enc)
theorem proved : Rows.FnDiskSaid := over
#print axioms proved
end Go.Proofs.Ytggaghghclomkaa.FnDiskP
