/- FnExactOpen: the law answers true for every input and leaves its arguments as they were. Conditions: none but those of the given row. -/
import Derived.Test.YtggaghghclomkaaGreatQFEOFT25m
import Derived.Test.YtggaghghclomkaaGreatRows
namespace Go.Proofs.YtggaghghclomkaaGreat.FnExactOpenP
open Go.RowKit Go.ChangeShapes Go.WideShapes Go.ChangeAt Go.Deep
open Go.ChangeMaps (open_string shut_string)
section
attribute [local irreducible] TL TC TN TX TR TQ TA Pu Ret
set_option maxRecDepth 100000 in
set_option maxHeartbeats 16000000 in
theorem law_c (d : DiskP) (k z : Int) {sn sk st : Value} (W : World) (hp : RDk W 0 W.heap.size d sn sk st) (hf : d.fits) : Ret Tryz.prog 10 #[.agg (dskC d sn sk st).toArray, I k, I z] W fun v' w' => v' = .bool true ∧ Ext W w' := by
  refine Ret_enter Tryz.func10 rfl rfl rfl ?_
  repeat' (first | apply Jbs | apply Jbt)
  refine TL_box (cs := dskC d sn sk st) rfl rfl ?_
  intro w1 g E hg hz hbk
  have z0 := E.size
  repeat' (first | apply Jbq | apply Jbr | apply Jbs | apply Jbt | (apply Jcg; (first | exact Jaa rfl | exact Jab rfl); exact rfl) | refine Jcg (Pu_loadAgg (cs := dskC d sn sk st) Us.h rfl Sz.h rfl (fun _ e j u hu => by rw [e, add0, hbk.cell]; exact hu)) rfl ?_)
  refine TL_call rfl en11 (szDisk_c (hp.ext E) hf (by omega) (by omega)) rfl rfl ?_
  rintro _ w2 ⟨hv, e⟩
  replace hbk := hbk.ext e
  replace E := E.ext e
  have z2 := e.size
  clear e
  rcases hv with rfl | ⟨rfl, hd⟩
  · repeat' (first | apply Jbq | apply Jbr | apply Jbs | apply Jbt | apply Jbu | apply Jbv | (refine Jce rfl ?_) | (apply Jcg; (first | exact Jaa rfl | exact Jab rfl | exact Jad rfl rfl); exact rfl))
    exact TR_of (res1 rfl rfl) ⟨rfl, E⟩
  have hlt := hbk.lt
  obtain ⟨r, hr⟩ : ∃ r, r = (pOpen d k z).1 := ⟨_, rfl⟩
  have hrt : totS r ≤ 1048576 := by rw [hr]; exact pOpen_tot d k z
  obtain ⟨hrd, hrl⟩ := totS_parts hrt
  repeat' (first | apply Jbq | apply Jbr | apply Jbs | apply Jbt | apply Jbz | (apply Jcg; (first | exact Jaa rfl | exact Jab rfl | exact Jad rfl rfl); exact rfl) | refine Jcg (Pu_loadAgg (cs := dskC d sn sk st) Us.h rfl Sz.h rfl (fun _ e j u hu => by rw [e, add0, hbk.cell]; exact hu)) rfl ?_ | (refine Jcx rfl (fun hb => ?_) (fun hb => ?_) <;> (try (exfalso; omega))))
  refine TL_call rfl en13 (toDisk_c (hp.ext E) hd) rfl rfl ?_
  rintro _ w3 ⟨sn1, sk1, st1, rfl, e, ho1⟩
  replace hbk := hbk.ext e
  replace E := E.ext e
  have z3 := e.size
  clear e
  repeat' ((apply Jcg; exact Jaa rfl; exact rfl))
  refine TL_call rfl en35 (specOpen_c ho1 hf hd) rfl rfl ?_
  rintro _ w4 ⟨snw, skw, stw, slw, rfl, e, hw⟩
  rw [← hr] at hw ⊢
  clear ho1
  replace hbk := hbk.ext e
  replace E := E.ext e
  have z4 := e.size
  clear e
  have onew := hw.one
  repeat' ((apply Jcg; (first | exact Jaa rfl | exact Jae rfl rfl); exact rfl))
  refine TL_alloc Zs.h rfl rfl ?_
  intro w5 ghbw e hghbw hzghbw hbw
  replace hbk := hbk.ext e
  replace hw := hw.ext e
  replace E := E.ext e
  have z5 := e.size
  clear e
  have hlthbw := hbw.lt
  skip
  refine TL_storeAgg rfl rfl Sz.h onew hbw rfl ?_
  clear hbw
  intro w6 c hzz hbw
  replace hbk := hbk.ch c (by simp only [Iv]; omega)
  replace hw := hw.ch c (by intro k _ _; simp only [Iv]; omega)
  replace E : Ext W _ := Ext.then_iv E c (by omega)
  have z6 := c.size
  clear c
  repeat' (first | apply Jbq | apply Jbr | apply Jbs | apply Jbt | (apply Jcg; exact Jab rfl; exact rfl) | refine Jcg (Pu_loadAgg (cs := dskC d sn sk st) Us.h rfl Sz.h rfl (fun _ e j u hu => by rw [e, add0, hbk.cell]; exact hu)) rfl ?_)
  refine TL_call rfl en13 (toDisk_o (hp.ext E) hd) rfl rfl ?_
  rintro _ w7 ⟨sn2, sk2, st2, rfl, e, hx⟩
  replace hbk := hbk.ext e
  replace hw := hw.ext e
  replace hbw := hbw.ext e
  replace E := E.ext e
  have z7 := e.size
  clear e
  have onex := hx.one
  skip
  refine TL_alloc Zs.h rfl rfl ?_
  intro w8 ghbx e hghbx hzghbx hbx
  replace hbk := hbk.ext e
  replace hw := hw.ext e
  replace hbw := hbw.ext e
  replace hx := hx.ext e
  replace E := E.ext e
  have z8 := e.size
  clear e
  have hlthbx := hbx.lt
  skip
  refine TL_storeAgg rfl rfl Sz.h onex hbx rfl ?_
  clear hbx
  intro w9 c hzz hbx
  replace hbk := hbk.ch c (by simp only [Iv]; omega)
  replace hw := hw.ch c (by intro k _ _; simp only [Iv]; omega)
  replace hbw := hbw.ch c (by simp only [Iv]; omega)
  replace hx := hx.ch c (by intro k _ _; simp only [Iv]; omega)
  replace E : Ext W _ := Ext.then_iv E c (by omega)
  have z9 := c.size
  clear c
  repeat' (first | apply Jbq | apply Jbr | apply Jbs | apply Jbt | (apply Jcg; exact Jaa rfl; exact rfl) | refine Jcg (Pu_loadAgg (cs := dskC d sn2 sk2 st2) Us.h rfl Sz.h rfl (fun _ e j u hu => by rw [e, add0, hbx.cell]; exact hu)) rfl ?_)
  refine TL_call rfl en34 (implOpen_c hx.rd hf hd) rfl rfl ?_
  rintro _ w10 ⟨sng, skg, stg, slg, rfl, e, hgd⟩
  rw [← hr] at hgd ⊢
  replace hbk := hbk.ext e
  replace hw := hw.ext e
  replace hbw := hbw.ext e
  replace hx := hx.ext e
  replace hbx := hbx.ext e
  replace E := E.ext e
  have z10 := e.size
  clear e
  have oneg := hgd.one
  repeat' ((apply Jcg; (first | exact Jaa rfl | exact Jae rfl rfl); exact rfl))
  refine TL_alloc Zs.h rfl rfl ?_
  intro w11 ghbg e hghbg hzghbg hbg
  replace hbk := hbk.ext e
  replace hw := hw.ext e
  replace hbw := hbw.ext e
  replace hx := hx.ext e
  replace hbx := hbx.ext e
  replace hgd := hgd.ext e
  replace E := E.ext e
  have z11 := e.size
  clear e
  have hlthbg := hbg.lt
  skip
  refine TL_storeAgg rfl rfl Sz.h oneg hbg rfl ?_
  clear hbg
  intro w12 c hzz hbg
  replace hbk := hbk.ch c (by simp only [Iv]; omega)
  replace hw := hw.ch c (by intro k _ _; simp only [Iv]; omega)
  replace hbw := hbw.ch c (by simp only [Iv]; omega)
  replace hx := hx.ch c (by intro k _ _; simp only [Iv]; omega)
  replace hbx := hbx.ch c (by simp only [Iv]; omega)
  replace hgd := hgd.ch c (by intro k _ _; simp only [Iv]; omega)
  replace E : Ext W _ := Ext.then_iv E c (by omega)
  have z12 := c.size
  clear c
  repeat' (first | apply Jbq | apply Jbr | apply Jbs | apply Jbt | (apply Jcg; exact Jab rfl; exact rfl) | refine Jcg (Pu_loadAgg (cs := stoC r sng skg stg slg) Us.h rfl Sz.h rfl (fun _ e j u hu => by rw [e, add0, hbg.cell]; exact hu)) rfl ?_ | refine Jcg (Pu_loadAgg (cs := stoC r snw skw stw slw) Us.h rfl Sz.h rfl (fun _ e j u hu => by rw [e, add0, hbw.cell]; exact hu)) rfl ?_)
  refine TL_call rfl en51 (eqStore_c hgd.rd hw.rd hrt) rfl rfl ?_
  rintro _ w13 ⟨rfl, e⟩
  replace hbk := hbk.ext e
  replace hw := hw.ext e
  replace hbw := hbw.ext e
  replace hx := hx.ext e
  replace hbx := hbx.ext e
  replace hgd := hgd.ext e
  replace hbg := hbg.ext e
  replace E := E.ext e
  have z13 := e.size
  clear e
  repeat' (first | apply Jbq | apply Jbr | apply Jbs | apply Jbz | (refine Jcf rfl ?_) | (apply Jcg; (first | exact Jbm rfl rfl | exact Jaa rfl | exact Jai rfl rfl | exact Jaj rfl); exact rfl) | refine Jch rfl rfl rfl ?_)
  have hA : ∀ w', Ext w13 w' → ∀ j u, (dskC d sn sk st)[j]? = some u → w'.cell? ((⟨g, 0, none⟩ : Addr).add j) = some u := fun w' e j u hu => by rw [add0]; exact e.cell ((hbk.cell j).trans hu)
  have hB : ∀ w', Ext w13 w' → ∀ j u, (dskC d sn2 sk2 st2)[j]? = some u → w'.cell? ((⟨ghbx, 0, none⟩ : Addr).add j) = some u := fun w' e j u hu => by rw [add0]; exact e.cell ((hbx.cell j).trans hu)
  refine TC_any mixed rfl ?_
  intro w14 hE hzw14
  (refine Jco 0 rfl (by kernel_rfl) (by kernel_rfl) (by kernel_rfl) (fun _ _ _ h => h) hE (by exact Pu_loadAgg (cs := dskC d sn2 sk2 st2) Us.h rfl Sz.h rfl hB) rfl ?_; refine Jco 1 rfl (by kernel_rfl) (by kernel_rfl) (by kernel_rfl) (fun _ _ _ h => h) hE (by exact Pu_loadAgg (cs := dskC d sn sk st) Us.h rfl Sz.h rfl hA) rfl ?_)
  refine TA_one 2 (by kernel_rfl) rfl ?_
  refine TL_call rfl en13 (toDisk_c (hp.ext (E.ext hE)) hd) rfl rfl ?_
  rintro _ w15 ⟨sn3, sk3, st3, rfl, e3, ho3⟩
  replace hE := hE.ext e3
  refine Jbq (TN_any hE ?_)
  refine TA_one 3 (by kernel_rfl) rfl ?_
  refine TL_call rfl en16 (eqDisk_c (hx.rd.ext hE) ho3 hd) rfl rfl ?_
  rintro _ w16 ⟨rfl, e4⟩
  replace hE := hE.ext e4
  refine Jbq (TN_any hE ?_)
  (refine Jco 4 rfl (by kernel_rfl) (by kernel_rfl) (by kernel_rfl) (fun _ _ _ h => h) hE (by exact Jaj rfl) rfl ?_)
  refine TA_done (by kernel_rfl) ?_
  clear hA hB ho3 e3 e4
  replace hbk := hbk.ext hE
  replace hw := hw.ext hE
  replace hbw := hbw.ext hE
  replace hx := hx.ext hE
  replace hbx := hbx.ext hE
  replace hgd := hgd.ext hE
  replace hbg := hbg.ext hE
  replace E := E.ext hE
  have z16 := hE.size
  clear hE
  repeat' (first | apply Jbq | apply Jbr | apply Jbs | apply Jbt | apply Jbz | (refine Jcf rfl ?_) | (apply Jcg; (first | exact Jaa rfl | exact Jab rfl); exact rfl) | refine Jcg (Pu_loadAgg (cs := dskC d sn2 sk2 st2) Us.h rfl Sz.h rfl (fun _ e j u hu => by rw [e, add0, hbx.cell]; exact hu)) rfl ?_)
  refine TL_call rfl en18 (markDisk_k hx hd (by omega) (by omega)) rfl rfl ?_
  rintro _ w17 ⟨rfl, c, _⟩
  obtain ⟨_, _, _, _, _, hc0, hc1⟩ := cntD_le hd
  obtain ⟨_, _, _, _, _, hq0, hq1⟩ := cntD_le hrd
  have hcs : 0 ≤ cntSt r ∧ cntSt r ≤ 90000000 := by unfold cntSt; omega
  clear hx hbx
  replace hbk := hbk.ch c (by simp only [Iv]; omega)
  replace hw := hw.ch c (by intro k _ _; simp only [Iv]; omega)
  replace hbw := hbw.ch c (by simp only [Iv]; omega)
  replace hgd := hgd.ch c (by intro k _ _; simp only [Iv]; omega)
  replace hbg := hbg.ch c (by simp only [Iv]; omega)
  replace E : Ext W _ := Ext.then_iv E c (by omega)
  have z17 := c.size
  clear c
  repeat' (first | apply Jbq | apply Jbr | apply Jbs | apply Jbt | (apply Jcg; (first | exact Jaa rfl | exact Jab rfl | exact Jad rfl rfl); exact rfl) | refine Jch rfl rfl rfl ?_ | refine Jcg (Pu_loadAgg (cs := stoC r sng skg stg slg) Us.h rfl Sz.h rfl (fun _ e j u hu => by rw [e, add0, hbg.cell]; exact hu)) rfl ?_ | refine Jcg (Pu_loadAgg (cs := stoC r snw skw stw slw) Us.h rfl Sz.h rfl (fun _ e j u hu => by rw [e, add0, hbw.cell]; exact hu)) rfl ?_ | (refine Jcs rfl rfl (fun hb => ?_) (fun hb => ?_) <;> (try (exfalso; omega))))
  refine TL_call rfl en51 (eqStore_c hgd.rd hw.rd hrt) rfl rfl ?_
  rintro _ w18 ⟨rfl, e⟩
  replace hbk := hbk.ext e
  replace hw := hw.ext e
  replace hbw := hbw.ext e
  replace hgd := hgd.ext e
  replace hbg := hbg.ext e
  replace E := E.ext e
  have z18 := e.size
  clear e
  repeat' (first | apply Jbq | apply Jbr | apply Jbs | apply Jbt | apply Jbz | (refine Jcf rfl ?_) | (apply Jcg; (first | exact Jbm rfl rfl | exact Jaa rfl | exact Jab rfl | exact Jai rfl rfl | exact Jaj rfl); exact rfl) | refine Jch rfl rfl rfl ?_ | refine Jcg (Pu_loadAgg (cs := stoC r sng skg stg slg) Us.h rfl Sz.h rfl (fun _ e j u hu => by rw [e, add0, hbg.cell]; exact hu)) rfl ?_)
  refine TL_call rfl en52 (markStore_k hgd hrt (by omega) (by omega)) rfl rfl ?_
  rintro _ w19 ⟨rfl, c, hgm⟩
  clear hgd
  replace hbk := hbk.ch c (by simp only [Iv]; omega)
  replace hw := hw.ch c (by intro k _ _; simp only [Iv]; omega)
  replace hbw := hbw.ch c (by simp only [Iv]; omega)
  replace hbg := hbg.ch c (by simp only [Iv]; omega)
  replace E : Ext W _ := Ext.then_iv E c (by omega)
  have z19 := c.size
  clear c
  repeat' (first | apply Jbq | apply Jbr | apply Jbs | apply Jbt | (apply Jcg; (first | exact Jaa rfl | exact Jab rfl); exact rfl) | refine Jcg (Pu_loadAgg (cs := stoC r sng skg stg slg) Us.h rfl Sz.h rfl (fun _ e j u hu => by rw [e, add0, hbg.cell]; exact hu)) rfl ?_)
  refine TL_call rfl en53 (heldStore_k hgm hrt (by omega) (by omega)) rfl rfl ?_
  rintro _ w20 ⟨rfl, e⟩
  replace hbk := hbk.ext e
  replace hw := hw.ext e
  replace hbw := hbw.ext e
  replace hbg := hbg.ext e
  replace hgm := hgm.ext e
  replace E := E.ext e
  have z20 := e.size
  clear e
  repeat' (first | apply Jbq | apply Jbr | apply Jbs | apply Jbt | apply Jbz | (refine Jcf rfl ?_) | (apply Jcg; (first | exact Jbm rfl rfl | exact Jaa rfl | exact Jab rfl | exact Jad rfl rfl); exact rfl) | refine Jcg (Pu_loadAgg (cs := dskC d sn sk st) Us.h rfl Sz.h rfl (fun _ e j u hu => by rw [e, add0, hbk.cell]; exact hu)) rfl ?_ | (refine Jcx rfl (fun hb => ?_) (fun hb => ?_) <;> (try (exfalso; omega))))
  refine TL_call rfl en13 (toDisk_c (hp.ext E) hd) rfl rfl ?_
  rintro _ w21 ⟨sn4, sk4, st4, rfl, e, ho4⟩
  replace hbk := hbk.ext e
  replace hw := hw.ext e
  replace hbw := hbw.ext e
  replace hbg := hbg.ext e
  replace hgm := hgm.ext e
  replace E := E.ext e
  have z21 := e.size
  clear e
  repeat' ((apply Jcg; exact Jaa rfl; exact rfl))
  refine TL_call rfl en34 (implOpen_c ho4 hf hd) rfl rfl ?_
  rintro _ w22 ⟨snh, skh, sth, slh, rfl, e, hh⟩
  rw [← hr] at hh ⊢
  clear ho4
  replace hbk := hbk.ext e
  replace hw := hw.ext e
  replace hbw := hbw.ext e
  replace hbg := hbg.ext e
  replace hgm := hgm.ext e
  replace E := E.ext e
  have z22 := e.size
  clear e
  have oneh := hh.one
  repeat' ((apply Jcg; (first | exact Jaa rfl | exact Jae rfl rfl); exact rfl))
  refine TL_alloc Zs.h rfl rfl ?_
  intro w23 ghbh e hghbh hzghbh hbh
  replace hbk := hbk.ext e
  replace hw := hw.ext e
  replace hbw := hbw.ext e
  replace hbg := hbg.ext e
  replace hgm := hgm.ext e
  replace hh := hh.ext e
  replace E := E.ext e
  have z23 := e.size
  clear e
  have hlthbh := hbh.lt
  skip
  refine TL_storeAgg rfl rfl Sz.h oneh hbh rfl ?_
  clear hbh
  intro w24 c hzz hbh
  replace hbk := hbk.ch c (by simp only [Iv]; omega)
  replace hw := hw.ch c (by intro k _ _; simp only [Iv]; omega)
  replace hbw := hbw.ch c (by simp only [Iv]; omega)
  replace hbg := hbg.ch c (by simp only [Iv]; omega)
  replace hgm := hgm.ch c (by intro k _ _; simp only [Iv]; omega)
  replace hh := hh.ch c (by intro k _ _; simp only [Iv]; omega)
  replace E : Ext W _ := Ext.then_iv E c (by omega)
  have z24 := c.size
  clear c
  repeat' (first | apply Jbq | apply Jbr | apply Jbs | apply Jbt | (apply Jcg; exact Jab rfl; exact rfl) | refine Jcg (Pu_loadAgg (cs := stoC r snh skh sth slh) Us.h rfl Sz.h rfl (fun _ e j u hu => by rw [e, add0, hbh.cell]; exact hu)) rfl ?_ | refine Jcg (Pu_loadAgg (cs := stoC r snw skw stw slw) Us.h rfl Sz.h rfl (fun _ e j u hu => by rw [e, add0, hbw.cell]; exact hu)) rfl ?_)
  refine TL_call rfl en51 (eqStore_c hh.rd hw.rd hrt) rfl rfl ?_
  rintro _ w25 ⟨rfl, e⟩
  replace hbk := hbk.ext e
  replace hw := hw.ext e
  replace hbw := hbw.ext e
  replace hbg := hbg.ext e
  replace hgm := hgm.ext e
  replace hh := hh.ext e
  replace hbh := hbh.ext e
  replace E := E.ext e
  have z25 := e.size
  clear e
  repeat' (first | apply Jbq | apply Jbr | apply Jbs | apply Jbt | apply Jbz | (refine Jcf rfl ?_) | (apply Jcg; (first | exact Jbm rfl rfl | exact Jaa rfl | exact Jab rfl | exact Jai rfl rfl | exact Jaj rfl); exact rfl) | refine Jch rfl rfl rfl ?_ | refine Jcg (Pu_loadAgg (cs := stoC r sng skg stg slg) Us.h rfl Sz.h rfl (fun _ e j u hu => by rw [e, add0, hbg.cell]; exact hu)) rfl ?_)
  refine TL_call rfl en53 (heldStore_k hgm hrt (by omega) (by omega)) rfl rfl ?_
  rintro _ w26 ⟨rfl, e⟩
  replace hbk := hbk.ext e
  replace hw := hw.ext e
  replace hbw := hbw.ext e
  replace hbg := hbg.ext e
  replace hgm := hgm.ext e
  replace hh := hh.ext e
  replace hbh := hbh.ext e
  replace E := E.ext e
  have z26 := e.size
  clear e
  repeat' (first | apply Jbq | apply Jbr | apply Jbs | apply Jbt | apply Jbu | apply Jbz | (refine Jcf rfl ?_) | (apply Jcg; (first | exact Jbm rfl rfl | exact Jaa rfl | exact Jab rfl | exact Jad rfl rfl); exact rfl) | (refine Jcx rfl (fun hb => ?_) (fun hb => ?_) <;> (try (exfalso; omega))))
  exact TR_of (res1 rfl rfl) ⟨rfl, E⟩
end
theorem own : ownKnob Tryz.prog.godebug = none := by kernel_rfl
theorem laidOut : laidOutB Tryz.prog = true := by kernel_rfl
set_option maxRecDepth 100000 in
theorem lifted (os : Os) (started : os.Started) (H : Type) (enc : TypeId × Value → H) :
    ReturnsInHanded {} Tryz.checked os 10 .any (Rows.fnExactOpenSpec.pre6 enc Tryz.prog Tryz.f10 Rows.fnExactOpenRow.domain false) (Rows.fnExactOpenSpec.post enc Tryz.prog Tryz.f10 false true false false) := by
  refine returnsInHanded_of_change (C := Tryz.checked) own started (by kernel_rfl) Tryz.func10
    (ChangeSpec.witness6 (enc := enc) (C := Tryz.checked) false ⟨#[], #[.agg #[.int .i64 0, .int .i64 0, .int .i64 0, .slice none 0 0, .slice none 0 0, .slice none 0 0], .int .i64 0, .int .i64 0], []⟩ 8 (by kernel_rfl) (by kernel_rfl) (by kernel_rfl) (by kernel_rfl)) ?_
  intro W base args ds gs before hval0 hW hcnd _
  have hval : ∀ (j : Nat) t v, Tryz.f10.params[j]? = some t → args[j]? = some v → Value.okWide Tryz.prog W .any base t v := hval0
  have hW' := hW
  obtain ⟨p, q, hA0, hV, rfl, hfz, hnd⟩ := hW
  have hA : DataW.TrodAll enc Tryz.prog W 0 (fun _ => true) true Tryz.f10.params.toList args.toList ds p := hA0
  rw [Tryz.params10] at hA hval
  obtain ⟨v0, vs0, d0, ds0, p0, q0, hargs, rfl, rfl, h0, r0⟩ := trodAll_cons hA
  obtain ⟨v1, vs1, d1, ds1, p1, q1, rfl, rfl, rfl, h1, r1⟩ := trodAll_cons r0
  obtain ⟨v2, vs2, d2, ds2, p2, q2, rfl, rfl, rfl, h2, r2⟩ := trodAll_cons r1
  obtain ⟨rfl, rfl, rfl⟩ := trodAll_nil r2
  obtain rfl : args = #[v0, v1, v2] := by cases args; simp_all
  obtain ⟨rfl, rfl⟩ := trodVars_none hV
  have k0 := h0
  have lt0 : ∀ x ∈ p0, x.block < W.heap.size := by obtain ⟨m, hm⟩ := k0; exact DataW.trod_lt m _ _ _ hm
  obtain ⟨cs0, rfl, hz0⟩ := okWide_struct Tryz.underlying26 (hval 0 26 v0 rfl rfl)
  obtain ⟨fuel0, hf0⟩ := h0
  obtain ⟨d, sn0, sk0, st0, e0, f0, R0⟩ := cell_disk Tryz.underlying26 (by kernel_rfl) rfl rfl rfl rfl rfl rfl Tryz.underlying3 Tryz.underlying3 Tryz.underlying3 Tryz.underlying22 Tryz.underlying23 Tryz.underlying24 (by kernel_rfl) (by kernel_rfl) (by kernel_rfl) (by kernel_rfl) (by kernel_rfl) (by kernel_rfl) (by kernel_rfl) (by kernel_rfl) (by kernel_rfl) (fun n cs x h => cell_node Tryz.underlying156 (by kernel_rfl) rfl rfl rfl Tryz.underlying3 Tryz.underlying43 Tryz.underlying43 Tryz.underlying5 (by kernel_rfl) (by kernel_rfl) (by kernel_rfl) (by kernel_rfl) h) (fun n cs x h => cell_link Tryz.underlying159 (by kernel_rfl) rfl rfl Tryz.underlying9 Tryz.underlying3 (by kernel_rfl) (by kernel_rfl) h) (fun n cs x h => cell_turn Tryz.underlying161 (by kernel_rfl) rfl rfl rfl rfl Tryz.underlying3 Tryz.underlying9 Tryz.underlying9 Tryz.underlying3 (by kernel_rfl) (by kernel_rfl) (by kernel_rfl) (by kernel_rfl) h) hf0
  have e0 : Value.agg cs0 = Value.agg (dskC d sn0 sk0 st0).toArray := by rw [← e0]; simp [Value.cells]
  have k1 := h1
  have lt1 : ∀ x ∈ p1, x.block < W.heap.size := by obtain ⟨m, hm⟩ := k1; exact DataW.trod_lt m _ _ _ hm
  obtain ⟨k, rfl, _, _, w1⟩ := open_int Tryz.underlying3 (hval 1 3 v1 rfl rfl) h1
  have b1 := bounds_i64 w1
  have k2 := h2
  have lt2 : ∀ x ∈ p2, x.block < W.heap.size := by obtain ⟨m, hm⟩ := k2; exact DataW.trod_lt m _ _ _ hm
  obtain ⟨z, rfl, _, _, w2⟩ := open_int Tryz.underlying3 (hval 2 3 v2 rfl rfl) h2
  have b2 := bounds_i64 w2
  clear hA0 hval0
  have hc := law_c d k z W R0 f0
  have hc : Calls Tryz.prog 10 _ W _ := hc
  rw [← e0] at hc
  refine hc.mono fun e W' ⟨v, he, hv, hx⟩ => ?_
  subst hv
  subst he
  have bel := Ch.below hx
  exact ⟨_, rfl, _, _, _, [], _, [], hW', trodAll_mk1 (shut_bool Tryz.underlying4 _), (trodAll_cons_mk (Below.trod laidOut (by kernel_rfl) (of_decide_eq_true (by kernel_rfl)) k0 bel lt0) (trodAll_cons_mk (Below.trod laidOut (by kernel_rfl) (of_decide_eq_true (by kernel_rfl)) k1 bel lt1) (trodAll_cons_mk (Below.trod laidOut (by kernel_rfl) (of_decide_eq_true (by kernel_rfl)) k2 bel lt2) trodAll_mk0))), rfl, bel.frame _, fun h => by cases h⟩
theorem over : Rows.fnExactOpenRow.holds Tryz.pinned (OpenSpec.ofChange Rows.fnExactOpenSpec) :=
  OpenClaim.holds_of_wide 10 Tryz.f10 rfl rfl rfl rfl rfl rfl rfl ⟨rfl, rfl, rfl, rfl, rfl⟩ rfl rfl rfl rfl rfl (by kernel_rfl) Tryz.func10 (by kernel_rfl)
    (of_decide_eq_true (by kernel_rfl)) (by unfold Func.isWrapper; first | (rw [if_pos (by decide +kernel)]; kernel_rfl) | (rw [if_neg (by decide +kernel)]; exact ⟨rfl, rfl⟩))
    (fun os started H enc _ => lifted os started H enc)
theorem proved : Rows.FnExactOpenSaid := over
#print axioms proved
end Go.Proofs.YtggaghghclomkaaGreat.FnExactOpenP
