/- FnSafe: the law answers true for every input and leaves its arguments as they were. Conditions: none but those of the given row. -/
import Derived.Test.YtggaghghclomkaaGreatQFSFCS19n
import Derived.Test.YtggaghghclomkaaGreatRows
namespace Go.Proofs.YtggaghghclomkaaGreat.FnSafeP
open Go.RowKit Go.ChangeShapes Go.WideShapes Go.ChangeAt Go.Deep
open Go.ChangeMaps (open_string shut_string)
section
attribute [local irreducible] TL TC TN TX TR TQ TA Pu Ret
set_option maxRecDepth 100000 in
set_option maxHeartbeats 16000000 in
theorem law_c {v : Value} (code : List UInt8) (W : World) (p : RB W 0 W.heap.size v code) (bl : code.length ≤ 9223372036854775807) : Ret Tryz.prog 7 #[v] W fun v' w' => v' = .bool true ∧ Ext W w' := by
  refine Ret_enter Tryz.func7 rfl rfl rfl ?_
  have p0 := p
  obtain ⟨A, c, rfl, hc, _⟩ := p0
  repeat' (first | apply Jbq | apply Jbr | apply Jbs | apply Jbt | (apply Jcg; (first | exact Jaa rfl | exact Jab rfl | exact Jac Us.h rfl | exact Jam rfl rfl); exact rfl))
  refine Jcx rfl (fun hb => ?_) (fun hb => ?_)
  · repeat' (first | apply Jbq | apply Jbr | apply Jbs | apply Jbt | apply Jbu | apply Jbv | (apply Jcg; exact Jab rfl; exact rfl))
    exact TR_of (res1 rfl rfl) ⟨rfl, Ch.refl _ _⟩
  have hn : code.length ≤ 1048576 := by omega
  repeat' (first | apply Jbr | apply Jbs | apply Jbt | apply Jbz | (apply Jcg; exact Jaa rfl; exact rfl))
  refine TL_call rfl en40 (MakeStore_c p hn) rfl rfl ?_
  rintro _ w1 ⟨s, t, sn, sk, st, sl, rfl, hL, ht, E, hs⟩
  have z1 := E.size
  obtain ⟨As, cs, rfl⟩ : ∃ A c, sl = .slice A s.list.length c := by obtain ⟨_, A, c, h, _⟩ := hs; exact ⟨A, c, h⟩
  have ones := hs.one
  have htot := hL.tot
  have hln := (totS_parts htot).2
  repeat' ((apply Jcg; (first | exact Jaa rfl | exact Jae rfl rfl); exact rfl))
  refine TL_alloc Zs.h rfl rfl ?_
  intro w2 gs e hghbs hzhbs hbs
  replace hs := hs.ext e
  replace E := E.ext e
  have z2 := e.size
  clear e
  have hlthbs := hbs.lt
  skip
  refine TL_storeAgg rfl rfl Sz.h ones hbs rfl ?_
  clear hbs
  intro w3 c hzz hbs
  replace hs := hs.ch c (by intro k _ _; simp only [Iv]; omega)
  replace E : Ext W _ := Ext.then_iv E c (by omega)
  have z3 := c.size
  clear c
  repeat' (first | apply Jbq | apply Jbr | apply Jbs | apply Jbt | (apply Jcg; (first | exact Jaa rfl | exact Jab rfl); exact rfl))
  refine TL_call rfl en41 (MakeCut_c (p.ext E) hn) rfl rfl ?_
  rintro _ w4 ⟨tn, cuts, vc, rfl, ht0, hcl, e, hcu⟩
  replace hs := hs.ext e
  replace hbs := hbs.ext e
  replace E := E.ext e
  have z4 := e.size
  clear e
  obtain ⟨hLr, hkr, hzr, hcase⟩ := add_live hL ht
  obtain ⟨r, hr⟩ : ∃ r, r = (pAdd s t).1 := ⟨_, rfl⟩
  obtain ⟨c1, hc1⟩ : ∃ r, r = (pAdd s t).2 := ⟨_, rfl⟩
  rw [← hr] at hLr hkr hzr
  rw [← hr, ← hc1] at hcase
  have htr := hLr.tot
  have hlnr := (totS_parts htr).2
  have hDr := hLr.ok.disk
  have hrt := (totS_parts htr).1
  repeat' (first | apply Jbq | apply Jbr | apply Jbs | apply Jbt | (apply Jcg; (first | exact Jaa rfl | exact Jab rfl | exact Jae rfl rfl); exact rfl) | refine Jcg (Pu_loadAgg (cs := stoC s sn sk st (.slice As s.list.length cs)) Us.h rfl Sz.h rfl (fun _ e j u hu => by rw [e, add0, hbs.cell]; exact hu)) rfl ?_)
  refine TL_call rfl en42 (implAdd_c hs hL.fitsS hL.tot hL.ok ht) rfl rfl ?_
  rintro _ w5 ⟨sn1, sk1, st1, sl1, rfl, e, ho⟩
  rw [← hr] at ho ⊢
  rw [← hc1]
  have hg := ho.rd
  clear ho
  obtain ⟨A1, k1, rfl⟩ : ∃ A c, sl1 = .slice A r.list.length c := by obtain ⟨_, A, c, h, _⟩ := hg; exact ⟨A, c, h⟩
  have oner := hg.one
  replace hs := hs.ext e
  replace hbs := hbs.ext e
  replace hcu := hcu.ext e
  replace E := E.ext e
  have z5 := e.size
  clear e
  repeat' ((apply Jcg; (first | exact Jaa rfl | exact Jae rfl rfl); exact rfl))
  refine TL_alloc Zs.h rfl rfl ?_
  intro w6 gr e hghbr hzhbr hbr
  replace hs := hs.ext e
  replace hbs := hbs.ext e
  replace hcu := hcu.ext e
  replace hg := hg.ext e
  replace E := E.ext e
  have z6 := e.size
  clear e
  have hlthbr := hbr.lt
  skip
  refine TL_storeAgg rfl rfl Sz.h oner hbr rfl ?_
  clear hbr
  intro w7 c hzz hbr
  replace hs := hs.ch c (by intro k _ _; simp only [Iv]; omega)
  replace hbs := hbs.ch c (by simp only [Iv]; omega)
  replace hcu := hcu.ch c (by intro k _ _; simp only [Iv]; omega)
  replace hg := hg.ch c (by intro k _ _; simp only [Iv]; omega)
  replace E : Ext W _ := Ext.then_iv E c (by omega)
  have z7 := c.size
  clear c
  repeat' (first | apply Jbq | apply Jbr | apply Jbs | apply Jbt | (apply Jcg; (first | exact Jaa rfl | exact Jab rfl); exact rfl) | refine Jcg (Pu_loadAgg (cs := stoC s sn sk st (.slice As s.list.length cs)) Us.h rfl Sz.h rfl (fun _ e j u hu => by rw [e, add0, hbs.cell]; exact hu)) rfl ?_)
  refine TL_call rfl en43 (specAdd_c hs hL.fitsS hL.tot hL.ok ht) rfl rfl ?_
  rintro _ w8 ⟨sn2, sk2, st2, sl2, rfl, e, hg2⟩
  rw [← hr] at hg2 ⊢
  rw [← hc1]
  have one2 := hg2.one
  replace hs := hs.ext e
  replace hbs := hbs.ext e
  replace hcu := hcu.ext e
  replace hg := hg.ext e
  replace hbr := hbr.ext e
  replace E := E.ext e
  have z8 := e.size
  clear e
  repeat' ((apply Jcg; (first | exact Jaa rfl | exact Jae rfl rfl); exact rfl))
  refine TL_alloc Zs.h rfl rfl ?_
  intro w9 g2 e hghb2 hzhb2 hb2
  replace hs := hs.ext e
  replace hbs := hbs.ext e
  replace hcu := hcu.ext e
  replace hg := hg.ext e
  replace hbr := hbr.ext e
  replace E := E.ext e
  have z9 := e.size
  clear e
  have hlthb2 := hb2.lt
  skip
  refine TL_storeAgg rfl rfl Sz.h one2 hb2 rfl ?_
  clear hb2
  intro w10 c hzz hb2
  replace hs := hs.ch c (by intro k _ _; simp only [Iv]; omega)
  replace hbs := hbs.ch c (by simp only [Iv]; omega)
  replace hcu := hcu.ch c (by intro k _ _; simp only [Iv]; omega)
  replace hg := hg.ch c (by intro k _ _; simp only [Iv]; omega)
  replace hbr := hbr.ch c (by simp only [Iv]; omega)
  replace E : Ext W _ := Ext.then_iv E c (by omega)
  have z10 := c.size
  clear c
  clear hb2
  clear hg2
  have hDc := hDr.crash tn cuts
  have hhist : dHas (pDir (crashD r.disk tn cuts)) histT = true := by
    obtain ⟨p1, H1, _⟩ := hLr.hist
    obtain ⟨i, K⟩ := crash_clean hDr hLr.turns H1 tn cuts
    exact K.there
  obtain ⟨hc0, hLb, hlb⟩ := open_crash (k := r.keep) (z := r.size) hDc hhist hLr.ok.range
  have hfnd : pFound (crashD r.disk tn cuts) = r.list := by
    unfold pFound
    rw [(hLr.again tn cuts).2]
    exact hLr.open
  rw [(hLr.again tn cuts).2, hLr.open] at hlb
  obtain ⟨d, hd⟩ : ∃ d, d = crashD r.disk tn cuts := ⟨_, rfl⟩
  rw [← hd] at hDc hc0 hLb hlb hfnd
  obtain ⟨B, hB⟩ : ∃ B, B = (pOpen d r.keep r.size).1 := ⟨_, rfl⟩
  rw [← hB] at hLb hlb
  have hdt : totD d ≤ 1048576 := by have := hDc.totD; omega
  repeat' (first | apply Jbq | apply Jbr | apply Jbs | apply Jbt | apply Jbz | (refine Jcf rfl ?_) | (apply Jcg; (first | exact Jbm rfl rfl | exact Jaa rfl | exact Jab rfl | (apply Jbl; exact Us.h; exact rfl; exact Sz.h; exact rfl)); exact rfl) | refine Jcg (Pu_loadAgg (cs := dskC r.disk sn1 sk1 st1) Us.h rfl Sz.h rfl (fun _ e j u hu => blk_disk hbr e j u hu)) rfl ?_)
  refine TL_call rfl en15 (implDiskCrash_c hg.1 hDr.fitsD hrt hcu (by omega)) rfl rfl ?_
  rintro _ w11 ⟨sn3, sk3, st3, rfl, e, hx⟩
  rw [pCrash_yes hDr, ← hd] at hx ⊢
  simp only at hx ⊢
  have oned := hx.one
  replace hs := hs.ext e
  replace hbs := hbs.ext e
  replace hcu := hcu.ext e
  replace hg := hg.ext e
  replace hbr := hbr.ext e
  replace E := E.ext e
  have z11 := e.size
  clear e
  clear hcu
  repeat' ((apply Jcg; (first | exact Jaa rfl | exact Jae rfl rfl); exact rfl))
  refine TL_alloc Zs.h rfl rfl ?_
  intro w12 gd e hghbd hzhbd hbd
  replace hs := hs.ext e
  replace hbs := hbs.ext e
  replace hg := hg.ext e
  replace hbr := hbr.ext e
  replace hx := hx.ext e
  replace E := E.ext e
  have z12 := e.size
  clear e
  have hlthbd := hbd.lt
  skip
  refine TL_storeAgg rfl rfl Sz.h oned hbd rfl ?_
  clear hbd
  intro w13 c hzz hbd
  replace hs := hs.ch c (by intro k _ _; simp only [Iv]; omega)
  replace hbs := hbs.ch c (by simp only [Iv]; omega)
  replace hg := hg.ch c (by intro k _ _; simp only [Iv]; omega)
  replace hbr := hbr.ch c (by simp only [Iv]; omega)
  replace hx := hx.ch c (by intro k _ _; simp only [Iv]; omega)
  replace E : Ext W _ := Ext.then_iv E c (by omega)
  have z13 := c.size
  clear c
  repeat' (first | apply Jbq | apply Jbr | apply Jbs | apply Jbt | apply Jbz | (refine Jcf rfl ?_) | (apply Jcg; (first | exact Jaa rfl | exact Jab rfl | exact Jaj rfl | (apply Jbl; exact Us.h; exact rfl; exact Sz.h; exact rfl)); exact rfl) | refine Jcg (Pu_loadAgg (cs := dskC d sn3 sk3 st3) Us.h rfl Sz.h rfl (fun _ e j u hu => by rw [e, add0, hbd.cell]; exact hu)) rfl ?_ | refine Jcg (Pu_load Fl.h rfl (fun _ e => by rw [e]; exact hbr.ld rfl)) rfl ?_)
  refine TL_call rfl en34 (implOpen_c hx.rd hDc.fitsD hdt) rfl rfl ?_
  rintro _ w14 ⟨sn4, sk4, st4, sl4, rfl, e, hy⟩
  rw [← hB] at hy ⊢
  rw [hc0]
  have oneb := hy.one
  replace hs := hs.ext e
  replace hbs := hbs.ext e
  replace hg := hg.ext e
  replace hbr := hbr.ext e
  replace hx := hx.ext e
  replace hbd := hbd.ext e
  replace E := E.ext e
  have z14 := e.size
  clear e
  repeat' ((apply Jcg; (first | exact Jaa rfl | exact Jae rfl rfl); exact rfl))
  refine TL_alloc Zs.h rfl rfl ?_
  intro w15 gb e hghbb hzhbb hbb
  replace hs := hs.ext e
  replace hbs := hbs.ext e
  replace hg := hg.ext e
  replace hbr := hbr.ext e
  replace hx := hx.ext e
  replace hbd := hbd.ext e
  replace hy := hy.ext e
  replace E := E.ext e
  have z15 := e.size
  clear e
  have hlthbb := hbb.lt
  skip
  refine TL_storeAgg rfl rfl Sz.h oneb hbb rfl ?_
  clear hbb
  intro w16 c hzz hbb
  replace hs := hs.ch c (by intro k _ _; simp only [Iv]; omega)
  replace hbs := hbs.ch c (by simp only [Iv]; omega)
  replace hg := hg.ch c (by intro k _ _; simp only [Iv]; omega)
  replace hbr := hbr.ch c (by simp only [Iv]; omega)
  replace hx := hx.ch c (by intro k _ _; simp only [Iv]; omega)
  replace hbd := hbd.ch c (by simp only [Iv]; omega)
  replace hy := hy.ch c (by intro k _ _; simp only [Iv]; omega)
  replace E : Ext W _ := Ext.then_iv E c (by omega)
  have z16 := c.size
  clear c
  repeat' (first | apply Jbq | apply Jbr | (apply Jcg; exact Jab rfl; exact rfl))
  refine TC_join (ι := Unit) (fun _ => [(0, .slice A code.length c), (3, .pointer (some ⟨gs, 0, none⟩)), (4, S t), (7, .pointer (some ⟨gr, 0, none⟩)), (8, I c1)]) (fun _ w' => Ext w16 w') ?_ ?_
  · repeat' (apply Jbs)
    refine TC_any mixed rfl ?_
    intro wz hE hzz
    have hlo := hy.rd
    (refine Jco 0 rfl (by kernel_rfl) (by kernel_rfl) (by kernel_rfl) (fun _ _ _ h => h) hE (by exact Jaa rfl) rfl ?_; refine Jco 1 rfl (by kernel_rfl) (by kernel_rfl) (by kernel_rfl) (fun _ _ _ h => h) hE (by exact Jbm rfl rfl) rfl ?_; refine Jco 2 rfl (by kernel_rfl) (by kernel_rfl) (by kernel_rfl) (fun _ _ _ h => h) hE (by exact Jaa rfl) rfl ?_; refine Jcp 3 rfl (by kernel_rfl) (by kernel_rfl) (by kernel_rfl) (fun _ _ _ h => h) hE rfl rfl rfl (by (apply Jbl; exact Us.h; exact rfl; exact Sz.h; exact rfl)) rfl ?_; refine Jcp 4 rfl (by kernel_rfl) (by kernel_rfl) (by kernel_rfl) (fun _ _ _ h => h) hE rfl rfl rfl (by exact Pu_load Fl.h rfl (fun _ e => Ext.cell e (hbb.ld rfl))) rfl ?_; refine Jcp 5 rfl (by kernel_rfl) (by kernel_rfl) (by kernel_rfl) (fun _ _ _ h => h) hE rfl rfl rfl (by (apply Jbl; exact Us.h; exact rfl; exact Sz.h; exact rfl)) rfl ?_; refine Jcp 6 rfl (by kernel_rfl) (by kernel_rfl) (by kernel_rfl) (fun _ _ _ h => h) hE rfl rfl rfl (by exact Pu_load Fl.h rfl (fun _ e => Ext.cell e (hbr.ld rfl))) rfl ?_)
    have hb2 := hlo.2
    rw [hlb] at hb2
    refine TA_one 7 (by kernel_rfl) rfl ?_
    refine Jch rfl rfl rfl ?_
    refine TL_call rfl en38 (sameEntries_c (hb2.ext hE) (hg.2.ext hE) hlnr) rfl rfl ?_
    rintro _ w17 ⟨rfl, e⟩
    replace hE := hE.ext e
    refine Jbq (TN_any hE ?_)
    clear e
    (refine Jcp 8 rfl (by kernel_rfl) (by kernel_rfl) (by kernel_rfl) (fun _ _ _ h => h) hE rfl rfl rfl (by exact Jaj rfl) rfl ?_; refine Jco 9 rfl (by kernel_rfl) (by kernel_rfl) (by kernel_rfl) (fun _ _ _ h => h) hE (by exact Jai rfl rfl) rfl ?_; refine Jco 10 rfl (by kernel_rfl) (by kernel_rfl) (by kernel_rfl) (fun _ _ _ h => h) hE (by exact Jaa rfl) rfl ?_; refine Jcp 11 rfl (by kernel_rfl) (by kernel_rfl) (by kernel_rfl) (fun _ _ _ h => h) hE rfl rfl rfl (by exact Pu_loadAgg (cs := dskC d sn3 sk3 st3) Us.h rfl Sz.h rfl (fun _ e j u hu => Ext.cell e (by rw [add0, hbd.cell]; exact hu))) rfl ?_; refine Jcp 13 rfl (by kernel_rfl) (by kernel_rfl) (by kernel_rfl) (fun _ _ _ h => h) hE rfl rfl rfl (by (apply Jbl; exact Us.h; exact rfl; exact Sz.h; exact rfl)) rfl ?_; refine Jcp 14 rfl (by kernel_rfl) (by kernel_rfl) (by kernel_rfl) (fun _ _ _ h => h) hE rfl rfl rfl (by exact Pu_load Fl.h rfl (fun _ e => Ext.cell e (hbr.ld rfl))) rfl ?_)
    refine TA_one 12 (by kernel_rfl) rfl ?_
    refine Jch rfl rfl rfl ?_
    refine TL_call rfl en44 (implFound_c (hx.rd.ext hE) hDc.fitsD hdt) rfl rfl ?_
    rintro v9 w18 ⟨e, hfd⟩
    rw [hfnd] at hfd
    replace hE := hE.ext e
    refine Jbq (TN_any hE ?_)
    clear e
    refine TA_one 15 (by kernel_rfl) rfl ?_
    refine Jch rfl rfl rfl ?_
    refine TL_call rfl en38 (sameEntries_c hfd.rd (hg.2.ext hE) hlnr) rfl rfl ?_
    rintro _ w19 ⟨rfl, e⟩
    replace hE := hE.ext e
    refine Jbq (TN_any hE ?_)
    clear e
    (refine Jcp 16 rfl (by kernel_rfl) (by kernel_rfl) (by kernel_rfl) (fun _ _ _ h => h) hE rfl rfl rfl (by exact Jaj rfl) rfl ?_; refine Jco 17 rfl (by kernel_rfl) (by kernel_rfl) (by kernel_rfl) (fun _ _ _ h => h) hE (by exact Jai rfl rfl) rfl ?_; refine Jco 18 rfl (by kernel_rfl) (by kernel_rfl) (by kernel_rfl) (fun _ _ _ h => h) hE (by exact Jaa rfl) rfl ?_; refine Jcp 19 rfl (by kernel_rfl) (by kernel_rfl) (by kernel_rfl) (fun _ _ _ h => h) hE rfl rfl rfl (by exact Pu_loadAgg (cs := stoC B sn4 sk4 st4 sl4) Us.h rfl Sz.h rfl (fun _ e j u hu => Ext.cell e (by rw [add0, hbb.cell]; exact hu))) rfl ?_)
    refine TA_one 20 (by kernel_rfl) rfl ?_
    refine Jch rfl rfl rfl ?_
    refine TL_call rfl en39 (implStoreOk_c (hlo.ext hE) hLb.fitsS hLb.tot) rfl rfl ?_
    rintro _ w20 ⟨rfl, e⟩
    rw [pSOk_yes hLb.ok]
    replace hE := hE.ext e
    refine Jbq (TN_any hE ?_)
    clear e
    (refine Jcp 21 rfl (by kernel_rfl) (by kernel_rfl) (by kernel_rfl) (fun _ _ _ h => h) hE rfl rfl rfl (by exact Jaj rfl) rfl ?_; refine Jco 22 rfl (by kernel_rfl) (by kernel_rfl) (by kernel_rfl) (fun _ _ _ h => h) hE (by exact Jai rfl rfl) rfl ?_)
    refine TA_done (by kernel_rfl) ?_
    repeat' (first | apply Jbr | apply Jbz | (refine Jcf rfl ?_))
    exact TN_join () (subEnv_cons rfl (subEnv_cons rfl (subEnv_cons rfl (subEnv_cons rfl (subEnv_cons rfl (subEnv_nil _)))))) hE
  rintro _ w22 e
  clear hbb
  clear hy
  clear hbd
  clear hx
  replace hs := hs.ext e
  replace hbs := hbs.ext e
  replace hg := hg.ext e
  replace hbr := hbr.ext e
  replace E := E.ext e
  have z22 := e.size
  clear e
  rcases hcase with ⟨h0, hl1⟩ | ⟨h0, hl1⟩
  rotate_left
  · repeat' (first | apply Jbq | apply Jbr | apply Jbs | apply Jbt | (apply Jcg; (first | exact Jaa rfl | exact Jal rfl rfl); exact rfl))
    refine Jcy rfl (fun hq => ?_) (fun hq => absurd hq h0)
    have hg2 := hg.2.eq hl1
    repeat' (first | apply Jbs | apply Jbt | (apply Jcg; (apply Jbl; exact Us.h; exact rfl; exact Sz.h; exact rfl); exact rfl) | refine Jcg (Pu_load Fl.h rfl (fun _ e => by rw [e]; exact hbr.ld rfl)) rfl ?_ | refine Jcg (Pu_load Fl.h rfl (fun _ e => by rw [e]; exact hbs.ld rfl)) rfl ?_)
    refine TL_call rfl en38 (sameEntries_c hg2 hs.2 hln) rfl rfl ?_
    rintro _ w23 ⟨rfl, e⟩
    replace hs := hs.ext e
    replace hbs := hbs.ext e
    replace hg := hg.ext e
    replace hbr := hbr.ext e
    replace E := E.ext e
    have z23 := e.size
    clear e
    repeat' (first | apply Jbq | apply Jbr | apply Jbu | apply Jbv | (apply Jcg; exact Jab rfl; exact rfl))
    exact TR_of (res1 rfl rfl) ⟨rfl, E⟩
  repeat' (first | apply Jbq | apply Jbr | apply Jbs | apply Jbt | (apply Jcg; (first | exact Jaa rfl | exact Jal rfl rfl); exact rfl))
  refine Jcy rfl (fun hq => absurd h0 hq) (fun _ => ?_)
  have hlen : (r.list.length : Int) = s.list.length + 1 := by rw [hl1, List.length_append]; simp
  obtain ⟨hgD, A9, c9, heq9, hcc9, hrr⟩ := hg
  injection heq9 with q1 q2 q3
  subst q1 q3
  have hlt : r.list.length - 1 < r.list.length := by omega
  obtain ⟨ad, rfl, hcell⟩ := Rd.elem entC_len hrr hlt
  have hlast : r.list[r.list.length - 1] = (pNext s.list, t) := by
    have h9 : r.list.length - 1 = s.list.length := by omega
    simp only [hl1] at h9 ⊢
    rw [List.getElem_append_right (by omega)]
    simp
  rw [hlast] at hcell
  have hcl' : ∀ w', Ext w22 w' → ∀ j u, (entC (pNext s.list, t))[j]? = some u → w'.cell? ((ad.add (((r.list.length : Int) - 1).toNat * 2)).add j) = some u := fun w' e j u hu => e.cell (by rw [show ((r.list.length : Int) - 1).toNat = r.list.length - 1 by omega]; exact hcell j u hu)
  repeat' (first | apply Jbq | apply Jbr | apply Jbs | apply Jbt | apply Jbz | (apply Jcg; (first | exact Jab rfl | exact Jac Us.h rfl | (apply Jbl; exact Us.h; exact rfl; exact Sz.h; exact rfl)); exact rfl) | refine Jcg (Pu_load Fl.h rfl (fun _ e => by rw [e]; exact hbr.ld rfl)) rfl ?_)
  refine TC_any mixed rfl ?_
  intro wz hE hzz
  (refine Jco 0 rfl (by kernel_rfl) (by kernel_rfl) (by kernel_rfl) (fun _ _ _ h => h) hE (by exact Jaa rfl) rfl ?_; refine Jco 1 rfl (by kernel_rfl) (by kernel_rfl) (by kernel_rfl) (fun _ _ _ h => h) hE (by (apply Jbl; exact Us.h; exact rfl; exact Sz.h; exact rfl)) rfl ?_; refine Jco 2 rfl (by kernel_rfl) (by kernel_rfl) (by kernel_rfl) (fun _ _ _ h => h) hE (by exact Pu_load Fl.h rfl (fun _ e => Ext.cell e (hbs.ld rfl))) rfl ?_; refine Jco 3 rfl (by kernel_rfl) (by kernel_rfl) (by kernel_rfl) (fun _ _ _ h => h) hE (by exact Jac Us.h rfl) rfl ?_; refine Jco 4 rfl (by kernel_rfl) (by kernel_rfl) (by kernel_rfl) (fun _ _ _ h => h) hE (by exact Jaf rfl rfl (by omega)) rfl ?_; refine Jco 5 rfl (by kernel_rfl) (by kernel_rfl) (by kernel_rfl) (fun _ _ _ h => h) hE (by exact Pu_eqlY rfl rfl hlen) rfl ?_; refine Jco 6 rfl (by kernel_rfl) (by kernel_rfl) (by kernel_rfl) (fun _ _ _ h => h) hE (by exact Jaa rfl) rfl ?_; refine Jcp 7 rfl (by kernel_rfl) (by kernel_rfl) (by kernel_rfl) (fun _ _ _ h => h) hE rfl rfl rfl (by (apply Jbl; exact Us.h; exact rfl; exact Sz.h; exact rfl)) rfl ?_; refine Jcp 8 rfl (by kernel_rfl) (by kernel_rfl) (by kernel_rfl) (fun _ _ _ h => h) hE rfl rfl rfl (by exact Pu_load Fl.h rfl (fun _ e => Ext.cell e (hbr.ld rfl))) rfl ?_; refine Jcp 9 rfl (by kernel_rfl) (by kernel_rfl) (by kernel_rfl) (fun _ _ _ h => h) hE rfl rfl rfl (by exact Jaa rfl) rfl ?_; refine Jcp 10 rfl (by kernel_rfl) (by kernel_rfl) (by kernel_rfl) (fun _ _ _ h => h) hE rfl rfl rfl (by exact Jap rfl rfl (by omega)) rfl ?_; refine Jcp 11 rfl (by kernel_rfl) (by kernel_rfl) (by kernel_rfl) (fun _ _ _ h => h) hE rfl rfl rfl (by exact Jar Us.h Sz.h rfl rfl (by omega)) rfl ?_; refine Jcp 12 rfl (by kernel_rfl) (by kernel_rfl) (by kernel_rfl) (fun _ _ _ h => h) hE rfl rfl rfl (by exact Pu_loadAgg (cs := entC (pNext s.list, t)) Us.h rfl Sz.h rfl hcl') rfl ?_; refine Jcp 13 rfl (by kernel_rfl) (by kernel_rfl) (by kernel_rfl) (fun _ _ _ h => h) hE rfl rfl rfl (by exact Pu_loadAgg (cs := stoC s sn sk st (.slice As s.list.length cs)) Us.h rfl Sz.h rfl (fun _ e j u hu => Ext.cell e (by rw [add0, hbs.cell]; exact hu))) rfl ?_; refine Jcp 15 rfl (by kernel_rfl) (by kernel_rfl) (by kernel_rfl) (fun _ _ _ h => h) hE rfl rfl rfl (by exact Jaa rfl) rfl ?_)
  refine TA_one 14 (by kernel_rfl) rfl ?_
  refine Jch rfl rfl rfl ?_
  refine TL_call rfl en45 (implNextNum_c (hs.ext hE) hL.tot) rfl rfl ?_
  rintro _ w23 ⟨rfl, e⟩
  replace hE := hE.ext e
  refine Jbq (TN_any hE ?_)
  clear e
  (refine Jcp 16 rfl (by kernel_rfl) (by kernel_rfl) (by kernel_rfl) (fun _ _ _ h => h) hE rfl rfl rfl (by exact Pu_build (cs := entC (pNext s.list, t)) rfl (by kernel_rfl)) rfl ?_; refine Jcp 17 rfl (by kernel_rfl) (by kernel_rfl) (by kernel_rfl) (fun _ _ _ h => h) hE rfl rfl rfl (by exact Pu_eqlE rfl rfl) rfl ?_; refine Jco 18 rfl (by kernel_rfl) (by kernel_rfl) (by kernel_rfl) (fun _ _ _ h => h) hE (by exact Jah rfl rfl) rfl ?_; refine Jco 19 rfl (by kernel_rfl) (by kernel_rfl) (by kernel_rfl) (fun _ _ _ h => h) hE (by exact Jab rfl) rfl ?_)
  refine TA_done (by kernel_rfl) ?_
  repeat' (first | apply Jbr | apply Jbu)
  exact TR_of (res1 rfl rfl) ⟨rfl, E.ext hE⟩
end
theorem own : ownKnob Tryz.prog.godebug = none := by kernel_rfl
theorem laidOut : laidOutB Tryz.prog = true := by kernel_rfl
set_option maxRecDepth 100000 in
theorem lifted (os : Os) (started : os.Started) (H : Type) (enc : TypeId × Value → H) :
    ReturnsInHanded {} Tryz.checked os 7 .any (Rows.fnSafeSpec.pre6 enc Tryz.prog Tryz.f7 Rows.fnSafeRow.domain false) (Rows.fnSafeSpec.post enc Tryz.prog Tryz.f7 false true false false) := by
  refine returnsInHanded_of_change (C := Tryz.checked) own started (by kernel_rfl) Tryz.func7
    (ChangeSpec.witness6 (enc := enc) (C := Tryz.checked) false ⟨#[], #[.slice none 0 0], []⟩ 8 (by kernel_rfl) (by kernel_rfl) (by kernel_rfl) (by kernel_rfl)) ?_
  intro W base args ds gs before hval0 hW hcnd _
  have hval : ∀ (j : Nat) t v, Tryz.f7.params[j]? = some t → args[j]? = some v → Value.okWide Tryz.prog W .any base t v := hval0
  have hW' := hW
  obtain ⟨p, q, hA0, hV, rfl, hfz, hnd⟩ := hW
  have hA : DataW.TrodAll enc Tryz.prog W 0 (fun _ => true) true Tryz.f7.params.toList args.toList ds p := hA0
  rw [Tryz.params7] at hA hval
  obtain ⟨v0, vs0, d0, ds0, p0, q0, hargs, rfl, rfl, h0, r0⟩ := trodAll_cons hA
  obtain ⟨rfl, rfl, rfl⟩ := trodAll_nil r0
  obtain rfl : args = #[v0] := by cases args; simp_all
  obtain ⟨rfl, rfl⟩ := trodVars_none hV
  have k0 := h0
  have lt0 : ∀ x ∈ p0, x.block < W.heap.size := by obtain ⟨m, hm⟩ := k0; exact DataW.trod_lt m _ _ _ hm
  obtain ⟨a0, len0, cap0, rfl⟩ := okWide_slice Tryz.underlying43 (hval 0 43 v0 rfl rfl)
  obtain ⟨fuel0, hf0⟩ := h0
  obtain ⟨A0, c0, code, e0, b0, m0, R0⟩ := arg_bytes Tryz.underlying43 Tryz.underlying5 (by kernel_rfl) hf0
  clear hA0 hval0
  have hc := law_c code W ⟨_, _, rfl, b0, R0⟩ (by omega)
  have hc : Calls Tryz.prog 7 _ W _ := hc
  rw [← e0] at hc
  refine hc.mono fun e W' ⟨v, he, hv, hx⟩ => ?_
  subst hv
  subst he
  have bel := Ch.below hx
  exact ⟨_, rfl, _, _, _, [], _, [], hW', trodAll_mk1 (shut_bool Tryz.underlying4 _), (trodAll_cons_mk (Below.trod laidOut (by kernel_rfl) (of_decide_eq_true (by kernel_rfl)) k0 bel lt0) trodAll_mk0), rfl, bel.frame _, fun h => by cases h⟩
theorem over : Rows.fnSafeRow.holds Tryz.pinned (OpenSpec.ofChange Rows.fnSafeSpec) :=
  OpenClaim.holds_of_wide 7 Tryz.f7 rfl rfl rfl rfl rfl rfl rfl ⟨rfl, rfl, rfl, rfl, rfl⟩ rfl rfl rfl rfl rfl (by kernel_rfl) Tryz.func7 (by kernel_rfl)
    (of_decide_eq_true (by kernel_rfl)) (by unfold Func.isWrapper; first | (rw [if_pos (by decide +kernel)]; kernel_rfl) | (rw [if_neg (by decide +kernel)]; exact ⟨rfl, rfl⟩))
    (fun os started H enc _ => lifted os started H enc)
theorem proved : Rows.FnSafeSaid := over
#print axioms proved
end Go.Proofs.YtggaghghclomkaaGreat.FnSafeP
