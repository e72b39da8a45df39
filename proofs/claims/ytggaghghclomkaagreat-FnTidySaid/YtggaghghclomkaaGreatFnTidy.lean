/- FnTidy: the law answers true for every input and leaves its arguments as they were. Conditions: none but those of the given row. -/
import Derived.Test.YtggaghghclomkaaGreatQFT8n
import Derived.Test.YtggaghghclomkaaGreatRows
namespace Go.Proofs.YtggaghghclomkaaGreat.FnTidyP
open Go.RowKit Go.ChangeShapes Go.WideShapes Go.ChangeAt Go.Deep
open Go.ChangeMaps (open_string shut_string)
section
attribute [local irreducible] TL TC TN TX TR TQ TA Pu Ret
set_option maxRecDepth 100000 in
set_option maxHeartbeats 16000000 in
theorem law_c {v : Value} (code : List UInt8) (W : World) (p : RB W 0 W.heap.size v code) (bl : code.length ≤ 9223372036854775807) : Ret Tryz.prog 9 #[v] W fun v' w' => v' = .bool true ∧ Ext W w' := by
  refine Ret_enter Tryz.func9 rfl rfl rfl ?_
  have p0 := p
  obtain ⟨A, c, rfl, hc, _⟩ := p0
  repeat' (first | apply Jbq | apply Jbr | apply Jbs | apply Jbt | (apply Jcg; (first | exact Jaa rfl | exact Jab rfl | exact Jac Us.h rfl | exact Jam rfl rfl); exact rfl))
  refine Jcx rfl (fun hb => ?_) (fun hb => ?_)
  · repeat' (first | apply Jbq | apply Jbr | apply Jbs | apply Jbt | apply Jbu | apply Jbv | (apply Jcg; exact Jab rfl; exact rfl))
    exact TR_of (res1 rfl rfl) ⟨rfl, Ch.refl _ _⟩
  have hn : code.length ≤ 1048576 := by omega
  repeat' (first | apply Jbr | apply Jbs | apply Jbt | apply Jbz | (apply Jcg; exact Jaa rfl; exact rfl))
  refine TL_call rfl en40 (MakeStore_c p hn) rfl rfl ?_
  rintro _ w1 ⟨s, t, sn, sk, st, sl, rfl, hL, ht, E, hs⟩
  have z1 := E.size
  obtain ⟨As, cs, rfl⟩ : ∃ A c, sl = .slice A s.list.length c := by obtain ⟨_, A, c, h, _⟩ := hs; exact ⟨A, c, h⟩
  have ones := hs.one
  have htot := hL.tot
  have hln := (totS_parts htot).2
  repeat' ((apply Jcg; (first | exact Jaa rfl | exact Jae rfl rfl); exact rfl))
  refine TL_alloc Zs.h rfl rfl ?_
  intro w2 gs e hghbs hzhbs hbs
  replace hs := hs.ext e
  replace E := E.ext e
  have z2 := e.size
  clear e
  have hlthbs := hbs.lt
  skip
  refine TL_storeAgg rfl rfl Sz.h ones hbs rfl ?_
  clear hbs
  intro w3 c hzz hbs
  replace hs := hs.ch c (by intro k _ _; simp only [Iv]; omega)
  replace E : Ext W _ := Ext.then_iv E c (by omega)
  have z3 := c.size
  clear c
  repeat' (first | apply Jbq | apply Jbr | apply Jbs | apply Jbt | (apply Jcg; (first | exact Jaa rfl | exact Jab rfl); exact rfl))
  refine TL_call rfl en41 (MakeCut_c (p.ext E) hn) rfl rfl ?_
  rintro _ w4 ⟨tn, cuts, vc, rfl, ht0, hcl, e, hcu⟩
  replace hs := hs.ext e
  replace hbs := hbs.ext e
  replace E := E.ext e
  have z4 := e.size
  clear e
  repeat' (first | apply Jbq | apply Jbr | (apply Jcg; (first | exact Jaa rfl | exact Jab rfl | exact Jae rfl rfl); exact rfl))
  refine TC_join (ι := Int × Value × Value × Value × Nat × Nat × Nat) (fun x => [(0, .slice A code.length c), (3, .pointer (some ⟨gs, 0, none⟩)), (4, S t), (5, I tn), (6, vc), (7, .pointer (some ⟨x.2.2.2.2.1, 0, none⟩)), (8, .bool true)]) (fun x w' => (-1 ≤ x.1 ∧ x.1 ≤ 7) ∧ Ext w4 w' ∧ Blk w' x.2.2.2.2.1 33 (dskC (withFuse s.disk x.1) x.2.1 x.2.2.1 x.2.2.2.1) ∧ ODk w' x.2.2.2.2.2.1 x.2.2.2.2.2.2 (withFuse s.disk x.1) x.2.1 x.2.2.1 x.2.2.2.1 ∧ w4.heap.size ≤ x.2.2.2.2.2.1 ∧ w4.heap.size ≤ x.2.2.2.2.1 ∧ (x.2.2.2.2.2.2 ≤ x.2.2.2.2.1 ∨ x.2.2.2.2.1 < x.2.2.2.2.2.1)) ?_ ?_
  · skip
    refine TC_any mixed rfl ?_
    intro wz hE hzz
    have hsz := hE.size
    have hld : ∀ w', Ext w4 w' → ∀ j u, (dskC s.disk sn sk st)[j]? = some u → w'.cell? (((⟨gs, 0, none⟩ : Addr).add 0).add j) = some u := fun w' e j u hu => e.cell (blk_disk hbs rfl j u hu)
    (refine Jco 0 rfl (by kernel_rfl) (by kernel_rfl) (by kernel_rfl) (fun _ _ _ h => h) hE (by (apply Jbl; exact Us.h; exact rfl; exact Sz.h; exact rfl)) rfl ?_; refine Jco 1 rfl (by kernel_rfl) (by kernel_rfl) (by kernel_rfl) (fun _ _ _ h => h) hE (by exact Pu_loadAgg (cs := dskC s.disk sn sk st) Us.h rfl Sz.h rfl hld) rfl ?_; refine Jco 2 rfl (by kernel_rfl) (by kernel_rfl) (by kernel_rfl) (fun _ _ _ h => h) hE (by exact Jaa rfl) rfl ?_)
    refine TA_two 3 9 (by kernel_rfl) rfl rfl ?_ ?_
    · refine TL_call rfl en47 (MakeNum_c (n := 9) (p.ext (E.ext hE)) hn (by omega)) rfl rfl ?_
      rintro _ wa ⟨n, rfl, hn0, hn1, _, e⟩
      have hn1 := hn1 (by omega)
      have hsa := e.size
      replace hE := hE.ext e
      clear e
      refine Jbq (TN_any hE ?_)
      (refine Jco 4 rfl (by kernel_rfl) (by kernel_rfl) (by kernel_rfl) (fun _ _ _ h => h) hE (by exact Jap rfl rfl (by omega)) rfl ?_)
      refine TA_two 5 9 (by kernel_rfl) rfl rfl ?_ ?_
      · refine TL_call rfl en46 (implDiskFuse_c (f := (n - 1)) (hs.1.ext hE) hL.ok.disk.fitsD (by have := hL.ok.disk.totD; omega) (by omega)) rfl rfl ?_
        rintro _ wb ⟨sn9, sk9, st9, rfl, e, hx⟩
        have hDf : DOk (withFuse s.disk (n - 1)) := hL.ok.disk.withF (by omega)
        rw [pIf_yes (pDOk_yes hL.ok.disk) (pDOk_yes hDf)] at hx ⊢
        simp only at hx ⊢
        have one9 := hx.one
        have hsb := e.size
        replace hE := hE.ext e
        clear e
        refine Jbq (TN_any hE ?_)
        (refine Jco 6 rfl (by kernel_rfl) (by kernel_rfl) (by kernel_rfl) (fun _ _ _ h => h) hE (by exact Jaa rfl) rfl ?_; refine Jco 7 rfl (by kernel_rfl) (by kernel_rfl) (by kernel_rfl) (fun _ _ _ h => h) hE (by exact Jae rfl rfl) rfl ?_; refine Jco 8 rfl (by kernel_rfl) (by kernel_rfl) (by kernel_rfl) (fun _ _ _ h => h) hE (by exact Jae rfl rfl) rfl ?_)
        refine TA_one 9 (by kernel_rfl) rfl ?_
        refine TL_alloc Zs.h rfl rfl ?_
        intro wc gd e hgd hzd hbd
        have hlgd := hbd.lt
        have hsc := e.size
        replace hE := hE.ext e
        replace hx := hx.ext e
        clear e
        refine Jbq (TN_any hE ?_)
        refine TA_one 10 (by kernel_rfl) rfl ?_
        refine TL_storeAgg rfl rfl Sz.h one9 hbd rfl ?_
        clear hbd
        intro wd cd hzd2 hbd
        replace hE := Ext.then_iv hE cd (by omega)
        refine Jbq (TN_any hE ?_)
        (refine Jco 11 rfl (by kernel_rfl) (by kernel_rfl) (by kernel_rfl) (fun _ _ _ h => h) hE (by exact Jab rfl) rfl ?_)
        refine TA_done (by kernel_rfl) ?_
        exact TN_join ((n - 1), sn9, sk9, st9, gd, wa.heap.size, wb.heap.size) (subEnv_cons rfl (subEnv_cons rfl (subEnv_cons rfl (subEnv_cons rfl (subEnv_cons rfl (subEnv_cons rfl (subEnv_cons rfl (subEnv_nil _)))))))) ⟨by simp only; omega, hE, hbd, hx.ch cd (by intro k _ _; simp only [Iv]; omega), by simp only; omega, by simp only; omega, by simp only; omega⟩
      · refine TL_alloc Zs.h rfl rfl ?_
        intro wc gd e hgd hzd hbd
        have hlgd := hbd.lt
        have hsc := e.size
        replace hE := hE.ext e
        clear e
        refine Jbq (TN_any hE ?_)
        refine TA_one 5 (by kernel_rfl) rfl ?_
        refine TL_call rfl en46 (implDiskFuse_c (f := (n - 1)) (hs.1.ext hE) hL.ok.disk.fitsD (by have := hL.ok.disk.totD; omega) (by omega)) rfl rfl ?_
        rintro _ wb ⟨sn9, sk9, st9, rfl, e, hx⟩
        have hDf : DOk (withFuse s.disk (n - 1)) := hL.ok.disk.withF (by omega)
        rw [pIf_yes (pDOk_yes hL.ok.disk) (pDOk_yes hDf)] at hx ⊢
        simp only at hx ⊢
        have one9 := hx.one
        have hsb := e.size
        replace hE := hE.ext e
        replace hbd := hbd.ext e
        clear e
        refine Jbq (TN_any hE ?_)
        (refine Jco 6 rfl (by kernel_rfl) (by kernel_rfl) (by kernel_rfl) (fun _ _ _ h => h) hE (by exact Jaa rfl) rfl ?_; refine Jco 7 rfl (by kernel_rfl) (by kernel_rfl) (by kernel_rfl) (fun _ _ _ h => h) hE (by exact Jae rfl rfl) rfl ?_; refine Jco 8 rfl (by kernel_rfl) (by kernel_rfl) (by kernel_rfl) (fun _ _ _ h => h) hE (by exact Jae rfl rfl) rfl ?_)
        refine TA_one 10 (by kernel_rfl) rfl ?_
        refine TL_storeAgg rfl rfl Sz.h one9 hbd rfl ?_
        clear hbd
        intro wd cd hzd2 hbd
        replace hE := Ext.then_iv hE cd (by omega)
        refine Jbq (TN_any hE ?_)
        (refine Jco 11 rfl (by kernel_rfl) (by kernel_rfl) (by kernel_rfl) (fun _ _ _ h => h) hE (by exact Jab rfl) rfl ?_)
        refine TA_done (by kernel_rfl) ?_
        exact TN_join ((n - 1), sn9, sk9, st9, gd, wc.heap.size, wb.heap.size) (subEnv_cons rfl (subEnv_cons rfl (subEnv_cons rfl (subEnv_cons rfl (subEnv_cons rfl (subEnv_cons rfl (subEnv_cons rfl (subEnv_nil _)))))))) ⟨by simp only; omega, hE, hbd, hx.ch cd (by intro k _ _; simp only [Iv]; omega), by simp only; omega, by simp only; omega, by simp only; omega⟩
    · refine TL_alloc Zs.h rfl rfl ?_
      intro wc gd e hgd hzd hbd
      have hlgd := hbd.lt
      have hsc := e.size
      replace hE := hE.ext e
      clear e
      refine Jbq (TN_any hE ?_)
      refine TA_one 3 (by kernel_rfl) rfl ?_
      refine TL_call rfl en47 (MakeNum_c (n := 9) (p.ext (E.ext hE)) hn (by omega)) rfl rfl ?_
      rintro _ wa ⟨n, rfl, hn0, hn1, _, e⟩
      have hn1 := hn1 (by omega)
      have hsa := e.size
      replace hE := hE.ext e
      replace hbd := hbd.ext e
      clear e
      refine Jbq (TN_any hE ?_)
      (refine Jco 4 rfl (by kernel_rfl) (by kernel_rfl) (by kernel_rfl) (fun _ _ _ h => h) hE (by exact Jap rfl rfl (by omega)) rfl ?_)
      refine TA_one 5 (by kernel_rfl) rfl ?_
      refine TL_call rfl en46 (implDiskFuse_c (f := (n - 1)) (hs.1.ext hE) hL.ok.disk.fitsD (by have := hL.ok.disk.totD; omega) (by omega)) rfl rfl ?_
      rintro _ wb ⟨sn9, sk9, st9, rfl, e, hx⟩
      have hDf : DOk (withFuse s.disk (n - 1)) := hL.ok.disk.withF (by omega)
      rw [pIf_yes (pDOk_yes hL.ok.disk) (pDOk_yes hDf)] at hx ⊢
      simp only at hx ⊢
      have one9 := hx.one
      have hsb := e.size
      replace hE := hE.ext e
      replace hbd := hbd.ext e
      clear e
      refine Jbq (TN_any hE ?_)
      (refine Jco 6 rfl (by kernel_rfl) (by kernel_rfl) (by kernel_rfl) (fun _ _ _ h => h) hE (by exact Jaa rfl) rfl ?_; refine Jco 7 rfl (by kernel_rfl) (by kernel_rfl) (by kernel_rfl) (fun _ _ _ h => h) hE (by exact Jae rfl rfl) rfl ?_; refine Jco 8 rfl (by kernel_rfl) (by kernel_rfl) (by kernel_rfl) (fun _ _ _ h => h) hE (by exact Jae rfl rfl) rfl ?_)
      refine TA_one 10 (by kernel_rfl) rfl ?_
      refine TL_storeAgg rfl rfl Sz.h one9 hbd rfl ?_
      clear hbd
      intro wd cd hzd2 hbd
      replace hE := Ext.then_iv hE cd (by omega)
      refine Jbq (TN_any hE ?_)
      (refine Jco 11 rfl (by kernel_rfl) (by kernel_rfl) (by kernel_rfl) (fun _ _ _ h => h) hE (by exact Jab rfl) rfl ?_)
      refine TA_done (by kernel_rfl) ?_
      exact TN_join ((n - 1), sn9, sk9, st9, gd, wa.heap.size, wb.heap.size) (subEnv_cons rfl (subEnv_cons rfl (subEnv_cons rfl (subEnv_cons rfl (subEnv_cons rfl (subEnv_cons rfl (subEnv_cons rfl (subEnv_nil _)))))))) ⟨by simp only; omega, hE, hbd, hx.ch cd (by intro k _ _; simp only [Iv]; omega), by simp only; omega, by simp only; omega, by simp only; omega⟩
  rintro ⟨f, sn9, sk9, st9, gd, lo9, hi9⟩ w5 ⟨hf, e, hbd, hx, hlo9, hgd9, hap9⟩
  simp only at hf hbd hx hlo9 hgd9 hap9
  replace hs := hs.ext e
  replace hbs := hbs.ext e
  replace hcu := hcu.ext e
  replace E := E.ext e
  have z5 := e.size
  clear e
  have hhi9 := hx.1
  have hltd := hbd.lt
  obtain ⟨s', hs'⟩ : ∃ s', s' = { s with disk := withFuse s.disk f } := ⟨_, rfl⟩
  have hS' : SOk s' := by rw [hs']; exact hL.fused (by omega)
  have hF' : s'.fits := by rw [hs']; exact hL.fusedFits (by omega)
  have hT' : totS s' ≤ 1048576 := by rw [hs']; exact hL.fusedTot f
  have oned := hx.one
  repeat' (first | apply Jbq | apply Jbr | apply Jbs | apply Jbt | apply Jbz | (refine Jcf rfl ?_) | (apply Jcg; (first | exact Jaa rfl | exact Jaj rfl | (apply Jbl; exact Us.h; exact rfl; exact Sz.h; exact rfl)); exact rfl) | refine Jcg (Pu_loadAgg (cs := dskC (withFuse s.disk f) sn9 sk9 st9) Us.h rfl Sz.h rfl (fun _ e j u hu => by rw [e, add0, hbd.cell]; exact hu)) rfl ?_)
  refine TL_storeBlk rfl (add0 gs 0) rfl Sz.h oned hbs (by show 0 + 6 ≤ 10; omega) ?_
  clear hbs
  intro w6 c hzz hbs
  replace hbs : Blk w6 gs 66 (stoC s' sn9 sk9 st9 (.slice As s.list.length cs)) := by rw [hs']; exact hbs
  replace hs := hs.ch c (by intro k _ _; simp only [Iv]; omega)
  replace hcu := hcu.ch c (by intro k _ _; simp only [Iv]; omega)
  replace hbd := hbd.ch c (by simp only [Iv]; omega)
  replace hx := hx.ch c (by intro k _ _; simp only [Iv]; omega)
  replace E : Ext W _ := Ext.then_iv E c (by omega)
  have z6 := c.size
  clear c
  have hdr : s'.disk = withFuse s.disk f := by rw [hs']
  have hlr : s'.list = s.list := by rw [hs']
  have hkp : s'.keep = s.keep := by rw [hs']
  have hsz' : s'.size = s.size := by rw [hs']
  have hlq : s'.len = s.len := by rw [hs']
  clear hbd
  have hlaw := tidy_cut hL (f := f) (by omega) hs' tn cuts
  obtain ⟨r, hr⟩ : ∃ r, r = (pTidy s').1 := ⟨_, rfl⟩
  obtain ⟨c1, hc1⟩ : ∃ r, r = (pTidy s').2 := ⟨_, rfl⟩
  rw [← hr, ← hc1] at hlaw
  obtain ⟨hDr, hc1n, hDc, hhist, hent, hkeep, hcase⟩ := hlaw
  have hr' : RSt w6 0 w6.heap.size s' sn9 sk9 st9 (.slice As s.list.length cs) := ⟨by rw [hdr]; exact (hx.rd).wide (by omega) (by have := hx.1; omega) (Nat.le_refl _), by rw [hlr]; exact hs.2.wide (by omega) (by omega) (Nat.le_refl _)⟩
  repeat' (first | apply Jbq | apply Jbr | apply Jbs | apply Jbt | refine Jcg (Pu_loadAgg (cs := stoC s' sn9 sk9 st9 (.slice As s.list.length cs)) Us.h rfl Sz.h rfl (fun _ e j u hu => by rw [e, add0, hbs.cell]; exact hu)) rfl ?_)
  refine TL_call rfl en48 (implTidy_c hr' hF' hT' hS') rfl rfl ?_
  rintro _ w7 ⟨sn1, sk1, st1, sl1, rfl, e, hg⟩
  clear hr'
  rw [← hr] at hg ⊢
  rw [← hc1]
  have oner := hg.one
  obtain ⟨Ar, kr, rfl⟩ : ∃ A c, sl1 = .slice A r.list.length c := by obtain ⟨_, A, c, h, _⟩ := hg.rd; exact ⟨A, c, h⟩
  replace hs := hs.ext e
  replace hcu := hcu.ext e
  replace hx := hx.ext e
  replace hbs := hbs.ext e
  replace E := E.ext e
  have z7 := e.size
  clear e
  repeat' ((apply Jcg; (first | exact Jaa rfl | exact Jae rfl rfl); exact rfl))
  refine TL_alloc Zs.h rfl rfl ?_
  intro w8 gr e hghbr hzhbr hbr
  replace hs := hs.ext e
  replace hcu := hcu.ext e
  replace hx := hx.ext e
  replace hbs := hbs.ext e
  replace hg := hg.ext e
  replace E := E.ext e
  have z8 := e.size
  clear e
  have hlthbr := hbr.lt
  skip
  refine TL_storeAgg rfl rfl Sz.h oner hbr rfl ?_
  clear hbr
  intro w9 c hzz hbr
  replace hs := hs.ch c (by intro k _ _; simp only [Iv]; omega)
  replace hcu := hcu.ch c (by intro k _ _; simp only [Iv]; omega)
  replace hx := hx.ch c (by intro k _ _; simp only [Iv]; omega)
  replace hbs := hbs.ch c (by simp only [Iv]; omega)
  replace hg := hg.ch c (by intro k _ _; simp only [Iv]; omega)
  replace E : Ext W _ := Ext.then_iv E c (by omega)
  have z9 := c.size
  clear c
  have hr' : RSt w9 0 w9.heap.size s' sn9 sk9 st9 (.slice As s.list.length cs) := ⟨by rw [hdr]; exact (hx.rd).wide (by omega) (by have := hx.1; omega) (Nat.le_refl _), by rw [hlr]; exact hs.2.wide (by omega) (by omega) (Nat.le_refl _)⟩
  repeat' (first | apply Jbq | apply Jbr | apply Jbs | apply Jbt | (apply Jcg; exact Jab rfl; exact rfl) | refine Jcg (Pu_loadAgg (cs := stoC s' sn9 sk9 st9 (.slice As s.list.length cs)) Us.h rfl Sz.h rfl (fun _ e j u hu => by rw [e, add0, hbs.cell]; exact hu)) rfl ?_)
  refine TL_call rfl en49 (specTidy_c hr' hF' hT' hS') rfl rfl ?_
  rintro _ w10 ⟨sn2, sk2, st2, sl2, rfl, e, hg2⟩
  clear hr'
  rw [← hr] at hg2 ⊢
  rw [← hc1]
  have one2 := hg2.one
  replace hs := hs.ext e
  replace hcu := hcu.ext e
  replace hx := hx.ext e
  replace hbs := hbs.ext e
  replace hg := hg.ext e
  replace hbr := hbr.ext e
  replace E := E.ext e
  have z10 := e.size
  clear e
  repeat' ((apply Jcg; (first | exact Jaa rfl | exact Jae rfl rfl); exact rfl))
  refine TL_alloc Zs.h rfl rfl ?_
  intro w11 g2 e hghb2 hzhb2 hb2
  replace hs := hs.ext e
  replace hcu := hcu.ext e
  replace hx := hx.ext e
  replace hbs := hbs.ext e
  replace hg := hg.ext e
  replace hbr := hbr.ext e
  replace E := E.ext e
  have z11 := e.size
  clear e
  have hlthb2 := hb2.lt
  skip
  refine TL_storeAgg rfl rfl Sz.h one2 hb2 rfl ?_
  clear hb2
  intro w12 c hzz hb2
  replace hs := hs.ch c (by intro k _ _; simp only [Iv]; omega)
  replace hcu := hcu.ch c (by intro k _ _; simp only [Iv]; omega)
  replace hx := hx.ch c (by intro k _ _; simp only [Iv]; omega)
  replace hbs := hbs.ch c (by simp only [Iv]; omega)
  replace hg := hg.ch c (by intro k _ _; simp only [Iv]; omega)
  replace hbr := hbr.ch c (by simp only [Iv]; omega)
  replace E : Ext W _ := Ext.then_iv E c (by omega)
  have z12 := c.size
  clear c
  clear hb2
  clear hg2
  obtain ⟨hc0, hLb, hlb⟩ := open_crash (k := s'.keep) (z := s'.size) hDc hhist hS'.range
  obtain ⟨d, hd⟩ : ∃ d, d = crashD r.disk tn cuts := ⟨_, rfl⟩
  rw [← hd] at hDc hc0 hLb hlb hcase hkeep
  obtain ⟨B, hB⟩ : ∃ B, B = (pOpen d s'.keep s'.size).1 := ⟨_, rfl⟩
  rw [← hB] at hLb hlb
  rw [← hlb] at hcase hkeep
  clear hlb
  have hrt : totD r.disk ≤ 1048576 := by have := hDr.totD; omega
  have hdt : totD d ≤ 1048576 := by have := hDc.totD; omega
  repeat' (first | apply Jbq | apply Jbr | apply Jbs | apply Jbt | (apply Jcg; (first | exact Jaa rfl | exact Jab rfl | (apply Jbl; exact Us.h; exact rfl; exact Sz.h; exact rfl)); exact rfl) | refine Jcg (Pu_loadAgg (cs := dskC r.disk sn1 sk1 st1) Us.h rfl Sz.h rfl (fun _ e j u hu => blk_disk hbr e j u hu)) rfl ?_)
  refine TL_call rfl en15 (implDiskCrash_c hg.rd.1 hDr.fitsD hrt hcu (by omega)) rfl rfl ?_
  rintro _ w13 ⟨sn3, sk3, st3, rfl, e, hz⟩
  rw [pCrash_yes hDr, ← hd] at hz ⊢
  simp only at hz ⊢
  have oned3 := hz.one
  replace hs := hs.ext e
  replace hcu := hcu.ext e
  replace hx := hx.ext e
  replace hbs := hbs.ext e
  replace hg := hg.ext e
  replace hbr := hbr.ext e
  replace E := E.ext e
  have z13 := e.size
  clear e
  clear hcu
  repeat' ((apply Jcg; (first | exact Jaa rfl | exact Jae rfl rfl); exact rfl))
  refine TL_alloc Zs.h rfl rfl ?_
  intro w14 ge e hghbd hzhbd hbd
  replace hs := hs.ext e
  replace hx := hx.ext e
  replace hbs := hbs.ext e
  replace hg := hg.ext e
  replace hbr := hbr.ext e
  replace hz := hz.ext e
  replace E := E.ext e
  have z14 := e.size
  clear e
  have hlthbd := hbd.lt
  skip
  refine TL_storeAgg rfl rfl Sz.h oned3 hbd rfl ?_
  clear hbd
  intro w15 c hzz hbd
  replace hs := hs.ch c (by intro k _ _; simp only [Iv]; omega)
  replace hx := hx.ch c (by intro k _ _; simp only [Iv]; omega)
  replace hbs := hbs.ch c (by simp only [Iv]; omega)
  replace hg := hg.ch c (by intro k _ _; simp only [Iv]; omega)
  replace hbr := hbr.ch c (by simp only [Iv]; omega)
  replace hz := hz.ch c (by intro k _ _; simp only [Iv]; omega)
  replace E : Ext W _ := Ext.then_iv E c (by omega)
  have z15 := c.size
  clear c
  repeat' (first | apply Jbq | apply Jbr | apply Jbs | apply Jbt | (apply Jcg; (first | exact Jab rfl | (apply Jbl; exact Us.h; exact rfl; exact Sz.h; exact rfl)); exact rfl) | refine Jcg (Pu_loadAgg (cs := dskC d sn3 sk3 st3) Us.h rfl Sz.h rfl (fun _ e j u hu => by rw [e, add0, hbd.cell]; exact hu)) rfl ?_ | refine Jcg (Pu_load Fl.h rfl (fun _ e => by rw [e]; exact hbs.ld rfl)) rfl ?_)
  refine TL_call rfl en34 (implOpen_c hz.rd hDc.fitsD hdt) rfl rfl ?_
  rintro _ w16 ⟨sn4, sk4, st4, sl4, rfl, e, hy⟩
  rw [← hB] at hy ⊢
  rw [hc0]
  have oneb := hy.one
  obtain ⟨A4, k4, rfl⟩ : ∃ A c, sl4 = .slice A B.list.length c := by obtain ⟨_, A, c, h, _⟩ := hy.rd; exact ⟨A, c, h⟩
  replace hs := hs.ext e
  replace hx := hx.ext e
  replace hbs := hbs.ext e
  replace hg := hg.ext e
  replace hbr := hbr.ext e
  replace hz := hz.ext e
  replace hbd := hbd.ext e
  replace E := E.ext e
  have z16 := e.size
  clear e
  clear hbd
  clear hz
  repeat' ((apply Jcg; (first | exact Jaa rfl | exact Jae rfl rfl); exact rfl))
  refine TL_alloc Zs.h rfl rfl ?_
  intro w17 gb e hghbb hzhbb hbb
  replace hs := hs.ext e
  replace hx := hx.ext e
  replace hbs := hbs.ext e
  replace hg := hg.ext e
  replace hbr := hbr.ext e
  replace hy := hy.ext e
  replace E := E.ext e
  have z17 := e.size
  clear e
  have hlthbb := hbb.lt
  skip
  refine TL_storeAgg rfl rfl Sz.h oneb hbb rfl ?_
  clear hbb
  intro w18 c hzz hbb
  replace hs := hs.ch c (by intro k _ _; simp only [Iv]; omega)
  replace hx := hx.ch c (by intro k _ _; simp only [Iv]; omega)
  replace hbs := hbs.ch c (by simp only [Iv]; omega)
  replace hg := hg.ch c (by intro k _ _; simp only [Iv]; omega)
  replace hbr := hbr.ch c (by simp only [Iv]; omega)
  replace hy := hy.ch c (by intro k _ _; simp only [Iv]; omega)
  replace E : Ext W _ := Ext.then_iv E c (by omega)
  have z18 := c.size
  clear c
  repeat' (first | apply Jbq | apply Jbr | apply Jbs | apply Jbt | apply Jbz | (refine Jcf rfl ?_) | (apply Jcg; (first | exact Jbm rfl rfl | exact Jaa rfl | exact Jab rfl | exact Jai rfl rfl | exact Jaj rfl | (apply Jbl; exact Us.h; exact rfl; exact Sz.h; exact rfl)); exact rfl) | refine Jch rfl rfl rfl ?_ | refine Jcg (Pu_load Fl.h rfl (fun _ e => by rw [e]; exact hbs.ld rfl)) rfl ?_)
  refine TL_call rfl en50 (implLastOf_k (n := s'.keep) hs.2 hln) rfl rfl ?_
  rintro vl w19 ⟨e, hls⟩
  rw [hkp] at hls
  replace hs := hs.ext e
  replace hx := hx.ext e
  replace hbs := hbs.ext e
  replace hg := hg.ext e
  replace hbr := hbr.ext e
  replace hy := hy.ext e
  replace hbb := hbb.ext e
  replace E := E.ext e
  have z19 := e.size
  clear e
  have hBl := (totS_parts hLb.tot).2
  repeat' (first | apply Jbq | apply Jbr | apply Jbs | apply Jbt | (apply Jcg; (first | exact Jaa rfl | exact Jab rfl | exact Jak rfl rfl); exact rfl))
  refine Jcs rfl rfl (fun h0 => ?_) (fun h0 => ?_)
  · have hb3 := hy.rd.2.eq (hkeep h0)
    have hpl3 := hBl
    rw [hkeep h0] at hpl3
    repeat' (first | (apply Jcg; (apply Jbl; exact Us.h; exact rfl; exact Sz.h; exact rfl); exact rfl) | refine Jch rfl rfl rfl ?_ | refine Jcg (Pu_load Fl.h rfl (fun _ e => by rw [e]; exact hbb.ld rfl)) rfl ?_ | refine Jcg (Pu_load Fl.h rfl (fun _ e => by rw [e]; exact hbr.ld rfl)) rfl ?_)
    refine TL_call rfl en38 (sameEntries_c hb3 hg.rd.2 hpl3) rfl rfl ?_
    rintro _ w20 ⟨rfl, e⟩
    replace hs := hs.ext e
    replace hx := hx.ext e
    replace hbs := hbs.ext e
    replace hg := hg.ext e
    replace hbr := hbr.ext e
    replace hy := hy.ext e
    replace hbb := hbb.ext e
    replace hls := hls.ext e
    replace E := E.ext e
    have z20 := e.size
    clear e
    clear hb3
    rcases hcase with hsc | ⟨hsc, hlt9⟩
    · skip
      have hb2 := hy.rd.2.eq (hsc)
      repeat' (first | apply Jbq | apply Jbr | apply Jbs | apply Jbt | apply Jbz | (refine Jcf rfl ?_) | (apply Jcg; (first | exact Jah rfl rfl | exact Jaj rfl | (apply Jbl; exact Us.h; exact rfl; exact Sz.h; exact rfl)); exact rfl) | refine Jch rfl rfl rfl ?_ | refine Jcg (Pu_load Fl.h rfl (fun _ e => by rw [e]; exact hbb.ld rfl)) rfl ?_ | refine Jcg (Pu_load Fl.h rfl (fun _ e => by rw [e]; exact hbs.ld rfl)) rfl ?_)
      refine TL_call rfl en38 (sameEntries_c hb2 hs.2 hln) rfl rfl ?_
      rintro _ w21 ⟨rfl, e⟩
      replace hs := hs.ext e
      replace hx := hx.ext e
      replace hbs := hbs.ext e
      replace hg := hg.ext e
      replace hbr := hbr.ext e
      replace hy := hy.ext e
      replace hbb := hbb.ext e
      replace hls := hls.ext e
      replace E := E.ext e
      have z21 := e.size
      clear e
      repeat' (first | apply Jbq | apply Jbr | apply Jbu | (apply Jcg; (first | exact Jaa rfl | exact Jab rfl | exact Jah rfl rfl); exact rfl) | refine Jci rfl rfl rfl rfl rfl ?_ | refine Jcj rfl rfl rfl rfl ?_)
      exact TR_of (res1 rfl rfl) ⟨rfl, E⟩
    · by_cases hsame : (pLast s.list s.keep).length = s.list.length
      · skip
        have hb2 := hy.rd.2.eq (hsc.trans (pLast_same hsame))
        repeat' (first | apply Jbq | apply Jbr | apply Jbs | apply Jbt | apply Jbz | (refine Jcf rfl ?_) | (apply Jcg; (first | exact Jah rfl rfl | exact Jaj rfl | (apply Jbl; exact Us.h; exact rfl; exact Sz.h; exact rfl)); exact rfl) | refine Jch rfl rfl rfl ?_ | refine Jcg (Pu_load Fl.h rfl (fun _ e => by rw [e]; exact hbb.ld rfl)) rfl ?_ | refine Jcg (Pu_load Fl.h rfl (fun _ e => by rw [e]; exact hbs.ld rfl)) rfl ?_)
        refine TL_call rfl en38 (sameEntries_c hb2 hs.2 hln) rfl rfl ?_
        rintro _ w21 ⟨rfl, e⟩
        replace hs := hs.ext e
        replace hx := hx.ext e
        replace hbs := hbs.ext e
        replace hg := hg.ext e
        replace hbr := hbr.ext e
        replace hy := hy.ext e
        replace hbb := hbb.ext e
        replace hls := hls.ext e
        replace E := E.ext e
        have z21 := e.size
        clear e
        repeat' (first | apply Jbq | apply Jbr | apply Jbu | (apply Jcg; (first | exact Jaa rfl | exact Jab rfl | exact Jah rfl rfl); exact rfl) | refine Jci rfl rfl rfl rfl rfl ?_ | refine Jcj rfl rfl rfl rfl ?_)
        exact TR_of (res1 rfl rfl) ⟨rfl, E⟩
      · skip
        repeat' (first | apply Jbq | apply Jbr | apply Jbs | apply Jbt | apply Jbz | (refine Jcf rfl ?_) | (apply Jcg; (first | exact Jah rfl rfl | exact Jaj rfl | (apply Jbl; exact Us.h; exact rfl; exact Sz.h; exact rfl)); exact rfl) | refine Jch rfl rfl rfl ?_ | refine Jcg (Pu_load Fl.h rfl (fun _ e => by rw [e]; exact hbb.ld rfl)) rfl ?_ | refine Jcg (Pu_load Fl.h rfl (fun _ e => by rw [e]; exact hbs.ld rfl)) rfl ?_)
        refine TL_call rfl en38 (sameEntries_l hy.rd.2 hs.2 (by rw [hsc]; exact hsame)) rfl rfl ?_
        rintro _ w21 ⟨rfl, e⟩
        replace hs := hs.ext e
        replace hx := hx.ext e
        replace hbs := hbs.ext e
        replace hg := hg.ext e
        replace hbr := hbr.ext e
        replace hy := hy.ext e
        replace hbb := hbb.ext e
        replace hls := hls.ext e
        replace E := E.ext e
        have z21 := e.size
        clear e
        have hb2 := hy.rd.2.eq hsc
        have hpl := hBl
        rw [hsc] at hpl
        repeat' (first | (apply Jcg; (first | exact Jaa rfl | (apply Jbl; exact Us.h; exact rfl; exact Sz.h; exact rfl)); exact rfl) | refine Jch rfl rfl rfl ?_ | refine Jcg (Pu_load Fl.h rfl (fun _ e => by rw [e]; exact hbb.ld rfl)) rfl ?_)
        refine TL_call rfl en38 (sameEntries_c hb2 hls.rd hpl) rfl rfl ?_
        rintro _ w22 ⟨rfl, e⟩
        replace hs := hs.ext e
        replace hx := hx.ext e
        replace hbs := hbs.ext e
        replace hg := hg.ext e
        replace hbr := hbr.ext e
        replace hy := hy.ext e
        replace hbb := hbb.ext e
        replace hls := hls.ext e
        replace E := E.ext e
        have z22 := e.size
        clear e
        repeat' (first | apply Jbq | apply Jbr | apply Jbu | (apply Jcg; (first | exact Jaa rfl | exact Jab rfl | exact Jah rfl rfl | exact Jai rfl rfl | exact Jam rfl rfl | (apply Jbl; exact Us.h; exact rfl; exact Sz.h; exact rfl)); exact rfl) | refine Jch rfl rfl rfl ?_ | refine Jcg (Pu_load Fl.h rfl (fun _ e => by rw [e]; exact hbs.ld rfl)) rfl ?_)
        exact TR_of (res1 rfl rfl) ⟨congrArg Value.bool (decide_eq_true (by rw [hlq, hsz']; exact hlt9)), E⟩
  · skip
    rcases hcase with hsc | ⟨hsc, hlt9⟩
    · skip
      have hb2 := hy.rd.2.eq (hsc)
      repeat' (first | apply Jbq | apply Jbr | apply Jbs | apply Jbt | apply Jbz | (refine Jcf rfl ?_) | (apply Jcg; (first | exact Jai rfl rfl | (apply Jbl; exact Us.h; exact rfl; exact Sz.h; exact rfl)); exact rfl) | refine Jci rfl rfl rfl rfl rfl ?_ | refine Jcg (Pu_load Fl.h rfl (fun _ e => by rw [e]; exact hbb.ld rfl)) rfl ?_ | refine Jcg (Pu_load Fl.h rfl (fun _ e => by rw [e]; exact hbs.ld rfl)) rfl ?_)
      refine TL_call rfl en38 (sameEntries_c hb2 hs.2 hln) rfl rfl ?_
      rintro _ w20 ⟨rfl, e⟩
      replace hs := hs.ext e
      replace hx := hx.ext e
      replace hbs := hbs.ext e
      replace hg := hg.ext e
      replace hbr := hbr.ext e
      replace hy := hy.ext e
      replace hbb := hbb.ext e
      replace hls := hls.ext e
      replace E := E.ext e
      have z20 := e.size
      clear e
      repeat' (first | apply Jbq | apply Jbr | apply Jbu | (apply Jcg; (first | exact Jaa rfl | exact Jab rfl | exact Jah rfl rfl); exact rfl) | refine Jci rfl rfl rfl rfl rfl ?_ | refine Jcj rfl rfl rfl rfl ?_)
      exact TR_of (res1 rfl rfl) ⟨rfl, E⟩
    · by_cases hsame : (pLast s.list s.keep).length = s.list.length
      · skip
        have hb2 := hy.rd.2.eq (hsc.trans (pLast_same hsame))
        repeat' (first | apply Jbq | apply Jbr | apply Jbs | apply Jbt | apply Jbz | (refine Jcf rfl ?_) | (apply Jcg; (first | exact Jai rfl rfl | (apply Jbl; exact Us.h; exact rfl; exact Sz.h; exact rfl)); exact rfl) | refine Jci rfl rfl rfl rfl rfl ?_ | refine Jcg (Pu_load Fl.h rfl (fun _ e => by rw [e]; exact hbb.ld rfl)) rfl ?_ | refine Jcg (Pu_load Fl.h rfl (fun _ e => by rw [e]; exact hbs.ld rfl)) rfl ?_)
        refine TL_call rfl en38 (sameEntries_c hb2 hs.2 hln) rfl rfl ?_
        rintro _ w20 ⟨rfl, e⟩
        replace hs := hs.ext e
        replace hx := hx.ext e
        replace hbs := hbs.ext e
        replace hg := hg.ext e
        replace hbr := hbr.ext e
        replace hy := hy.ext e
        replace hbb := hbb.ext e
        replace hls := hls.ext e
        replace E := E.ext e
        have z20 := e.size
        clear e
        repeat' (first | apply Jbq | apply Jbr | apply Jbu | (apply Jcg; (first | exact Jaa rfl | exact Jab rfl | exact Jah rfl rfl); exact rfl) | refine Jci rfl rfl rfl rfl rfl ?_ | refine Jcj rfl rfl rfl rfl ?_)
        exact TR_of (res1 rfl rfl) ⟨rfl, E⟩
      · skip
        repeat' (first | apply Jbq | apply Jbr | apply Jbs | apply Jbt | apply Jbz | (refine Jcf rfl ?_) | (apply Jcg; (first | exact Jai rfl rfl | (apply Jbl; exact Us.h; exact rfl; exact Sz.h; exact rfl)); exact rfl) | refine Jci rfl rfl rfl rfl rfl ?_ | refine Jcg (Pu_load Fl.h rfl (fun _ e => by rw [e]; exact hbb.ld rfl)) rfl ?_ | refine Jcg (Pu_load Fl.h rfl (fun _ e => by rw [e]; exact hbs.ld rfl)) rfl ?_)
        refine TL_call rfl en38 (sameEntries_l hy.rd.2 hs.2 (by rw [hsc]; exact hsame)) rfl rfl ?_
        rintro _ w20 ⟨rfl, e⟩
        replace hs := hs.ext e
        replace hx := hx.ext e
        replace hbs := hbs.ext e
        replace hg := hg.ext e
        replace hbr := hbr.ext e
        replace hy := hy.ext e
        replace hbb := hbb.ext e
        replace hls := hls.ext e
        replace E := E.ext e
        have z20 := e.size
        clear e
        have hb2 := hy.rd.2.eq hsc
        have hpl := hBl
        rw [hsc] at hpl
        repeat' (first | (apply Jcg; (first | exact Jaa rfl | (apply Jbl; exact Us.h; exact rfl; exact Sz.h; exact rfl)); exact rfl) | refine Jch rfl rfl rfl ?_ | refine Jcg (Pu_load Fl.h rfl (fun _ e => by rw [e]; exact hbb.ld rfl)) rfl ?_)
        refine TL_call rfl en38 (sameEntries_c hb2 hls.rd hpl) rfl rfl ?_
        rintro _ w21 ⟨rfl, e⟩
        replace hs := hs.ext e
        replace hx := hx.ext e
        replace hbs := hbs.ext e
        replace hg := hg.ext e
        replace hbr := hbr.ext e
        replace hy := hy.ext e
        replace hbb := hbb.ext e
        replace hls := hls.ext e
        replace E := E.ext e
        have z21 := e.size
        clear e
        repeat' (first | apply Jbq | apply Jbr | apply Jbu | (apply Jcg; (first | exact Jaa rfl | exact Jab rfl | exact Jah rfl rfl | exact Jai rfl rfl | exact Jam rfl rfl | (apply Jbl; exact Us.h; exact rfl; exact Sz.h; exact rfl)); exact rfl) | refine Jch rfl rfl rfl ?_ | refine Jcg (Pu_load Fl.h rfl (fun _ e => by rw [e]; exact hbs.ld rfl)) rfl ?_)
        exact TR_of (res1 rfl rfl) ⟨congrArg Value.bool (decide_eq_true (by rw [hlq, hsz']; exact hlt9)), E⟩
end
theorem own : ownKnob Tryz.prog.godebug = none := by kernel_rfl
theorem laidOut : laidOutB Tryz.prog = true := by kernel_rfl
set_option maxRecDepth 100000 in
theorem lifted (os : Os) (started : os.Started) (H : Type) (enc : TypeId × Value → H) :
    ReturnsInHanded {} Tryz.checked os 9 .any (Rows.fnTidySpec.pre6 enc Tryz.prog Tryz.f9 Rows.fnTidyRow.domain false) (Rows.fnTidySpec.post enc Tryz.prog Tryz.f9 false true false false) := by
  refine returnsInHanded_of_change (C := Tryz.checked) own started (by kernel_rfl) Tryz.func9
    (ChangeSpec.witness6 (enc := enc) (C := Tryz.checked) false ⟨#[], #[.slice none 0 0], []⟩ 8 (by kernel_rfl) (by kernel_rfl) (by kernel_rfl) (by kernel_rfl)) ?_
  intro W base args ds gs before hval0 hW hcnd _
  have hval : ∀ (j : Nat) t v, Tryz.f9.params[j]? = some t → args[j]? = some v → Value.okWide Tryz.prog W .any base t v := hval0
  have hW' := hW
  obtain ⟨p, q, hA0, hV, rfl, hfz, hnd⟩ := hW
  have hA : DataW.TrodAll enc Tryz.prog W 0 (fun _ => true) true Tryz.f9.params.toList args.toList ds p := hA0
  rw [Tryz.params9] at hA hval
  obtain ⟨v0, vs0, d0, ds0, p0, q0, hargs, rfl, rfl, h0, r0⟩ := trodAll_cons hA
  obtain ⟨rfl, rfl, rfl⟩ := trodAll_nil r0
  obtain rfl : args = #[v0] := by cases args; simp_all
  obtain ⟨rfl, rfl⟩ := trodVars_none hV
  have k0 := h0
  have lt0 : ∀ x ∈ p0, x.block < W.heap.size := by obtain ⟨m, hm⟩ := k0; exact DataW.trod_lt m _ _ _ hm
  obtain ⟨a0, len0, cap0, rfl⟩ := okWide_slice Tryz.underlying43 (hval 0 43 v0 rfl rfl)
  obtain ⟨fuel0, hf0⟩ := h0
  obtain ⟨A0, c0, code, e0, b0, m0, R0⟩ := arg_bytes Tryz.underlying43 Tryz.underlying5 (by kernel_rfl) hf0
  clear hA0 hval0
  have hc := law_c code W ⟨_, _, rfl, b0, R0⟩ (by omega)
  have hc : Calls Tryz.prog 9 _ W _ := hc
  rw [← e0] at hc
  refine hc.mono fun e W' ⟨v, he, hv, hx⟩ => ?_
  subst hv
  subst he
  have bel := Ch.below hx
  exact ⟨_, rfl, _, _, _, [], _, [], hW', trodAll_mk1 (shut_bool Tryz.underlying4 _), (trodAll_cons_mk (Below.trod laidOut (by kernel_rfl) (of_decide_eq_true (by kernel_rfl)) k0 bel lt0) trodAll_mk0), rfl, bel.frame _, fun h => by cases h⟩
theorem over : Rows.fnTidyRow.holds Tryz.pinned (OpenSpec.ofChange Rows.fnTidySpec) :=
  OpenClaim.holds_of_wide 9 Tryz.f9 rfl rfl rfl rfl rfl rfl rfl ⟨rfl, rfl, rfl, rfl, rfl⟩ rfl rfl rfl rfl rfl (by kernel_rfl) Tryz.func9 (by kernel_rfl)
    (of_decide_eq_true (by kernel_rfl)) (by unfold Func.isWrapper; first | (rw [if_pos (by decide +kernel)]; kernel_rfl) | (rw [if_neg (by decide +kernel)]; exact ⟨rfl, rfl⟩))
    (fun os started H enc _ => lifted os started H enc)
theorem proved : Rows.FnTidySaid := over
#print axioms proved
end Go.Proofs.YtggaghghclomkaaGreat.FnTidyP
