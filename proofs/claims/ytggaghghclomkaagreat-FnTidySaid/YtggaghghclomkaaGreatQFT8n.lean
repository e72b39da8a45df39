/- Texts of this proof laid together, in the order in which they build; what each proves stands ahead of it. No condition but those told there. -/
import Derived.Test.YtggaghghclomkaaGreatQFT8m

/- Contracts: a store is tidied, by the program. Conditions: the store is right. -/
namespace Go.Proofs.YtggaghghclomkaaGreat
open Go.RowKit
attribute [local irreducible] TL TC TN TX TR TQ TA Pu Ret
set_option maxRecDepth 100000 in
set_option maxHeartbeats 16000000 in
theorem implTidy_c {W : World} {lo hi : Nat} {s : StoreP} {sn sk st sl : Value} (h : RSt W lo hi s sn sk st sl) (hf : s.fits) (hl : totS s ≤ 1048576) (hS : SOk s) :
    Ret Tryz.prog 48 #[.agg (stoC s sn sk st sl).toArray] W fun v' w' => ∃ sn' sk' st' sl', v' = .tuple #[.agg (stoC (pTidy s).1 sn' sk' st' sl').toArray, I (pTidy s).2] ∧ Ext W w' ∧ OSt w' W.heap.size w'.heap.size (pTidy s).1 sn' sk' st' sl' := by
  obtain ⟨Al, cl, rfl, hcl, hrl⟩ := h.2
  have hh := h
  obtain ⟨p1, p2⟩ := totS_parts hl
  refine Ret_enter Tryz.func48 rfl rfl rfl ?_
  have E : Ext W W := Ch.refl _ _
  repeat' (first | apply Jbs | apply Jbt)
  refine TL_box (cs := stoC s sn sk st (.slice Al s.list.length cl)) rfl rfl ?_
  intro w1 gs e hghbs hzhbs hbs
  replace E := E.ext e
  have z1 := e.size
  clear e
  have hlthbs := hbs.lt
  skip
  refine TL_alloc Zs.h rfl rfl ?_
  intro w2 gr e hghbr hzhbr hbr
  replace hbs := hbs.ext e
  replace E := E.ext e
  have z2 := e.size
  clear e
  have hlthbr := hbr.lt
  repeat' (first | apply Jbq | apply Jbr | apply Jbs | apply Jbt | (apply Jcg; exact Jab rfl; exact rfl) | refine Jcg (Pu_loadAgg (cs := stoC s sn sk st (.slice Al s.list.length cl)) Us.h rfl Sz.h rfl (fun _ e j u hu => by rw [e, add0, hbs.cell]; exact hu)) rfl ?_)
  refine TL_call rfl en39 (implStoreOk_c (hh.ext E) hf hl) rfl rfl ?_
  rintro _ w3 ⟨rfl, e⟩
  rw [pSOk_yes hS]
  replace hbs := hbs.ext e
  replace hbr := hbr.ext e
  replace E := E.ext e
  have z3 := e.size
  clear e
  repeat' (first | apply Jbq | apply Jbr | apply Jbs | apply Jbt | apply Jbz | (refine Jcf rfl ?_) | (apply Jcg; exact Jaj rfl; exact rfl) | refine Jcg (Pu_loadAgg (cs := stoC s sn sk st (.slice Al s.list.length cl)) Us.h rfl Sz.h rfl (fun _ e j u hu => by rw [e, add0, hbs.cell]; exact hu)) rfl ?_)
  refine TL_call rfl en117 (implcopyStore_c (hh.ext E) hl) rfl rfl ?_
  rintro _ w4 ⟨sn1, sk1, st1, sl1, m, rfl, e, hd, hle, q1, q2⟩
  replace hbs := hbs.ext e
  replace hbr := hbr.ext e
  replace E := E.ext e
  have z4 := e.size
  clear e
  have oneo := sto_one hd.one hle.rd.one
  obtain ⟨l1, hl1⟩ : ∃ l, l = w3.heap.size := ⟨_, rfl⟩
  obtain ⟨h1, hh1⟩ : ∃ l, l = m := ⟨_, rfl⟩
  obtain ⟨l2, hl2⟩ : ∃ l, l = m := ⟨_, rfl⟩
  obtain ⟨h2, hh2⟩ : ∃ l, l = w4.heap.size := ⟨_, rfl⟩
  rw [← hl1, ← hh1] at hd
  rw [← hl2, ← hh2] at hle
  have hap : h1 ≤ l2 ∨ h2 ≤ l1 := by omega
  skip
  refine TL_alloc Zs.h rfl rfl ?_
  intro w5 go e hghbo hzhbo hbo
  replace hbs := hbs.ext e
  replace hbr := hbr.ext e
  replace hd := hd.ext e
  replace hle := hle.ext e
  replace E := E.ext e
  have z5 := e.size
  clear e
  have hlthbo := hbo.lt
  skip
  refine TL_storeAgg rfl rfl Sz.h oneo hbo rfl ?_
  clear hbo
  intro w6 c hzz hbo
  replace hbs := hbs.ch c (by simp only [Iv]; omega)
  replace hbr := hbr.ch c (by simp only [Iv]; omega)
  replace hd := hd.ch c (by intro k _ _; simp only [Iv]; omega)
  replace hle := hle.ch c (by intro k _ _; simp only [Iv]; omega)
  replace E : Ext W _ := Ext.then_iv E c (by omega)
  have z6 := c.size
  clear c
  repeat' (first | apply Jbq | apply Jbr | apply Jbs | apply Jbt | (apply Jcg; (first | exact Jaa rfl | exact Jan rfl rfl | (apply Jbl; exact Us.h; exact rfl; exact Sz.h; exact rfl)); exact rfl) | refine Jcg (Pu_load Fl.h rfl (fun _ e => by rw [e]; exact hbs.ld rfl)) rfl ?_)
  refine Jcs rfl rfl (fun hc => ?_) (fun hc => ?_)
  · rw [pTidy_same hS (.inl (by omega))]
    repeat' (first | apply Jbq | apply Jbr | apply Jbs | apply Jbt | (refine Jce rfl ?_) | (apply Jcg; exact Jah rfl rfl; exact rfl) | refine Jci rfl rfl rfl rfl rfl ?_ | refine Jcg (Pu_loadAgg (cs := stoC s sn1 sk1 st1 sl1) Us.h rfl Sz.h rfl (fun _ e j u hu => by rw [e, add0, hbo.cell]; exact hu)) rfl ?_)
    refine TL_storeAgg rfl rfl Sz.h oneo hbr rfl ?_
    clear hbr
    intro w7 c hzz hbr
    replace hbs := hbs.ch c (by simp only [Iv]; omega)
    replace hd := hd.ch c (by intro k _ _; simp only [Iv]; omega)
    replace hle := hle.ch c (by intro k _ _; simp only [Iv]; omega)
    replace hbo := hbo.ch c (by simp only [Iv]; omega)
    replace E : Ext W _ := Ext.then_iv E c (by omega)
    have z7 := c.size
    clear c
    repeat' (first | apply Jbq | apply Jbr | apply Jbu | apply Jbv | (apply Jcg; exact Jab rfl; exact rfl))
    exact TR_of (resA1 rfl rfl rfl hbr Us.h rfl Sz.h) ⟨sn1, sk1, st1, sl1, rfl, E, l1, h1, l2, h2, hd, hle, hap, by omega, by omega, by omega, by omega, Nat.le_refl _⟩
  repeat' (first | apply Jbq | apply Jbr | (apply Jcg; (first | exact Jac Us.h rfl | exact Jai rfl rfl | exact Jan rfl rfl | (apply Jbl; exact Us.h; exact rfl; exact Sz.h; exact rfl)); exact rfl) | refine Jch rfl rfl rfl ?_ | refine Jcg (Pu_load Fl.h rfl (fun _ e => by rw [e]; exact hbs.ld rfl)) rfl ?_)
  refine Jcx rfl (fun hc2 => ?_) (fun hc2 => ?_)
  · rw [pTidy_same hS (.inr (by omega))]
    repeat' (first | apply Jbs | apply Jbt | refine Jcg (Pu_loadAgg (cs := stoC s sn1 sk1 st1 sl1) Us.h rfl Sz.h rfl (fun _ e j u hu => by rw [e, add0, hbo.cell]; exact hu)) rfl ?_)
    refine TL_storeAgg rfl rfl Sz.h oneo hbr rfl ?_
    clear hbr
    intro w7 c hzz hbr
    replace hbs := hbs.ch c (by simp only [Iv]; omega)
    replace hd := hd.ch c (by intro k _ _; simp only [Iv]; omega)
    replace hle := hle.ch c (by intro k _ _; simp only [Iv]; omega)
    replace hbo := hbo.ch c (by simp only [Iv]; omega)
    replace E : Ext W _ := Ext.then_iv E c (by omega)
    have z7 := c.size
    clear c
    repeat' (first | apply Jbq | apply Jbr | apply Jbu | apply Jbv | (apply Jcg; exact Jab rfl; exact rfl))
    exact TR_of (resA1 rfl rfl rfl hbr Us.h rfl Sz.h) ⟨sn1, sk1, st1, sl1, rfl, E, l1, h1, l2, h2, hd, hle, hap, by omega, by omega, by omega, by omega, Nat.le_refl _⟩
  repeat' (first | apply Jbr | apply Jbs | apply Jbt | apply Jbz | (apply Jcg; (apply Jbl; exact Us.h; exact rfl; exact Sz.h; exact rfl); exact rfl) | refine Jcg (Pu_load Fl.h rfl (fun _ e => by rw [e]; exact hbs.ld rfl)) rfl ?_)
  refine TL_call rfl en50 (implLastOf_k (n := s.keep) (hh.2.ext E) (totS_parts hl).2) rfl rfl ?_
  rintro vl w7 ⟨e, hln⟩
  replace hbs := hbs.ext e
  replace hbr := hbr.ext e
  replace hd := hd.ext e
  replace hle := hle.ext e
  replace hbo := hbo.ext e
  replace E := E.ext e
  have z7 := e.size
  clear e
  obtain ⟨ln, hlq⟩ : ∃ l, l = pLast s.list s.keep := ⟨_, rfl⟩
  rw [← hlq] at hln
  have hlnl : ln.length ≤ 1048576 := by have := (totS_parts hl).2; rw [hlq]; unfold pLast; rw [List.length_drop]; omega
  repeat' (first | apply Jbq | apply Jbr | apply Jbs | apply Jbt | (apply Jcg; (first | exact Jaa rfl | exact Jab rfl); exact rfl))
  refine TL_call rfl en110 (implLogBytes_k hln.rd hlnl) rfl rfl ?_
  rintro _ w8 ⟨vb, rfl, e, hob⟩
  replace hbs := hbs.ext e
  replace hbr := hbr.ext e
  replace hd := hd.ext e
  replace hle := hle.ext e
  replace hbo := hbo.ext e
  replace hln := hln.ext e
  replace E := E.ext e
  have z8 := e.size
  clear e
  obtain ⟨b, hbq⟩ : ∃ b, b = (pLog ln).1 := ⟨_, rfl⟩
  rw [← hbq] at hob
  obtain ⟨Ab, cb, rfl⟩ : ∃ A c, vb = .slice A b.length c := by obtain ⟨A, c, h, _⟩ := hob; exact ⟨A, c, h⟩
  have hvl : vl.oneCell' = true := hln.rd.one
  obtain ⟨xA, hxA⟩ : ∃ x, x = pDo s.disk oDir := ⟨_, rfl⟩
  obtain ⟨xB, hxB⟩ : ∃ x, x = stepD xA (oMk tempT) := ⟨_, rfl⟩
  obtain ⟨x, hx⟩ : ∃ x, x = stepD xB (oApp tempT b) := ⟨_, rfl⟩
  obtain ⟨pT5, pT⟩ := pTidy_is (b := b) (x := x) hS (by omega) (by rw [← hlq]; exact hbq) (by rw [hx, hxB, hxA])
  repeat' (first | apply Jbq | apply Jbr | apply Jbs | apply Jbt | (apply Jcg; (first | exact Jaa rfl | exact Jab rfl | exact Jae rfl rfl | (apply Jbl; exact Us.h; exact rfl; exact Sz.h; exact rfl)); exact rfl) | refine Jcg (Pu_loadAgg (cs := dskC s.disk sn1 sk1 st1) Us.h rfl Sz.h rfl (fun _ e j u hu => blk_disk hbo e j u hu)) rfl ?_ | refine Jcg (Pu_build (cs := drC s.disk sn1 sk1 st1 0) rfl (by kernel_rfl)) rfl ?_)
  have oned := hd.one
  have onedr : (drC s.disk sn1 sk1 st1 0).all (·.oneCell') = true := by
    rw [show drC s.disk sn1 sk1 st1 0 = dskC s.disk sn1 sk1 st1 ++ [I 0] from rfl, List.all_append, oned]; rfl
  skip
  refine TL_alloc Zs.h rfl rfl ?_
  intro w9 gx e hghbx hzhbx hbx
  replace hbs := hbs.ext e
  replace hbr := hbr.ext e
  replace hd := hd.ext e
  replace hle := hle.ext e
  replace hbo := hbo.ext e
  replace hln := hln.ext e
  replace hob := hob.ext e
  replace E := E.ext e
  have z9 := e.size
  clear e
  have hlthbx := hbx.lt
  skip
  refine TL_storeAgg rfl rfl Sz.h onedr hbx rfl ?_
  clear hbx
  intro w10 c hzz hbx
  replace hbs := hbs.ch c (by simp only [Iv]; omega)
  replace hbr := hbr.ch c (by simp only [Iv]; omega)
  replace hd := hd.ch c (by intro k _ _; simp only [Iv]; omega)
  replace hle := hle.ch c (by intro k _ _; simp only [Iv]; omega)
  replace hbo := hbo.ch c (by simp only [Iv]; omega)
  replace hln := hln.ch c (by intro k _ _; simp only [Iv]; omega)
  replace hob := hob.ch c (by intro k _ _; simp only [Iv]; omega)
  replace E : Ext W _ := Ext.then_iv E c (by omega)
  have z10 := c.size
  clear c
  have hD0 : DrX w10 gx (s.disk, 0) sn1 sk1 st1 l1 h1 := ⟨hbx, hd, .inl (by omega), hf.1, p1⟩
  clear hbx hd
  obtain ⟨wk, hwk⟩ : ∃ k, k = w10.heap.size := ⟨_, rfl⟩
  repeat' (first | apply Jbq | apply Jbr | apply Jbs | apply Jbt | refine Jcg (Pu_build (cs := opC (oDir) (.slice none 0 0)) rfl (by kernel_rfl)) rfl ?_)
  refine TL_call rfl en102 (do_c (o := oDir) hD0 (rbn _) (fits_op _ _ _ _ (by omega) (by omega) (by decide) (by decide))) rfl rfl ?_
  rintro _ w11 ⟨rfl, c, sn1, sk1, st1, lo1, hi1, hD1, hq1⟩
  clear hD0
  replace hbs := hbs.ch c (by simp only [Iv]; omega)
  replace hbr := hbr.ch c (by simp only [Iv]; omega)
  replace hle := hle.ch c (by intro k _ _; simp only [Iv]; omega)
  replace hbo := hbo.ch c (by simp only [Iv]; omega)
  replace hln := hln.ch c (by intro k _ _; simp only [Iv]; omega)
  replace hob := hob.ch c (by intro k _ _; simp only [Iv]; omega)
  replace E : Ext W _ := Ext.then_iv E c (by omega)
  have z11 := c.size
  clear c
  rw [show stepD (s.disk, 0) (oDir) = xA by rw [hxA, step_yes]] at hD1
  have hhi1 := hD1.own.1
  have hg1 : (lo1 = l1 ∧ hi1 = h1) ∨ wk ≤ lo1 := by omega
  repeat' (first | apply Jbq | apply Jbr | apply Jbs | apply Jbt | refine Jcg (Pu_build (cs := opC (oMk tempT) (.slice none 0 0)) rfl (by kernel_rfl)) rfl ?_)
  refine TL_call rfl en102 (do_c (o := oMk tempT) hD1 (rbn _) (fits_op _ _ _ _ (by omega) (by omega) (by decide) (by decide))) rfl rfl ?_
  rintro _ w12 ⟨rfl, c, sn2, sk2, st2, lo2, hi2, hD2, hq2⟩
  clear hD1
  replace hbs := hbs.ch c (by simp only [Iv]; omega)
  replace hbr := hbr.ch c (by simp only [Iv]; omega)
  replace hle := hle.ch c (by intro k _ _; simp only [Iv]; omega)
  replace hbo := hbo.ch c (by simp only [Iv]; omega)
  replace hln := hln.ch c (by intro k _ _; simp only [Iv]; omega)
  replace hob := hob.ch c (by intro k _ _; simp only [Iv]; omega)
  replace E : Ext W _ := Ext.then_iv E c (by omega)
  have z12 := c.size
  clear c
  rw [show stepD xA (oMk tempT) = xB by rw [hxB]] at hD2
  have hhi2 := hD2.own.1
  have hg2 : (lo2 = l1 ∧ hi2 = h1) ∨ wk ≤ lo2 := by omega
  repeat' (first | apply Jbq | apply Jbr | apply Jbs | apply Jbt | (apply Jcg; exact Jaa rfl; exact rfl) | refine Jcg (Pu_build (cs := opC (oApp tempT b) (.slice Ab b.length cb)) rfl (by kernel_rfl)) rfl ?_)
  refine TL_call rfl en102 (do_c (o := oApp tempT b) hD2 hob.rd (fits_app (by decide))) rfl rfl ?_
  rintro _ w13 ⟨rfl, c, sn3, sk3, st3, lo3, hi3, hD3, hq3⟩
  clear hD2
  replace hbs := hbs.ch c (by simp only [Iv]; omega)
  replace hbr := hbr.ch c (by simp only [Iv]; omega)
  replace hle := hle.ch c (by intro k _ _; simp only [Iv]; omega)
  replace hbo := hbo.ch c (by simp only [Iv]; omega)
  replace hln := hln.ch c (by intro k _ _; simp only [Iv]; omega)
  replace hob := hob.ch c (by intro k _ _; simp only [Iv]; omega)
  replace E : Ext W _ := Ext.then_iv E c (by omega)
  have z13 := c.size
  clear c
  rw [show stepD xB (oApp tempT b) = x by rw [hx]] at hD3
  have hhi3 := hD3.own.1
  have hg3 : (lo3 = l1 ∧ hi3 = h1) ∨ wk ≤ lo3 := by omega
  have hb3 := hD3.blk
  have one3 := hD3.own.one
  repeat' (first | apply Jbq | apply Jbr | apply Jbs | apply Jbt | (apply Jcg; (first | exact Jak rfl rfl | (apply Jbl; exact Us.h; exact rfl; exact Sz.h; exact rfl)); exact rfl) | refine Jcg (Pu_load Fl.h rfl (fun _ e => by rw [e]; exact hb3.ld rfl)) rfl ?_)
  refine Jcx rfl (fun h5 => ?_) (fun h5 => ?_)
  · skip
    repeat' (first | apply Jbs | apply Jbt | (apply Jcg; (apply Jbl; exact Us.h; exact rfl; exact Sz.h; exact rfl); exact rfl) | refine Jcg (Pu_loadAgg (cs := dskC x.1 sn3 sk3 st3) Us.h rfl Sz.h rfl (fun _ e j u hu => by rw [e]; exact hD3.ld j u hu)) rfl ?_ | refine Jcg (Pu_build (cs := drC x.1 sn3 sk3 st3 0) rfl (by kernel_rfl)) rfl ?_)
    have onedr : (drC x.1 sn3 sk3 st3 0).all (·.oneCell') = true := by
      rw [show drC x.1 sn3 sk3 st3 0 = dskC x.1 sn3 sk3 st3 ++ [I 0] from rfl, List.all_append, one3]; rfl
    skip
    refine TL_alloc Zs.h rfl rfl ?_
    intro w14 gz e hghbz hzhbz hbz
    replace hbs := hbs.ext e
    replace hbr := hbr.ext e
    replace hle := hle.ext e
    replace hbo := hbo.ext e
    replace hln := hln.ext e
    replace hob := hob.ext e
    replace hD3 := hD3.ext e
    replace E := E.ext e
    have z14 := e.size
    clear e
    have hlthbz := hbz.lt
    skip
    refine TL_storeAgg rfl rfl Sz.h onedr hbz rfl ?_
    clear hbz
    intro w15 c hzz hbz
    replace hbs := hbs.ch c (by simp only [Iv]; omega)
    replace hbr := hbr.ch c (by simp only [Iv]; omega)
    replace hle := hle.ch c (by intro k _ _; simp only [Iv]; omega)
    replace hbo := hbo.ch c (by simp only [Iv]; omega)
    replace hln := hln.ch c (by intro k _ _; simp only [Iv]; omega)
    replace hob := hob.ch c (by intro k _ _; simp only [Iv]; omega)
    replace hD3 := hD3.ch c (by simp only [Iv]; omega) (by intro k _ _; simp only [Iv]; omega)
    replace E : Ext W _ := Ext.then_iv E c (by omega)
    have z15 := c.size
    clear c
    have hD4 : DrX w15 gz (x.1, 0) sn3 sk3 st3 lo3 hi3 := ⟨hbz, hD3.own, .inl (by omega), hD3.fits, hD3.tot⟩
    clear hbz hD3 hb3
    obtain ⟨yA, hyA⟩ : ∃ y, y = pDo x.1 (oRm tempT) := ⟨_, rfl⟩
    obtain ⟨y, hy⟩ : ∃ y, y = stepD yA oDir := ⟨_, rfl⟩
    have hP := pT5 h5 y (by rw [hy, hyA])
    repeat' (first | apply Jbq | apply Jbr | apply Jbs | apply Jbt | refine Jcg (Pu_build (cs := opC (oRm tempT) (.slice none 0 0)) rfl (by kernel_rfl)) rfl ?_)
    refine TL_call rfl en102 (do_c (o := oRm tempT) hD4 (rbn _) (fits_op _ _ _ _ (by omega) (by omega) (by decide) (by decide))) rfl rfl ?_
    rintro _ w16 ⟨rfl, c, sn5, sk5, st5, lo5, hi5, hD5, hq5⟩
    clear hD4
    replace hbs := hbs.ch c (by simp only [Iv]; omega)
    replace hbr := hbr.ch c (by simp only [Iv]; omega)
    replace hle := hle.ch c (by intro k _ _; simp only [Iv]; omega)
    replace hbo := hbo.ch c (by simp only [Iv]; omega)
    replace hln := hln.ch c (by intro k _ _; simp only [Iv]; omega)
    replace hob := hob.ch c (by intro k _ _; simp only [Iv]; omega)
    replace E : Ext W _ := Ext.then_iv E c (by omega)
    have z16 := c.size
    clear c
    rw [show stepD (x.1, 0) (oRm tempT) = yA by rw [hyA, step_yes]] at hD5
    have hhi5 := hD5.own.1
    have hg5 : (lo5 = l1 ∧ hi5 = h1) ∨ wk ≤ lo5 := by omega
    repeat' (first | apply Jbq | apply Jbr | apply Jbs | apply Jbt | refine Jcg (Pu_build (cs := opC (oDir) (.slice none 0 0)) rfl (by kernel_rfl)) rfl ?_)
    refine TL_call rfl en102 (do_c (o := oDir) hD5 (rbn _) (fits_op _ _ _ _ (by omega) (by omega) (by decide) (by decide))) rfl rfl ?_
    rintro _ w17 ⟨rfl, c, sn6, sk6, st6, lo6, hi6, hD6, hq6⟩
    clear hD5
    replace hbs := hbs.ch c (by simp only [Iv]; omega)
    replace hbr := hbr.ch c (by simp only [Iv]; omega)
    replace hle := hle.ch c (by intro k _ _; simp only [Iv]; omega)
    replace hbo := hbo.ch c (by simp only [Iv]; omega)
    replace hln := hln.ch c (by intro k _ _; simp only [Iv]; omega)
    replace hob := hob.ch c (by intro k _ _; simp only [Iv]; omega)
    replace E : Ext W _ := Ext.then_iv E c (by omega)
    have z17 := c.size
    clear c
    rw [show stepD yA (oDir) = y by rw [hy]] at hD6
    have hhi6 := hD6.own.1
    have hg6 : (lo6 = l1 ∧ hi6 = h1) ∨ wk ≤ lo6 := by omega
    have oneq := hD6.own.one
    repeat' (first | apply Jbq | apply Jbr | apply Jbs | apply Jbt | (apply Jcg; (apply Jbl; exact Us.h; exact rfl; exact Sz.h; exact rfl); exact rfl) | refine Jcg (Pu_loadAgg (cs := dskC y.1 sn6 sk6 st6) Us.h rfl Sz.h rfl (fun _ e j u hu => by rw [e]; exact hD6.ld j u hu)) rfl ?_)
    refine TL_storeBlk rfl (add0 go 0) rfl Sz.h oneq hbo (by show 0 + 6 ≤ 10; omega) ?_
    clear hbo
    intro w18 c hzz hbo
    replace hbo : Blk w18 go 66 (stoC ⟨y.1, s.keep, s.size, s.list, s.len⟩ sn6 sk6 st6 sl1) := hbo
    replace hbs := hbs.ch c (by simp only [Iv]; omega)
    replace hbr := hbr.ch c (by simp only [Iv]; omega)
    replace hle := hle.ch c (by intro k _ _; simp only [Iv]; omega)
    replace hln := hln.ch c (by intro k _ _; simp only [Iv]; omega)
    replace hob := hob.ch c (by intro k _ _; simp only [Iv]; omega)
    replace hD6 := hD6.ch c (by simp only [Iv]; omega) (by intro k _ _; simp only [Iv]; omega)
    replace E : Ext W _ := Ext.then_iv E c (by omega)
    have z18 := c.size
    clear c
    have onew : (stoC ⟨y.1, s.keep, s.size, s.list, s.len⟩ sn6 sk6 st6 sl1).all (·.oneCell') = true := by
      rw [show stoC ⟨y.1, s.keep, s.size, s.list, s.len⟩ sn6 sk6 st6 sl1 = dskC y.1 sn6 sk6 st6 ++ [I s.keep, I s.size, sl1, I s.len] from rfl, List.all_append, oneq]; simp only [List.all_cons, List.all_nil, hle.rd.one]; rfl
    have hby := hD6.blk
    have hhiq := hD6.own.1
    repeat' (first | apply Jbq | apply Jbr | apply Jbs | apply Jbt | (apply Jcg; (first | exact Jal rfl rfl | (apply Jbl; exact Us.h; exact rfl; exact Sz.h; exact rfl)); exact rfl) | refine Jcg (Pu_load Fl.h rfl (fun _ e => by rw [e]; exact hby.ld rfl)) rfl ?_)
    refine Jcy rfl (fun hc3 => ?_) (fun hc3 => ?_)
    · rw [hP]
      simp only [if_neg hc3]
      repeat' (apply Jbs)
      refine TC_anyS (fun w' => Ch (Iv gr (gr + 1)) w18 w') mixed rfl (Ch.refl _ _).drew ?_
      intro wp ep hzp hE
      have hsp := ep.size
      (refine Jco 0 rfl (by kernel_rfl) (by kernel_rfl) (by kernel_rfl) (fun _ _ _ h => h) hE (by exact Pu_loadAgg (cs := stoC ⟨y.1, s.keep, s.size, s.list, s.len⟩ sn6 sk6 st6 sl1) Us.h rfl Sz.h rfl (fun _ e j u hu => Ch.cell e (by rw [add0, hbo.cell]; exact hu) (by rw [block_of_add]; simp only [Iv]; omega))) rfl ?_; refine Jco 1 rfl (by kernel_rfl) (by kernel_rfl) (by kernel_rfl) (fun _ _ _ h => h) hE (by (apply Jbl; exact Us.h; exact rfl; exact Sz.h; exact rfl)) rfl ?_; refine Jco 2 rfl (by kernel_rfl) (by kernel_rfl) (by kernel_rfl) (fun _ _ _ h => h) hE (by exact Pu_load Fl.h rfl (fun _ e => Ch.cell e (hby.ld rfl) (by rw [block_of_add]; simp only [Iv]; omega))) rfl ?_)
      refine TA_one 3 (by kernel_rfl) rfl ?_
      have hbrp := hbr.ext ep
      refine TL_storeAgg rfl rfl Sz.h onew hbrp rfl ?_
      intro wq cq hzq hbq'
      replace hE := hE.then cq
      refine Jbq (TN_any hE ?_)
      (refine Jco 4 rfl (by kernel_rfl) (by kernel_rfl) (by kernel_rfl) (fun _ _ _ h => h) hE (by exact Jab rfl) rfl ?_)
      refine TA_done (by kernel_rfl) ?_
      have hD' := (hD6.own.ext ep).ch cq (by intro k _ _; simp only [Iv]; omega)
      have hle' := (hle.ext ep).ch cq (by intro k _ _; simp only [Iv]; omega)
      repeat' (first | apply Jbr | apply Jbu | apply Jbv)
      exact TR_of (resA1 rfl rfl rfl hbq' Us.h rfl Sz.h) ⟨sn6, sk6, st6, sl1, rfl, Ext.then_iv (E.ext ep) cq (by omega), lo6, hi6, l2, h2, hD', hle', by omega, by omega, by omega, by omega, by omega, Nat.le_refl _⟩
    · rw [hP]
      simp only [if_pos hc3]
      repeat' (first | apply Jbr | apply Jbs | apply Jbt | apply Jbz | refine Jcg (Pu_loadAgg (cs := stoC ⟨y.1, s.keep, s.size, s.list, s.len⟩ sn6 sk6 st6 sl1) Us.h rfl Sz.h rfl (fun _ e j u hu => by rw [e, add0, hbo.cell]; exact hu)) rfl ?_)
      refine TL_storeAgg rfl rfl Sz.h onew hbr rfl ?_
      clear hbr
      intro w19 c hzz hbr
      replace hbs := hbs.ch c (by simp only [Iv]; omega)
      replace hle := hle.ch c (by intro k _ _; simp only [Iv]; omega)
      replace hln := hln.ch c (by intro k _ _; simp only [Iv]; omega)
      replace hob := hob.ch c (by intro k _ _; simp only [Iv]; omega)
      replace hD6 := hD6.ch c (by simp only [Iv]; omega) (by intro k _ _; simp only [Iv]; omega)
      replace hbo := hbo.ch c (by simp only [Iv]; omega)
      replace E : Ext W _ := Ext.then_iv E c (by omega)
      have z19 := c.size
      clear c
      have hhi7 := hD6.own.1
      repeat' (first | apply Jbq | apply Jbr | apply Jbu | apply Jbv | (apply Jcg; exact Jab rfl; exact rfl))
      exact TR_of (resA1 rfl rfl rfl hbr Us.h rfl Sz.h) ⟨sn6, sk6, st6, sl1, rfl, E, lo6, hi6, l2, h2, hD6.own, hle, by omega, by omega, by omega, by omega, by omega, Nat.le_refl _⟩
  clear hb3
  obtain ⟨xD, hxD⟩ : ∃ y, y = stepD x (oSync tempT) := ⟨_, rfl⟩
  obtain ⟨xE, hxE⟩ : ∃ y, y = stepD xD (oRen tempT histT) := ⟨_, rfl⟩
  obtain ⟨y, hy⟩ : ∃ y, y = stepD xE oDir := ⟨_, rfl⟩
  obtain ⟨pQ0, pQ⟩ := pT h5 y (by rw [hy, hxE, hxD])
  repeat' (first | apply Jbr | apply Jbs | apply Jbt | apply Jbz | refine Jcg (Pu_build (cs := opC (oSync tempT) (.slice none 0 0)) rfl (by kernel_rfl)) rfl ?_)
  refine TL_call rfl en102 (do_c (o := oSync tempT) hD3 (rbn _) (fits_op _ _ _ _ (by omega) (by omega) (by decide) (by decide))) rfl rfl ?_
  rintro _ w14 ⟨rfl, c, sn4, sk4, st4, lo4, hi4, hD4, hq4⟩
  clear hD3
  replace hbs := hbs.ch c (by simp only [Iv]; omega)
  replace hbr := hbr.ch c (by simp only [Iv]; omega)
  replace hle := hle.ch c (by intro k _ _; simp only [Iv]; omega)
  replace hbo := hbo.ch c (by simp only [Iv]; omega)
  replace hln := hln.ch c (by intro k _ _; simp only [Iv]; omega)
  replace hob := hob.ch c (by intro k _ _; simp only [Iv]; omega)
  replace E : Ext W _ := Ext.then_iv E c (by omega)
  have z14 := c.size
  clear c
  rw [show stepD x (oSync tempT) = xD by rw [hxD]] at hD4
  have hhi4 := hD4.own.1
  have hg4 : (lo4 = l1 ∧ hi4 = h1) ∨ wk ≤ lo4 := by omega
  repeat' (first | apply Jbq | apply Jbr | apply Jbs | apply Jbt | refine Jcg (Pu_build (cs := opC (oRen tempT histT) (.slice none 0 0)) rfl (by kernel_rfl)) rfl ?_)
  refine TL_call rfl en102 (do_c (o := oRen tempT histT) hD4 (rbn _) (fits_op _ _ _ _ (by omega) (by omega) (by decide) (by decide))) rfl rfl ?_
  rintro _ w15 ⟨rfl, c, sn5, sk5, st5, lo5, hi5, hD5, hq5⟩
  clear hD4
  replace hbs := hbs.ch c (by simp only [Iv]; omega)
  replace hbr := hbr.ch c (by simp only [Iv]; omega)
  replace hle := hle.ch c (by intro k _ _; simp only [Iv]; omega)
  replace hbo := hbo.ch c (by simp only [Iv]; omega)
  replace hln := hln.ch c (by intro k _ _; simp only [Iv]; omega)
  replace hob := hob.ch c (by intro k _ _; simp only [Iv]; omega)
  replace E : Ext W _ := Ext.then_iv E c (by omega)
  have z15 := c.size
  clear c
  rw [show stepD xD (oRen tempT histT) = xE by rw [hxE]] at hD5
  have hhi5 := hD5.own.1
  have hg5 : (lo5 = l1 ∧ hi5 = h1) ∨ wk ≤ lo5 := by omega
  repeat' (first | apply Jbq | apply Jbr | apply Jbs | apply Jbt | refine Jcg (Pu_build (cs := opC (oDir) (.slice none 0 0)) rfl (by kernel_rfl)) rfl ?_)
  refine TL_call rfl en102 (do_c (o := oDir) hD5 (rbn _) (fits_op _ _ _ _ (by omega) (by omega) (by decide) (by decide))) rfl rfl ?_
  rintro _ w16 ⟨rfl, c, sn6, sk6, st6, lo6, hi6, hD6, hq6⟩
  clear hD5
  replace hbs := hbs.ch c (by simp only [Iv]; omega)
  replace hbr := hbr.ch c (by simp only [Iv]; omega)
  replace hle := hle.ch c (by intro k _ _; simp only [Iv]; omega)
  replace hbo := hbo.ch c (by simp only [Iv]; omega)
  replace hln := hln.ch c (by intro k _ _; simp only [Iv]; omega)
  replace hob := hob.ch c (by intro k _ _; simp only [Iv]; omega)
  replace E : Ext W _ := Ext.then_iv E c (by omega)
  have z16 := c.size
  clear c
  rw [show stepD xE (oDir) = y by rw [hy]] at hD6
  have hhi6 := hD6.own.1
  have hg6 : (lo6 = l1 ∧ hi6 = h1) ∨ wk ≤ lo6 := by omega
  have oneq := hD6.own.one
  repeat' (first | apply Jbq | apply Jbr | apply Jbs | apply Jbt | (apply Jcg; (apply Jbl; exact Us.h; exact rfl; exact Sz.h; exact rfl); exact rfl) | refine Jcg (Pu_loadAgg (cs := dskC y.1 sn6 sk6 st6) Us.h rfl Sz.h rfl (fun _ e j u hu => by rw [e]; exact hD6.ld j u hu)) rfl ?_)
  refine TL_storeBlk rfl (add0 go 0) rfl Sz.h oneq hbo (by show 0 + 6 ≤ 10; omega) ?_
  clear hbo
  intro w17 c hzz hbo
  replace hbo : Blk w17 go 66 (stoC ⟨y.1, s.keep, s.size, s.list, s.len⟩ sn6 sk6 st6 sl1) := hbo
  replace hbs := hbs.ch c (by simp only [Iv]; omega)
  replace hbr := hbr.ch c (by simp only [Iv]; omega)
  replace hle := hle.ch c (by intro k _ _; simp only [Iv]; omega)
  replace hln := hln.ch c (by intro k _ _; simp only [Iv]; omega)
  replace hob := hob.ch c (by intro k _ _; simp only [Iv]; omega)
  replace hD6 := hD6.ch c (by simp only [Iv]; omega) (by intro k _ _; simp only [Iv]; omega)
  replace E : Ext W _ := Ext.then_iv E c (by omega)
  have z17 := c.size
  clear c
  have onew : (stoC ⟨y.1, s.keep, s.size, s.list, s.len⟩ sn6 sk6 st6 sl1).all (·.oneCell') = true := by
    rw [show stoC ⟨y.1, s.keep, s.size, s.list, s.len⟩ sn6 sk6 st6 sl1 = dskC y.1 sn6 sk6 st6 ++ [I s.keep, I s.size, sl1, I s.len] from rfl, List.all_append, oneq]; simp only [List.all_cons, List.all_nil, hle.rd.one]; rfl
  have hby := hD6.blk
  have hhiq := hD6.own.1
  repeat' (first | apply Jbq | apply Jbr | apply Jbs | apply Jbt | (apply Jcg; (first | exact Jal rfl rfl | (apply Jbl; exact Us.h; exact rfl; exact Sz.h; exact rfl)); exact rfl) | refine Jcg (Pu_load Fl.h rfl (fun _ e => by rw [e]; exact hby.ld rfl)) rfl ?_)
  refine Jcy rfl (fun hc3 => ?_) (fun hc3 => ?_)
  · rw [pQ hc3]
    repeat' (apply Jbs)
    refine TC_anyS (fun w' => Ch (Iv gr (gr + 1)) w17 w') mixed rfl (Ch.refl _ _).drew ?_
    intro wp ep hzp hE
    have hsp := ep.size
    (refine Jco 0 rfl (by kernel_rfl) (by kernel_rfl) (by kernel_rfl) (fun _ _ _ h => h) hE (by exact Pu_loadAgg (cs := stoC ⟨y.1, s.keep, s.size, s.list, s.len⟩ sn6 sk6 st6 sl1) Us.h rfl Sz.h rfl (fun _ e j u hu => Ch.cell e (by rw [add0, hbo.cell]; exact hu) (by rw [block_of_add]; simp only [Iv]; omega))) rfl ?_; refine Jco 1 rfl (by kernel_rfl) (by kernel_rfl) (by kernel_rfl) (fun _ _ _ h => h) hE (by (apply Jbl; exact Us.h; exact rfl; exact Sz.h; exact rfl)) rfl ?_; refine Jco 2 rfl (by kernel_rfl) (by kernel_rfl) (by kernel_rfl) (fun _ _ _ h => h) hE (by exact Pu_load Fl.h rfl (fun _ e => Ch.cell e (hby.ld rfl) (by rw [block_of_add]; simp only [Iv]; omega))) rfl ?_)
    refine TA_one 3 (by kernel_rfl) rfl ?_
    have hbrp := hbr.ext ep
    refine TL_storeAgg rfl rfl Sz.h onew hbrp rfl ?_
    intro wq cq hzq hbq'
    replace hE := hE.then cq
    refine Jbq (TN_any hE ?_)
    (refine Jco 4 rfl (by kernel_rfl) (by kernel_rfl) (by kernel_rfl) (fun _ _ _ h => h) hE (by exact Jab rfl) rfl ?_)
    refine TA_done (by kernel_rfl) ?_
    have hD' := (hD6.own.ext ep).ch cq (by intro k _ _; simp only [Iv]; omega)
    have hle' := (hle.ext ep).ch cq (by intro k _ _; simp only [Iv]; omega)
    repeat' (first | apply Jbr | apply Jbu | apply Jbv)
    exact TR_of (resA1 rfl rfl rfl hbq' Us.h rfl Sz.h) ⟨sn6, sk6, st6, sl1, rfl, Ext.then_iv (E.ext ep) cq (by omega), lo6, hi6, l2, h2, hD', hle', by omega, by omega, by omega, by omega, by omega, Nat.le_refl _⟩
  rw [pQ0 hc3]
  rw [← hlq]
  repeat' (first | apply Jbr | apply Jbs | apply Jbt | apply Jbz | (apply Jcg; (first | exact Jaa rfl | exact Jac Us.h rfl | (apply Jbl; exact Us.h; exact rfl; exact Sz.h; exact rfl)); exact rfl))
  refine TL_store rfl rfl Sz.h hvl hbo rfl ?_
  clear hbo
  intro w18 c hzz hbo
  replace hbo : Blk w18 go 66 (stoC ⟨y.1, s.keep, s.size, ln, s.len⟩ sn6 sk6 st6 vl) := hbo
  replace hbs := hbs.ch c (by simp only [Iv]; omega)
  replace hbr := hbr.ch c (by simp only [Iv]; omega)
  replace hle := hle.ch c (by intro k _ _; simp only [Iv]; omega)
  replace hln := hln.ch c (by intro k _ _; simp only [Iv]; omega)
  replace hob := hob.ch c (by intro k _ _; simp only [Iv]; omega)
  replace hD6 := hD6.ch c (by simp only [Iv]; omega) (by intro k _ _; simp only [Iv]; omega)
  replace E : Ext W _ := Ext.then_iv E c (by omega)
  have z18 := c.size
  clear c
  repeat' ((apply Jcg; (apply Jbl; exact Us.h; exact rfl; exact Sz.h; exact rfl); exact rfl))
  refine TL_store rfl rfl Sz.h rfl hbo rfl ?_
  clear hbo
  intro w19 c hzz hbo
  replace hbo : Blk w19 go 66 (stoC ⟨y.1, s.keep, s.size, ln, (b.length : Int)⟩ sn6 sk6 st6 vl) := hbo
  replace hbs := hbs.ch c (by simp only [Iv]; omega)
  replace hbr := hbr.ch c (by simp only [Iv]; omega)
  replace hle := hle.ch c (by intro k _ _; simp only [Iv]; omega)
  replace hln := hln.ch c (by intro k _ _; simp only [Iv]; omega)
  replace hob := hob.ch c (by intro k _ _; simp only [Iv]; omega)
  replace hD6 := hD6.ch c (by simp only [Iv]; omega) (by intro k _ _; simp only [Iv]; omega)
  replace E : Ext W _ := Ext.then_iv E c (by omega)
  have z19 := c.size
  clear c
  have one5 : (stoC ⟨y.1, s.keep, s.size, ln, (b.length : Int)⟩ sn6 sk6 st6 vl).all (·.oneCell') = true := by
    rw [show stoC ⟨y.1, s.keep, s.size, ln, (b.length : Int)⟩ sn6 sk6 st6 vl = dskC y.1 sn6 sk6 st6 ++ [I s.keep, I s.size, vl, I (b.length : Int)] from rfl, List.all_append, oneq]; simp only [List.all_cons, List.all_nil, hvl]; rfl
  repeat' (first | apply Jbq | apply Jbr | apply Jbs | apply Jbt | refine Jcg (Pu_loadAgg (cs := stoC ⟨y.1, s.keep, s.size, ln, (b.length : Int)⟩ sn6 sk6 st6 vl) Us.h rfl Sz.h rfl (fun _ e j u hu => by rw [e, add0, hbo.cell]; exact hu)) rfl ?_)
  refine TL_storeAgg rfl rfl Sz.h one5 hbr rfl ?_
  clear hbr
  intro w20 c hzz hbr
  replace hbs := hbs.ch c (by simp only [Iv]; omega)
  replace hle := hle.ch c (by intro k _ _; simp only [Iv]; omega)
  replace hln := hln.ch c (by intro k _ _; simp only [Iv]; omega)
  replace hob := hob.ch c (by intro k _ _; simp only [Iv]; omega)
  replace hD6 := hD6.ch c (by simp only [Iv]; omega) (by intro k _ _; simp only [Iv]; omega)
  replace hbo := hbo.ch c (by simp only [Iv]; omega)
  replace E : Ext W _ := Ext.then_iv E c (by omega)
  have z20 := c.size
  clear c
  have hhi7 := hD6.own.1
  repeat' (first | apply Jbq | apply Jbr | apply Jbu | (apply Jcg; exact Jab rfl; exact rfl))
  exact TR_of (resA1 rfl rfl rfl hbr Us.h rfl Sz.h) ⟨sn6, sk6, st6, vl, rfl, E, lo6, hi6, _, _, hD6.own, hln, by omega, by omega, by omega, by omega, by omega, Nat.le_refl _⟩
end Go.Proofs.YtggaghghclomkaaGreat

/- Contracts: a store is tidied, by the reference. Conditions: the store is right. -/
namespace Go.Proofs.YtggaghghclomkaaGreat
open Go.RowKit
attribute [local irreducible] TL TC TN TX TR TQ TA Pu Ret
set_option maxRecDepth 100000 in
set_option maxHeartbeats 16000000 in
theorem specTidy_c {W : World} {lo hi : Nat} {s : StoreP} {sn sk st sl : Value} (h : RSt W lo hi s sn sk st sl) (hf : s.fits) (hl : totS s ≤ 1048576) (hS : SOk s) :
    Ret Tryz.prog 49 #[.agg (stoC s sn sk st sl).toArray] W fun v' w' => ∃ sn' sk' st' sl', v' = .tuple #[.agg (stoC (pTidy s).1 sn' sk' st' sl').toArray, I (pTidy s).2] ∧ Ext W w' ∧ OSt w' W.heap.size w'.heap.size (pTidy s).1 sn' sk' st' sl' := by
  obtain ⟨Al, cl, rfl, hcl, hrl⟩ := h.2
  have hh := h
  obtain ⟨p1, p2⟩ := totS_parts hl
  refine Ret_enter Tryz.func49 rfl rfl rfl ?_
  have E : Ext W W := Ch.refl _ _
  repeat' (first | apply Jbs | apply Jbt)
  refine TL_box (cs := stoC s sn sk st (.slice Al s.list.length cl)) rfl rfl ?_
  intro w1 gs e hghbs hzhbs hbs
  replace E := E.ext e
  have z1 := e.size
  clear e
  have hlthbs := hbs.lt
  skip
  refine TL_alloc Zs.h rfl rfl ?_
  intro w2 gr e hghbr hzhbr hbr
  replace hbs := hbs.ext e
  replace E := E.ext e
  have z2 := e.size
  clear e
  have hlthbr := hbr.lt
  repeat' (first | apply Jbq | apply Jbr | apply Jbs | apply Jbt | (apply Jcg; exact Jab rfl; exact rfl) | refine Jcg (Pu_loadAgg (cs := stoC s sn sk st (.slice Al s.list.length cl)) Us.h rfl Sz.h rfl (fun _ e j u hu => by rw [e, add0, hbs.cell]; exact hu)) rfl ?_)
  refine TL_call rfl en112 (specStoreOk_c (hh.ext E) hf hl) rfl rfl ?_
  rintro _ w3 ⟨rfl, e⟩
  rw [pSOk_yes hS]
  replace hbs := hbs.ext e
  replace hbr := hbr.ext e
  replace E := E.ext e
  have z3 := e.size
  clear e
  repeat' (first | apply Jbq | apply Jbr | apply Jbs | apply Jbt | apply Jbz | (refine Jcf rfl ?_) | (apply Jcg; exact Jaj rfl; exact rfl) | refine Jcg (Pu_loadAgg (cs := stoC s sn sk st (.slice Al s.list.length cl)) Us.h rfl Sz.h rfl (fun _ e j u hu => by rw [e, add0, hbs.cell]; exact hu)) rfl ?_)
  refine TL_call rfl en119 (specl06Copy_c (hh.ext E) hl) rfl rfl ?_
  rintro _ w4 ⟨sn1, sk1, st1, sl1, m, rfl, e, hd, hle, q1, q2⟩
  replace hbs := hbs.ext e
  replace hbr := hbr.ext e
  replace E := E.ext e
  have z4 := e.size
  clear e
  have oneo := sto_one hd.one hle.rd.one
  obtain ⟨l1, hl1⟩ : ∃ l, l = w3.heap.size := ⟨_, rfl⟩
  obtain ⟨h1, hh1⟩ : ∃ l, l = m := ⟨_, rfl⟩
  obtain ⟨l2, hl2⟩ : ∃ l, l = m := ⟨_, rfl⟩
  obtain ⟨h2, hh2⟩ : ∃ l, l = w4.heap.size := ⟨_, rfl⟩
  rw [← hl1, ← hh1] at hd
  rw [← hl2, ← hh2] at hle
  have hap : h1 ≤ l2 ∨ h2 ≤ l1 := by omega
  skip
  refine TL_alloc Zs.h rfl rfl ?_
  intro w5 go e hghbo hzhbo hbo
  replace hbs := hbs.ext e
  replace hbr := hbr.ext e
  replace hd := hd.ext e
  replace hle := hle.ext e
  replace E := E.ext e
  have z5 := e.size
  clear e
  have hlthbo := hbo.lt
  skip
  refine TL_storeAgg rfl rfl Sz.h oneo hbo rfl ?_
  clear hbo
  intro w6 c hzz hbo
  replace hbs := hbs.ch c (by simp only [Iv]; omega)
  replace hbr := hbr.ch c (by simp only [Iv]; omega)
  replace hd := hd.ch c (by intro k _ _; simp only [Iv]; omega)
  replace hle := hle.ch c (by intro k _ _; simp only [Iv]; omega)
  replace E : Ext W _ := Ext.then_iv E c (by omega)
  have z6 := c.size
  clear c
  repeat' (first | apply Jbq | apply Jbr | apply Jbs | apply Jbt | (apply Jcg; (first | exact Jaa rfl | exact Jan rfl rfl | (apply Jbl; exact Us.h; exact rfl; exact Sz.h; exact rfl)); exact rfl) | refine Jcg (Pu_load Fl.h rfl (fun _ e => by rw [e]; exact hbs.ld rfl)) rfl ?_)
  refine Jcs rfl rfl (fun hc => ?_) (fun hc => ?_)
  · rw [pTidy_same hS (.inl (by omega))]
    repeat' (first | apply Jbq | apply Jbr | apply Jbs | apply Jbt | (refine Jce rfl ?_) | (apply Jcg; exact Jah rfl rfl; exact rfl) | refine Jci rfl rfl rfl rfl rfl ?_ | refine Jcg (Pu_loadAgg (cs := stoC s sn1 sk1 st1 sl1) Us.h rfl Sz.h rfl (fun _ e j u hu => by rw [e, add0, hbo.cell]; exact hu)) rfl ?_)
    refine TL_storeAgg rfl rfl Sz.h oneo hbr rfl ?_
    clear hbr
    intro w7 c hzz hbr
    replace hbs := hbs.ch c (by simp only [Iv]; omega)
    replace hd := hd.ch c (by intro k _ _; simp only [Iv]; omega)
    replace hle := hle.ch c (by intro k _ _; simp only [Iv]; omega)
    replace hbo := hbo.ch c (by simp only [Iv]; omega)
    replace E : Ext W _ := Ext.then_iv E c (by omega)
    have z7 := c.size
    clear c
    repeat' (first | apply Jbq | apply Jbr | apply Jbu | apply Jbv | (apply Jcg; exact Jab rfl; exact rfl))
    exact TR_of (resA1 rfl rfl rfl hbr Us.h rfl Sz.h) ⟨sn1, sk1, st1, sl1, rfl, E, l1, h1, l2, h2, hd, hle, hap, by omega, by omega, by omega, by omega, Nat.le_refl _⟩
  repeat' (first | apply Jbq | apply Jbr | (apply Jcg; (first | exact Jac Us.h rfl | exact Jai rfl rfl | exact Jan rfl rfl | (apply Jbl; exact Us.h; exact rfl; exact Sz.h; exact rfl)); exact rfl) | refine Jch rfl rfl rfl ?_ | refine Jcg (Pu_load Fl.h rfl (fun _ e => by rw [e]; exact hbs.ld rfl)) rfl ?_)
  refine Jcx rfl (fun hc2 => ?_) (fun hc2 => ?_)
  · rw [pTidy_same hS (.inr (by omega))]
    repeat' (first | apply Jbs | apply Jbt | refine Jcg (Pu_loadAgg (cs := stoC s sn1 sk1 st1 sl1) Us.h rfl Sz.h rfl (fun _ e j u hu => by rw [e, add0, hbo.cell]; exact hu)) rfl ?_)
    refine TL_storeAgg rfl rfl Sz.h oneo hbr rfl ?_
    clear hbr
    intro w7 c hzz hbr
    replace hbs := hbs.ch c (by simp only [Iv]; omega)
    replace hd := hd.ch c (by intro k _ _; simp only [Iv]; omega)
    replace hle := hle.ch c (by intro k _ _; simp only [Iv]; omega)
    replace hbo := hbo.ch c (by simp only [Iv]; omega)
    replace E : Ext W _ := Ext.then_iv E c (by omega)
    have z7 := c.size
    clear c
    repeat' (first | apply Jbq | apply Jbr | apply Jbu | apply Jbv | (apply Jcg; exact Jab rfl; exact rfl))
    exact TR_of (resA1 rfl rfl rfl hbr Us.h rfl Sz.h) ⟨sn1, sk1, st1, sl1, rfl, E, l1, h1, l2, h2, hd, hle, hap, by omega, by omega, by omega, by omega, Nat.le_refl _⟩
  repeat' (first | apply Jbr | apply Jbs | apply Jbt | apply Jbz | (apply Jcg; (apply Jbl; exact Us.h; exact rfl; exact Sz.h; exact rfl); exact rfl) | refine Jcg (Pu_load Fl.h rfl (fun _ e => by rw [e]; exact hbs.ld rfl)) rfl ?_)
  refine TL_call rfl en123 (specLastOf_k (n := s.keep) (hh.2.ext E) (totS_parts hl).2) rfl rfl ?_
  rintro vl w7 ⟨e, hln⟩
  replace hbs := hbs.ext e
  replace hbr := hbr.ext e
  replace hd := hd.ext e
  replace hle := hle.ext e
  replace hbo := hbo.ext e
  replace E := E.ext e
  have z7 := e.size
  clear e
  obtain ⟨ln, hlq⟩ : ∃ l, l = pLast s.list s.keep := ⟨_, rfl⟩
  rw [← hlq] at hln
  have hlnl : ln.length ≤ 1048576 := by have := (totS_parts hl).2; rw [hlq]; unfold pLast; rw [List.length_drop]; omega
  repeat' (first | apply Jbq | apply Jbr | apply Jbs | apply Jbt | (apply Jcg; (first | exact Jaa rfl | exact Jab rfl); exact rfl))
  refine TL_call rfl en124 (specLogBytes_k hln.rd hlnl) rfl rfl ?_
  rintro _ w8 ⟨vb, rfl, e, hob⟩
  replace hbs := hbs.ext e
  replace hbr := hbr.ext e
  replace hd := hd.ext e
  replace hle := hle.ext e
  replace hbo := hbo.ext e
  replace hln := hln.ext e
  replace E := E.ext e
  have z8 := e.size
  clear e
  obtain ⟨b, hbq⟩ : ∃ b, b = (pLog ln).1 := ⟨_, rfl⟩
  rw [← hbq] at hob
  obtain ⟨Ab, cb, rfl⟩ : ∃ A c, vb = .slice A b.length c := by obtain ⟨A, c, h, _⟩ := hob; exact ⟨A, c, h⟩
  have hvl : vl.oneCell' = true := hln.rd.one
  obtain ⟨xA, hxA⟩ : ∃ x, x = pDo s.disk oDir := ⟨_, rfl⟩
  obtain ⟨xB, hxB⟩ : ∃ x, x = stepD xA (oMk tempT) := ⟨_, rfl⟩
  obtain ⟨x, hx⟩ : ∃ x, x = stepD xB (oApp tempT b) := ⟨_, rfl⟩
  obtain ⟨pT5, pT⟩ := pTidy_is (b := b) (x := x) hS (by omega) (by rw [← hlq]; exact hbq) (by rw [hx, hxB, hxA])
  have hD0 : StX w8 go ⟨s.disk, s.keep, s.size, s.list, s.len⟩ sn1 sk1 st1 sl1 l1 h1 := ⟨hbo, hd, .inl (by omega), hf.1, p1⟩
  clear hbo hd
  obtain ⟨wk, hwk⟩ : ∃ k, k = w8.heap.size := ⟨_, rfl⟩
  repeat' (first | apply Jbq | apply Jbr | apply Jbs | apply Jbt | (apply Jcg; (first | exact Jaa rfl | exact Jab rfl | exact Jae rfl rfl); exact rfl))
  refine TL_call rfl en105 (l06Do_y (o := oDir) (y := xA) hD0 opOf_dir (fits_op _ _ _ _ (by omega) (by omega) (by decide) (by decide)) hxA.symm) rfl rfl ?_
  rintro _ w9 ⟨rfl, c, snA, skA, stA, loA, hiA, hDA, hqA, hrA⟩
  clear hD0
  replace hbs := hbs.ch c (by simp only [Iv]; omega)
  replace hbr := hbr.ch c (by simp only [Iv]; omega)
  replace hle := hle.ch c (by intro k _ _; simp only [Iv]; omega)
  replace hln := hln.ch c (by intro k _ _; simp only [Iv]; omega)
  replace hob := hob.ch c (by intro k _ _; simp only [Iv]; omega)
  replace E : Ext W _ := Ext.then_iv E c (by omega)
  have z9 := c.size
  clear c
  have hgA : wk ≤ loA := by omega
  have cA : Ch (Iv go (go + 1)) w9 w9 := Ch.refl _ _
  have hsA := cA.size
  repeat' (first | apply Jbq | apply Jbr | (apply Jcg; exact Jab rfl; exact rfl))
  refine TC_join (ι := Unit) (fun _ => [(2, .pointer (some ⟨gr, 0, none⟩)), (4, .pointer (some ⟨go, 0, none⟩)), (5, vl), (6, .slice Ab b.length cb), (8, I xB.2)]) (fun _ w' => Ch (Iv go (go + 1)) w9 w' ∧ (∃ sn sk st lo hi, StX w' go ⟨xB.1, s.keep, s.size, s.list, s.len⟩ sn sk st sl1 lo hi ∧ wk ≤ lo)) ?_ ?_
  · repeat' (first | apply Jbq | apply Jbr | apply Jbs | apply Jbt | (apply Jcg; (first | exact Jaa rfl | exact Jak rfl rfl); exact rfl))
    refine Jcx rfl (fun hc => ?_) (fun hc => ?_)
    · repeat' (apply Jbt)
      refine TL_call rfl en105 (l06Do_y (o := oMk tempT) (y := xB) hDA (opOf_mk _) (fits_op _ _ _ _ (by omega) (by omega) (by decide) (by decide)) (by rw [hxB]; exact stepD_ok hc)) rfl rfl ?_
      rintro _ wz ⟨rfl, cz, snz, skz, stz, loz, hiz, hDz, hqz, hrz⟩
      have hsz := cz.size
      repeat' (first | apply Jbq | (apply Jcg; exact Jab rfl; exact rfl))
      exact TN_join () (subEnv_cons rfl (subEnv_cons rfl (subEnv_cons rfl (subEnv_cons rfl (subEnv_cons rfl (subEnv_nil _)))))) ⟨cA.then cz, ⟨_, _, _, _, _, hDz, by omega⟩⟩
    · have hst : xB = xA := by rw [hxB]; exact stepD_no hc
      subst hst
      repeat' (apply Jbz)
      exact TN_join () (subEnv_cons rfl (subEnv_cons rfl (subEnv_cons rfl (subEnv_cons rfl (subEnv_cons rfl (subEnv_nil _)))))) ⟨cA, ⟨_, _, _, _, _, hDA, by omega⟩⟩
  rintro _ wB ⟨cB, ⟨snB, skB, stB, loB, hiB, hDB, hgB⟩⟩
  clear hDA
  have hsB := cB.size
  skip
  refine TC_join (ι := Unit) (fun _ => [(2, .pointer (some ⟨gr, 0, none⟩)), (4, .pointer (some ⟨go, 0, none⟩)), (5, vl), (6, .slice Ab b.length cb), (8, I x.2)]) (fun _ w' => Ch (Iv go (go + 1)) w9 w' ∧ (∃ sn sk st lo hi, StX w' go ⟨x.1, s.keep, s.size, s.list, s.len⟩ sn sk st sl1 lo hi ∧ wk ≤ lo) ∧ x.2 ≠ 5) ?_ ?_
  · have hobB := hob.ch cB (by intro k _ _; simp only [Iv]; omega)
    repeat' (first | apply Jbq | apply Jbr | apply Jbs | apply Jbt | (apply Jcg; (first | exact Jaa rfl | exact Jak rfl rfl); exact rfl))
    refine Jcx rfl (fun hc => ?_) (fun hc => ?_)
    · repeat' (first | apply Jbs | apply Jbt | (apply Jcg; exact Jaa rfl; exact rfl))
      refine TL_call rfl en122 (l06Put_y (y := x) hDB hobB.rd (fits_app (by decide)) (by rw [hx]; exact stepD_ok hc)) rfl rfl ?_
      rintro _ wz ⟨rfl, cz, snz, skz, stz, loz, hiz, hDz, hqz, hrz⟩
      have hsz := cz.size
      have cBz := cB.then cz
      repeat' (first | apply Jbq | apply Jbr | apply Jbs | apply Jbt | (apply Jcg; (first | exact Jaa rfl | exact Jab rfl | exact Jak rfl rfl); exact rfl))
      refine Jcx rfl (fun h5 => ?_) (fun h5 => ?_)
      · obtain ⟨yA, hyA⟩ : ∃ y, y = pDo x.1 (oRm tempT) := ⟨_, rfl⟩
        obtain ⟨y, hy⟩ : ∃ y, y = stepD yA oDir := ⟨_, rfl⟩
        have hP := pT5 h5 y (by rw [hy, hyA])
        repeat' (first | apply Jbs | apply Jbt)
        refine TL_call rfl en105 (l06Do_y (o := oRm tempT) (y := yA) hDz opOf_rm (fits_op _ _ _ _ (by omega) (by omega) (by decide) (by decide)) hyA.symm) rfl rfl ?_
        rintro _ wy ⟨rfl, cy, sny, sky, sty, loy, hiy, hDy, hqy, hry⟩
        have hsy := cy.size
        have cBy := cBz.then cy
        repeat' (first | apply Jbq | apply Jbr | apply Jbs | apply Jbt | (apply Jcg; (first | exact Jaa rfl | exact Jab rfl | exact Jak rfl rfl); exact rfl))
        refine Jcx rfl (fun h6 => ?_) (fun h6 => ?_)
        · repeat' (apply Jbt)
          refine TL_call rfl en105 (l06Do_y (o := oDir) (y := y) hDy opOf_dir (fits_op _ _ _ _ (by omega) (by omega) (by decide) (by decide)) (by rw [hy]; exact stepD_ok h6)) rfl rfl ?_
          rintro _ wx ⟨rfl, cx, snx, skx, stx, lox, hix, hDx, hqx, hrx⟩
          have hsx := cx.size
          have cBx := cBy.then cx
          repeat' (first | apply Jbq | apply Jbr | apply Jbs | apply Jbt | (apply Jcg; (first | exact Jaa rfl | exact Jab rfl | exact Jak rfl rfl); exact rfl))
          refine Jcx rfl (fun h7 => ?_) (fun h7 => ?_)
          · rw [hP]
            simp only [if_pos h7]
            have oneq := hDx.own.one
            have onew : (stoC ⟨y.1, s.keep, s.size, s.list, s.len⟩ snx skx stx sl1).all (·.oneCell') = true := by
              rw [show stoC ⟨y.1, s.keep, s.size, s.list, s.len⟩ snx skx stx sl1 = dskC y.1 snx skx stx ++ [I s.keep, I s.size, sl1, I s.len] from rfl, List.all_append, oneq]; simp only [List.all_cons, List.all_nil, hle.rd.one]; rfl
            have hbq' := hDx.blk
            have hsq := cBx.size
            have hbrq := hbr.ch cBx (by simp only [Iv]; omega)
            have hleq := hle.ch cBx (by intro k _ _; simp only [Iv]; omega)
            have Eq' : Ext W _ := Ext.then_iv E cBx (by omega)
            repeat' (first | apply Jbq | apply Jbr | apply Jbs | apply Jbt | (apply Jcg; (first | exact Jaa rfl | exact Jab rfl); exact rfl) | refine Jcg (Pu_loadAgg (cs := stoC ⟨y.1, s.keep, s.size, s.list, s.len⟩ snx skx stx sl1) Us.h rfl Sz.h rfl (fun _ e j u hu => by rw [e, add0, hbq'.cell]; exact hu)) rfl ?_)
            refine TL_storeAgg rfl rfl Sz.h onew hbrq rfl ?_
            intro wq cq hzq hbrr
            have hhq := hDx.own.1
            repeat' (first | apply Jbq | apply Jbr | apply Jbu | apply Jbv | (apply Jcg; exact Jab rfl; exact rfl))
            exact TR_of (resA1 rfl rfl rfl hbrr Us.h rfl Sz.h) ⟨snx, skx, stx, sl1, rfl, Ext.then_iv Eq' cq (by omega), lox, hix, l2, h2, hDx.own.ch cq (by intro k _ _; simp only [Iv]; omega), hleq.ch cq (by intro k _ _; simp only [Iv]; omega), .inr (by omega), by omega, by omega, by omega, by omega, Nat.le_refl _⟩
          · rw [hP]
            simp only [if_neg h7]
            have oneq := hDx.own.one
            have onew : (stoC ⟨y.1, s.keep, s.size, s.list, s.len⟩ snx skx stx sl1).all (·.oneCell') = true := by
              rw [show stoC ⟨y.1, s.keep, s.size, s.list, s.len⟩ snx skx stx sl1 = dskC y.1 snx skx stx ++ [I s.keep, I s.size, sl1, I s.len] from rfl, List.all_append, oneq]; simp only [List.all_cons, List.all_nil, hle.rd.one]; rfl
            have hbq' := hDx.blk
            have hsq := cBx.size
            have hbrq := hbr.ch cBx (by simp only [Iv]; omega)
            have hleq := hle.ch cBx (by intro k _ _; simp only [Iv]; omega)
            have Eq' : Ext W _ := Ext.then_iv E cBx (by omega)
            repeat' (first | apply Jbr | apply Jbs | apply Jbt | apply Jbz | (apply Jcg; exact Jaa rfl; exact rfl) | refine Jcg (Pu_loadAgg (cs := stoC ⟨y.1, s.keep, s.size, s.list, s.len⟩ snx skx stx sl1) Us.h rfl Sz.h rfl (fun _ e j u hu => by rw [e, add0, hbq'.cell]; exact hu)) rfl ?_)
            refine TL_storeAgg rfl rfl Sz.h onew hbrq rfl ?_
            intro wq cq hzq hbrr
            have hhq := hDx.own.1
            repeat' (first | apply Jbq | apply Jbr | apply Jbu | apply Jbv | (apply Jcg; exact Jab rfl; exact rfl))
            exact TR_of (resA1 rfl rfl rfl hbrr Us.h rfl Sz.h) ⟨snx, skx, stx, sl1, rfl, Ext.then_iv Eq' cq (by omega), lox, hix, l2, h2, hDx.own.ch cq (by intro k _ _; simp only [Iv]; omega), hleq.ch cq (by intro k _ _; simp only [Iv]; omega), .inr (by omega), by omega, by omega, by omega, by omega, Nat.le_refl _⟩
        · have hyx : y = yA := by rw [hy]; exact stepD_no h6
          subst hyx
          repeat' (first | apply Jbq | apply Jbr | apply Jbs | apply Jbt | apply Jbz | (apply Jcg; (first | exact Jaa rfl | exact Jak rfl rfl); exact rfl))
          refine Jcx rfl (fun h8 => absurd h8 h6) (fun _ => ?_)
          rw [hP]
          simp only [if_neg h6]
          have oneq := hDy.own.one
          have onew : (stoC ⟨y.1, s.keep, s.size, s.list, s.len⟩ sny sky sty sl1).all (·.oneCell') = true := by
            rw [show stoC ⟨y.1, s.keep, s.size, s.list, s.len⟩ sny sky sty sl1 = dskC y.1 sny sky sty ++ [I s.keep, I s.size, sl1, I s.len] from rfl, List.all_append, oneq]; simp only [List.all_cons, List.all_nil, hle.rd.one]; rfl
          have hbq' := hDy.blk
          have hsq := cBy.size
          have hbrq := hbr.ch cBy (by simp only [Iv]; omega)
          have hleq := hle.ch cBy (by intro k _ _; simp only [Iv]; omega)
          have Eq' : Ext W _ := Ext.then_iv E cBy (by omega)
          repeat' (first | apply Jbr | apply Jbs | apply Jbt | apply Jbz | (apply Jcg; exact Jaa rfl; exact rfl) | refine Jcg (Pu_loadAgg (cs := stoC ⟨y.1, s.keep, s.size, s.list, s.len⟩ sny sky sty sl1) Us.h rfl Sz.h rfl (fun _ e j u hu => by rw [e, add0, hbq'.cell]; exact hu)) rfl ?_)
          refine TL_storeAgg rfl rfl Sz.h onew hbrq rfl ?_
          intro wq cq hzq hbrr
          have hhq := hDy.own.1
          repeat' (first | apply Jbq | apply Jbr | apply Jbu | apply Jbv | (apply Jcg; exact Jab rfl; exact rfl))
          exact TR_of (resA1 rfl rfl rfl hbrr Us.h rfl Sz.h) ⟨sny, sky, sty, sl1, rfl, Ext.then_iv Eq' cq (by omega), loy, hiy, l2, h2, hDy.own.ch cq (by intro k _ _; simp only [Iv]; omega), hleq.ch cq (by intro k _ _; simp only [Iv]; omega), .inr (by omega), by omega, by omega, by omega, by omega, Nat.le_refl _⟩
      · repeat' (apply Jbz)
        exact TN_join () (subEnv_cons rfl (subEnv_cons rfl (subEnv_cons rfl (subEnv_cons rfl (subEnv_cons rfl (subEnv_nil _)))))) ⟨cBz, ⟨_, _, _, _, _, hDz, by omega⟩, h5⟩
    · have hst : x = xB := by rw [hx]; exact stepD_no hc
      have h5 : x.2 ≠ 5 := by
        rw [hst, hxB]
        unfold stepD
        split
        · exact code5 (by simp)
        · rw [hxA]; exact code5 (by simp)
      subst hst
      repeat' (apply Jbz)
      exact TN_join () (subEnv_cons rfl (subEnv_cons rfl (subEnv_cons rfl (subEnv_cons rfl (subEnv_cons rfl (subEnv_nil _)))))) ⟨cB, ⟨_, _, _, _, _, hDB, by omega⟩, h5⟩
  rintro _ wC ⟨cC, ⟨snC, skC, stC, loC, hiC, hDC, hgC⟩, h5⟩
  clear hDB
  obtain ⟨xD, hxD⟩ : ∃ y, y = stepD x (oSync tempT) := ⟨_, rfl⟩
  obtain ⟨xE, hxE⟩ : ∃ y, y = stepD xD (oRen tempT histT) := ⟨_, rfl⟩
  obtain ⟨y, hy⟩ : ∃ y, y = stepD xE oDir := ⟨_, rfl⟩
  obtain ⟨pQ0, pQ⟩ := pT h5 y (by rw [hy, hxE, hxD])
  have hsC := cC.size
  skip
  refine TC_join (ι := Unit) (fun _ => [(2, .pointer (some ⟨gr, 0, none⟩)), (4, .pointer (some ⟨go, 0, none⟩)), (5, vl), (6, .slice Ab b.length cb), (8, I xD.2)]) (fun _ w' => Ch (Iv go (go + 1)) w9 w' ∧ (∃ sn sk st lo hi, StX w' go ⟨xD.1, s.keep, s.size, s.list, s.len⟩ sn sk st sl1 lo hi ∧ wk ≤ lo)) ?_ ?_
  · repeat' (first | apply Jbq | apply Jbr | apply Jbs | apply Jbt | (apply Jcg; (first | exact Jaa rfl | exact Jak rfl rfl); exact rfl))
    refine Jcx rfl (fun hc => ?_) (fun hc => ?_)
    · repeat' (apply Jbt)
      refine TL_call rfl en105 (l06Do_y (o := oSync tempT) (y := xD) hDC (opOf_sync _) (fits_op _ _ _ _ (by omega) (by omega) (by decide) (by decide)) (by rw [hxD]; exact stepD_ok hc)) rfl rfl ?_
      rintro _ wz ⟨rfl, cz, snz, skz, stz, loz, hiz, hDz, hqz, hrz⟩
      have hsz := cz.size
      repeat' (first | apply Jbq | (apply Jcg; exact Jab rfl; exact rfl))
      exact TN_join () (subEnv_cons rfl (subEnv_cons rfl (subEnv_cons rfl (subEnv_cons rfl (subEnv_cons rfl (subEnv_nil _)))))) ⟨cC.then cz, ⟨_, _, _, _, _, hDz, by omega⟩⟩
    · have hst : xD = x := by rw [hxD]; exact stepD_no hc
      subst hst
      repeat' (apply Jbz)
      exact TN_join () (subEnv_cons rfl (subEnv_cons rfl (subEnv_cons rfl (subEnv_cons rfl (subEnv_cons rfl (subEnv_nil _)))))) ⟨cC, ⟨_, _, _, _, _, hDC, by omega⟩⟩
  rintro _ wD ⟨cD, ⟨snD, skD, stD, loD, hiD, hDD, hgD⟩⟩
  clear hDC
  have hsD := cD.size
  skip
  refine TC_join (ι := Unit) (fun _ => [(2, .pointer (some ⟨gr, 0, none⟩)), (4, .pointer (some ⟨go, 0, none⟩)), (5, vl), (6, .slice Ab b.length cb), (8, I xE.2)]) (fun _ w' => Ch (Iv go (go + 1)) w9 w' ∧ (∃ sn sk st lo hi, StX w' go ⟨xE.1, s.keep, s.size, s.list, s.len⟩ sn sk st sl1 lo hi ∧ wk ≤ lo)) ?_ ?_
  · repeat' (first | apply Jbq | apply Jbr | apply Jbs | apply Jbt | (apply Jcg; (first | exact Jaa rfl | exact Jak rfl rfl); exact rfl))
    refine Jcx rfl (fun hc => ?_) (fun hc => ?_)
    · repeat' (apply Jbt)
      refine TL_call rfl en105 (l06Do_y (o := oRen tempT histT) (y := xE) hDD opOf_ren (fits_op _ _ _ _ (by omega) (by omega) (by decide) (by decide)) (by rw [hxE]; exact stepD_ok hc)) rfl rfl ?_
      rintro _ wz ⟨rfl, cz, snz, skz, stz, loz, hiz, hDz, hqz, hrz⟩
      have hsz := cz.size
      repeat' (first | apply Jbq | (apply Jcg; exact Jab rfl; exact rfl))
      exact TN_join () (subEnv_cons rfl (subEnv_cons rfl (subEnv_cons rfl (subEnv_cons rfl (subEnv_cons rfl (subEnv_nil _)))))) ⟨cD.then cz, ⟨_, _, _, _, _, hDz, by omega⟩⟩
    · have hst : xE = xD := by rw [hxE]; exact stepD_no hc
      subst hst
      repeat' (apply Jbz)
      exact TN_join () (subEnv_cons rfl (subEnv_cons rfl (subEnv_cons rfl (subEnv_cons rfl (subEnv_cons rfl (subEnv_nil _)))))) ⟨cD, ⟨_, _, _, _, _, hDD, by omega⟩⟩
  rintro _ wE ⟨cE, ⟨snE, skE, stE, loE, hiE, hDE, hgE⟩⟩
  clear hDD
  have hsE := cE.size
  skip
  refine TC_join (ι := Unit) (fun _ => [(2, .pointer (some ⟨gr, 0, none⟩)), (4, .pointer (some ⟨go, 0, none⟩)), (5, vl), (6, .slice Ab b.length cb), (8, I y.2)]) (fun _ w' => Ch (Iv go (go + 1)) w9 w' ∧ (∃ sn sk st lo hi, StX w' go ⟨y.1, s.keep, s.size, s.list, s.len⟩ sn sk st sl1 lo hi ∧ wk ≤ lo)) ?_ ?_
  · repeat' (first | apply Jbq | apply Jbr | apply Jbs | apply Jbt | (apply Jcg; (first | exact Jaa rfl | exact Jak rfl rfl); exact rfl))
    refine Jcx rfl (fun hc => ?_) (fun hc => ?_)
    · repeat' (apply Jbt)
      refine TL_call rfl en105 (l06Do_y (o := oDir) (y := y) hDE opOf_dir (fits_op _ _ _ _ (by omega) (by omega) (by decide) (by decide)) (by rw [hy]; exact stepD_ok hc)) rfl rfl ?_
      rintro _ wz ⟨rfl, cz, snz, skz, stz, loz, hiz, hDz, hqz, hrz⟩
      have hsz := cz.size
      repeat' (first | apply Jbq | (apply Jcg; exact Jab rfl; exact rfl))
      exact TN_join () (subEnv_cons rfl (subEnv_cons rfl (subEnv_cons rfl (subEnv_cons rfl (subEnv_cons rfl (subEnv_nil _)))))) ⟨cE.then cz, ⟨_, _, _, _, _, hDz, by omega⟩⟩
    · have hst : y = xE := by rw [hy]; exact stepD_no hc
      subst hst
      repeat' (apply Jbz)
      exact TN_join () (subEnv_cons rfl (subEnv_cons rfl (subEnv_cons rfl (subEnv_cons rfl (subEnv_cons rfl (subEnv_nil _)))))) ⟨cE, ⟨_, _, _, _, _, hDE, by omega⟩⟩
  rintro _ wF ⟨cF, ⟨snF, skF, stF, loF, hiF, hDF, hgF⟩⟩
  clear hDE
  have hsF := cF.size
  repeat' (first | apply Jbq | apply Jbr | apply Jbs | apply Jbt | (apply Jcg; (first | exact Jaa rfl | exact Jak rfl rfl); exact rfl))
  refine Jcx rfl (fun h0 => ?_) (fun h0 => ?_)
  rotate_left
  · rw [pQ h0]
    have oneq := hDF.own.one
    have onew : (stoC ⟨y.1, s.keep, s.size, s.list, s.len⟩ snF skF stF sl1).all (·.oneCell') = true := by
      rw [show stoC ⟨y.1, s.keep, s.size, s.list, s.len⟩ snF skF stF sl1 = dskC y.1 snF skF stF ++ [I s.keep, I s.size, sl1, I s.len] from rfl, List.all_append, oneq]; simp only [List.all_cons, List.all_nil, hle.rd.one]; rfl
    have hbq' := hDF.blk
    have hsq := cF.size
    have hbrq := hbr.ch cF (by simp only [Iv]; omega)
    have hleq := hle.ch cF (by intro k _ _; simp only [Iv]; omega)
    have Eq' : Ext W _ := Ext.then_iv E cF (by omega)
    repeat' (first | apply Jbr | apply Jbs | apply Jbt | apply Jbz | (apply Jcg; exact Jaa rfl; exact rfl) | refine Jcg (Pu_loadAgg (cs := stoC ⟨y.1, s.keep, s.size, s.list, s.len⟩ snF skF stF sl1) Us.h rfl Sz.h rfl (fun _ e j u hu => by rw [e, add0, hbq'.cell]; exact hu)) rfl ?_)
    refine TL_storeAgg rfl rfl Sz.h onew hbrq rfl ?_
    intro wq cq hzq hbrr
    have hhq := hDF.own.1
    repeat' (first | apply Jbq | apply Jbr | apply Jbu | (apply Jcg; exact Jab rfl; exact rfl))
    exact TR_of (resA1 rfl rfl rfl hbrr Us.h rfl Sz.h) ⟨snF, skF, stF, sl1, rfl, Ext.then_iv Eq' cq (by omega), loF, hiF, l2, h2, hDF.own.ch cq (by intro k _ _; simp only [Iv]; omega), hleq.ch cq (by intro k _ _; simp only [Iv]; omega), .inr (by omega), by omega, by omega, by omega, by omega, Nat.le_refl _⟩
  rw [pQ0 h0, ← hlq]
  have hbq' := hDF.blk
  have hOF := hDF.own
  have oneq := hOF.one
  have hbrq := hbr.ch cF (by simp only [Iv]; omega)
  have hlnq := hln.ch cF (by intro k _ _; simp only [Iv]; omega)
  have Eq' : Ext W _ := Ext.then_iv E cF (by omega)
  have hhF := hOF.1
  repeat' (first | apply Jbs | apply Jbt | (apply Jcg; (first | exact Jaa rfl | (apply Jbl; exact Us.h; exact rfl; exact Sz.h; exact rfl)); exact rfl))
  refine TL_store rfl rfl Sz.h hvl hbq' rfl ?_
  intro wp cp hzp hbp
  replace hbp : Blk wp go 66 (stoC ⟨y.1, s.keep, s.size, ln, s.len⟩ snF skF stF vl) := hbp
  repeat' (first | apply Jbq | apply Jbr | apply Jbt | (apply Jcg; (first | exact Jaa rfl | exact Jac Us.h rfl | (apply Jbl; exact Us.h; exact rfl; exact Sz.h; exact rfl)); exact rfl))
  refine TL_store rfl rfl Sz.h rfl hbp rfl ?_
  intro wr cr hzr hbw
  replace hbw : Blk wr go 66 (stoC ⟨y.1, s.keep, s.size, ln, (b.length : Int)⟩ snF skF stF vl) := hbw
  have onew : (stoC ⟨y.1, s.keep, s.size, ln, (b.length : Int)⟩ snF skF stF vl).all (·.oneCell') = true := by
    rw [show stoC ⟨y.1, s.keep, s.size, ln, (b.length : Int)⟩ snF skF stF vl = dskC y.1 snF skF stF ++ [I s.keep, I s.size, vl, I (b.length : Int)] from rfl, List.all_append, oneq]; simp only [List.all_cons, List.all_nil, hvl]; rfl
  repeat' (first | apply Jbq | apply Jbr | apply Jbs | apply Jbt | (apply Jcg; exact Jaa rfl; exact rfl) | refine Jcg (Pu_loadAgg (cs := stoC ⟨y.1, s.keep, s.size, ln, (b.length : Int)⟩ snF skF stF vl) Us.h rfl Sz.h rfl (fun _ e j u hu => by rw [e, add0, hbw.cell]; exact hu)) rfl ?_)
  refine TL_storeAgg rfl rfl Sz.h onew ((hbrq.ch cp (by simp only [Iv]; omega)).ch cr (by simp only [Iv]; omega)) rfl ?_
  intro wq cq hzq hbrr
  repeat' (first | apply Jbq | apply Jbr | apply Jbu | (apply Jcg; exact Jab rfl; exact rfl))
  exact TR_of (resA1 rfl rfl rfl hbrr Us.h rfl Sz.h) ⟨snF, skF, stF, vl, by rw [h0], Ext.then_iv (Ext.then_iv (Ext.then_iv Eq' cp (by omega)) cr (by omega)) cq (by omega), loF, hiF, _, _, ((hOF.ch cp (by intro k _ _; simp only [Iv]; omega)).ch cr (by intro k _ _; simp only [Iv]; omega)).ch cq (by intro k _ _; simp only [Iv]; omega), ((hlnq.ch cp (by intro k _ _; simp only [Iv]; omega)).ch cr (by intro k _ _; simp only [Iv]; omega)).ch cq (by intro k _ _; simp only [Iv]; omega), .inr (by omega), by omega, by omega, by omega, by omega, Nat.le_refl _⟩
end Go.Proofs.YtggaghghclomkaaGreat
