/- Texts of this proof laid together, in the order in which they build; what each proves stands ahead of it. No condition but those told there. -/
import Derived.Test.YtggaghghclomkaaQFFFDFCFC68j

/- Contracts: operations one after another. -/
namespace Go.Proofs.Ytggaghghclomkaa
open Go.RowKit
attribute [local irreducible] TL TC TN TX TR TQ TA Pu Ret
set_option maxRecDepth 100000 in
set_option maxHeartbeats 8000000 in
theorem implDiskRun_c {w : World} {lo hi lo2 hi2 : Nat} {d : DiskP} {sn sk st vl : Value} {l : List OpD} (h : RDk w lo hi d sn sk st) (hf : d.fits) (hl : totD d ≤ 1048576) (ho : ROp w lo2 hi2 vl l) (hof : ∀ o ∈ l, o.fits) (hll : l.length ≤ 1099511627776) :
    Ret Try.prog 13 #[.agg (dskC d sn sk st).toArray, vl] w fun v' w' => ∃ sn' sk' st', v' = .tuple #[.agg (dskC (pRuns d l).1 sn' sk' st').toArray, I (pRuns d l).2.1, I (pRuns d l).2.2] ∧ Ext w w' ∧ ODk w' w.heap.size w'.heap.size (pRuns d l).1 sn' sk' st' := by
  have hh := h
  obtain ⟨es, A, c, hem, rfl, hc, hr, hdat⟩ := ho
  have hel : es.length = l.length := by rw [← hem, List.length_map]
  refine Ret_enter Try.func13 rfl rfl rfl ?_
  repeat' (first | apply Jbs | apply Jbt)
  refine TL_box (cs := dskC d sn sk st) rfl rfl ?_
  intro w1 g2 e1 hg2 hz1 hb2
  skip
  refine TL_alloc Zs.h rfl rfl ?_
  intro w2 g4 e2 hg4 hz2 hb4
  replace hb2 := hb2.ext e2
  have E2 : Ext w w2 := e1.ext e2
  repeat' (first | apply Jbq | apply Jbr | apply Jbs | apply Jbt | (apply Jcg; exact Jab rfl; exact rfl) | refine Jcg (Pu_loadAgg (cs := dskC d sn sk st) Us.h rfl Sz.h rfl (fun _ e j u hu => by rw [e, add0, hb2.cell]; exact hu)) rfl ?_)
  refine TL_call rfl en11 (implDiskOk_c (hh.ext E2) hf hl) rfl rfl ?_
  rintro _ w3 ⟨rfl, e3⟩
  replace hb2 := hb2.ext e3
  replace hb4 := hb4.ext e3
  have hs3 := e3.size
  have E3 := E2.ext e3
  cases hp : pDOk d with
  | false =>
    rw [pRuns_no (fun h => by rw [pDOk_yes h] at hp; cases hp)]
    repeat' (first | apply Jbq | apply Jbr | apply Jbs | apply Jbt | (refine Jce rfl ?_) | (apply Jcg; exact Jaj rfl; exact rfl) | refine Jcg (Pu_build (cs := dskC noDk (.slice none 0 0) (.slice none 0 0) (.slice none 0 0)) rfl (by kernel_rfl)) rfl ?_)
    refine TL_storeAgg rfl rfl Sz.h rfl hb4 rfl ?_
    intro w8 c8 hz8 hb8
    have E8 : Ext w w8 := Ext.then_iv E3 c8 (by omega)
    repeat' (first | apply Jbq | apply Jbr | apply Jbu | apply Jbv | (apply Jcg; exact Jab rfl; exact rfl))
    exact TR_of (resA2 rfl rfl rfl rfl hb8 Us.h rfl Sz.h) ⟨_, _, _, rfl, E8, ODk.nil (Nat.le_refl _)⟩
  | true =>
    have hD := pDOk_of hp
    rw [pRuns_yes hD]
    repeat' (first | apply Jbq | apply Jbr | apply Jbs | apply Jbt | apply Jbz | (refine Jcf rfl ?_) | (apply Jcg; exact Jaj rfl; exact rfl) | refine Jcg (Pu_loadAgg (cs := dskC d sn sk st) Us.h rfl Sz.h rfl (fun _ e j u hu => by rw [e, add0, hb2.cell]; exact hu)) rfl ?_)
    refine TL_call rfl en28 (implcopyDisk_c (hh.ext E3) hl) rfl rfl ?_
    rintro _ w4 ⟨sn1, sk1, st1, rfl, e4, hx⟩
    replace hb4 := hb4.ext e4
    have hs4 := e4.size
    have E4 := E3.ext e4
    have hone := hx.one
    skip
    refine TL_alloc Zs.h rfl rfl ?_
    intro w5 g7 e5 hg7 hz5 hb7
    replace hb4 := hb4.ext e5
    replace hx := hx.ext e5
    skip
    refine TL_storeAgg rfl rfl Sz.h hone hb7 rfl ?_
    clear hb7
    intro w6 c6 hz6 hb7
    replace hb4 := hb4.ch c6 (by simp only [Iv]; omega)
    replace hx := hx.ch c6 (by intro k _ _; simp only [Iv]; omega)
    have E6 : Ext w w6 := Ext.then_iv (E4.ext e5) c6 (by have := E4.size; omega)
    have hg47 : w.heap.size ≤ g4 ∧ g4 < w3.heap.size ∧ g7 = w4.heap.size := by have := E2.size; omega
    repeat' (first | apply Jbq | apply Jbr | apply Jbs | apply Jbt | apply Jby | (apply Jcg; (first | exact Jaa rfl | exact Jac Us.h rfl); exact rfl))
    refine TC_loop (ι := Nat × DiskP × Value × Value × Value) (fun x => [(1, .slice A es.length c), (4, .pointer (some ⟨g4, 0, none⟩)), (7, .pointer (some ⟨g7, 0, none⟩)), (18, .slice A es.length c), (19, I es.length), (20, I x.1)])
      (fun x w' => x.1 ≤ es.length ∧ DOk x.2.1 ∧ pRun d 0 l = pRun x.2.1 x.1 (l.drop x.1) ∧ Ext w w' ∧ w6.heap.size ≤ w'.heap.size ∧ Blk w' g4 27 (dskC noDk (.slice none 0 0) (.slice none 0 0) (.slice none 0 0)) ∧ Blk w' g7 27 (dskC x.2.1 x.2.2.1 x.2.2.2.1 x.2.2.2.2) ∧ ∃ lo' hi', ODk w' lo' hi' x.2.1 x.2.2.1 x.2.2.2.1 x.2.2.2.2 ∧ w3.heap.size ≤ lo' ∧ hi' ≤ w'.heap.size ∧ (g7 < lo' ∨ hi' ≤ g7)) (fun x => es.length - x.1) (0, d, sn1, sk1, st1)
      (subEnv_cons rfl (subEnv_cons rfl (subEnv_cons rfl (subEnv_cons rfl (subEnv_cons rfl (subEnv_cons rfl (subEnv_nil _))))))) ⟨Nat.zero_le _, hD, rfl, E6, Nat.le_refl _, hb4, hb7, _, _, hx, Nat.le_refl _, by omega, by omega⟩ ?_
    rintro ⟨k, dk, sn2, sk2, st2⟩ w7 ⟨hk7, hDk, hrun, E7, hs7, hb47, hb77, lo', hi', hx7, hlo, hhi, hg⟩
    simp only at hk7 hDk hrun hb77 hx7
    show TC _ _ _ _ [(1, .slice A es.length c), (4, .pointer (some ⟨g4, 0, none⟩)), (7, .pointer (some ⟨g7, 0, none⟩)), (18, .slice A es.length c), (19, I es.length), (20, I (k : Int))] w7
    repeat' (first | apply Jbq | apply Jbr | apply Jbs | apply Jbt | (apply Jcg; exact Jad rfl rfl; exact rfl))
    refine Jcx rfl (fun hlt0 => ?_) (fun hge => ?_)
    · have hlt : k < es.length := by omega
      obtain ⟨ad, rfl, hcell⟩ := Rd.elem OdC_len (hr.ext E7) hlt
      have hdx := hdat _ (List.getElem_mem hlt)
      have hlk : l[k]'(by omega) = es[k].o := by simp only [← hem, List.getElem_map]
      have hof' := hof _ (List.getElem_mem (show k < l.length by omega))
      have hdr : l.drop k = es[k].o :: l.drop (k + 1) := by rw [← hlk]; exact List.drop_eq_getElem_cons (by omega)
      rw [hlk] at hof'
      rw [hdr] at hrun
      obtain ⟨x, hx⟩ : ∃ x, x = es[k] := ⟨_, rfl⟩
      rw [← hx] at hcell hdx hof' hrun
      obtain ⟨o, v⟩ := x
      simp only at hdx hof' hrun
      have hdx0 := hdx
      obtain ⟨Ad, cd, rfl, hcd, hrd⟩ := hdx
      replace hcell : ∀ j u, (opC o (.slice Ad o.data.length cd))[j]? = some u → w7.cell? ((ad.add (k * 5)).add j) = some u := hcell
      repeat' (first | apply Jbq | apply Jbr | apply Jbs | apply Jbt | apply Jby | apply Jbz | (apply Jcg; (first | exact Jaa rfl | exact Jab rfl | exact Jar Us.h Sz.h rfl rfl (by omega)); exact rfl) | refine Jcg (Pu_loadAgg (cs := opC o (.slice Ad o.data.length cd)) Us.h rfl Sz.h rfl (fun _ e j u hu => by rw [e]; exact hcell j u hu)) rfl ?_ | (refine TL_alloc Zs.h rfl rfl ?_; intro w8 g9 e8 hg9 hz8 hb9) | (refine TL_storeAgg rfl rfl Sz.h rfl hb9 rfl ?_; intro w9 c9 hz9 hb99))
      clear hb9
      have e79 : Ext w7 w9 := Ext.then_iv e8 c9 (by omega)
      have hs9 := e79.size
      replace hb47 := hb47.ext e79
      replace hb77 := hb77.ext e79
      replace hx7 := hx7.ext e79
      have E9 := E7.ext e79
      repeat' (first | refine Jcg (Pu_loadAgg (cs := dskC dk sn2 sk2 st2) Us.h rfl Sz.h rfl (fun _ e j u hu => by rw [e, add0, hb77.cell]; exact hu)) rfl ?_ | refine Jcg (Pu_loadAgg (cs := opC o (.slice Ad o.data.length cd)) Us.h rfl Sz.h rfl (fun _ e j u hu => by rw [e, add0, hb99.cell]; exact hu)) rfl ?_)
      refine TL_call rfl en9 (implDiskDo_c hx7.rd hDk.fitsD (by have := hDk.totD; omega) (hdx0.ext E9) hof') rfl rfl ?_
      rintro _ w10 ⟨sn3, sk3, st3, rfl, e10, hx10⟩
      replace hb47 := hb47.ext e10
      replace hb77 := hb77.ext e10
      have hs10 := e10.size
      have E10 := E9.ext e10
      have hone3 := hx10.one
      repeat' ((apply Jcg; (first | exact Jaa rfl | exact Jae rfl rfl); exact rfl))
      refine TL_alloc Zs.h rfl rfl ?_
      intro w11 g10 e11 hg10 hz11 hb10
      replace hb47 := hb47.ext e11
      replace hb77 := hb77.ext e11
      replace hx10 := hx10.ext e11
      skip
      refine TL_storeAgg rfl rfl Sz.h hone3 hb10 rfl ?_
      clear hb10
      intro w12 c12 hz12 hb10
      replace hb47 := hb47.ch c12 (by simp only [Iv]; omega)
      replace hb77 := hb77.ch c12 (by simp only [Iv]; omega)
      replace hx10 := hx10.ch c12 (by intro k _ _; simp only [Iv]; omega)
      have E12 : Ext w w12 := Ext.then_iv (E10.ext e11) c12 (by have := E10.size; omega)
      repeat' (first | apply Jbq | apply Jbr | apply Jbs | apply Jbt | (apply Jcg; exact Jab rfl; exact rfl) | refine Jcg (Pu_loadAgg (cs := dskC (pDo dk o).1 sn3 sk3 st3) Us.h rfl Sz.h rfl (fun _ e j u hu => by rw [e, add0, hb10.cell]; exact hu)) rfl ?_)
      refine TL_storeAgg rfl rfl Sz.h hone3 hb77 rfl ?_
      intro w13 c13 hz13 hb713
      replace hb47 := hb47.ch c13 (by simp only [Iv]; omega)
      replace hx10 := hx10.ch c13 (by intro k _ _; simp only [Iv]; omega)
      have E13 : Ext w w13 := Ext.then_iv E12 c13 (by omega)
      repeat' (first | apply Jbq | apply Jbr | apply Jbs | apply Jbt | (apply Jcg; (first | exact Jaa rfl | exact Jal rfl rfl); exact rfl))
      refine Jcy rfl (fun hne => ?_) (fun h0 => ?_)
      · rw [hrun, pRun_stop hne]
        repeat' (first | apply Jbs | apply Jbt | (apply Jcg; exact Jaa rfl; exact rfl) | refine Jcg (Pu_loadAgg (cs := dskC (pDo dk o).1 sn3 sk3 st3) Us.h rfl Sz.h rfl (fun _ e j u hu => by rw [e, add0, hb713.cell]; exact hu)) rfl ?_)
        refine TL_storeAgg rfl rfl Sz.h hone3 hb47 rfl ?_
        intro w14 c14 hz14 hb14
        repeat' (first | apply Jbq | apply Jbr | apply Jbu | apply Jbv | apply Jbw | (apply Jcg; exact Jab rfl; exact rfl))
        exact TR_of (resA2 rfl rfl rfl rfl hb14 Us.h rfl Sz.h) ⟨sn3, sk3, st3, rfl, Ext.then_iv E13 c14 (by omega), (hx10.ch c14 (by intro k _ _; simp only [Iv]; omega)).wide (by have := E9.size; omega) (by omega) (Nat.le_refl _)⟩
      · rw [pRun_go h0] at hrun
        repeat' (first | apply Jbq | apply Jbr | apply Jbt | apply Jbx | apply Jbz | (apply Jcg; (first | exact Jaa rfl | exact Jaf rfl rfl (by omega)); exact rfl))
        exact TN_round (k + 1, (pDo dk o).1, sn3, sk3, st3) (subEnv_cons rfl (subEnv_cons rfl (subEnv_cons rfl (subEnv_cons rfl (subEnv_cons rfl (subEnv_cons rfl (subEnv_nil _))))))) ⟨hlt, (pDo_zero h0).2.2, hrun, E13, by omega, hb47, hb713, _, _, hx10, by omega, by omega, by omega⟩ (by simp only; omega)
    · obtain rfl : k = es.length := by omega
      rw [List.drop_eq_nil_of_le (by omega), pRun_nil] at hrun
      rw [hrun]
      have hone3 := hx7.one
      repeat' (first | apply Jbr | apply Jbs | apply Jbt | apply Jca | apply Jcb | apply Jcc | (apply Jcg; (first | exact Jaa rfl | exact Jac Us.h rfl); exact rfl) | refine Jcg (Pu_loadAgg (cs := dskC dk sn2 sk2 st2) Us.h rfl Sz.h rfl (fun _ e j u hu => by rw [e, add0, hb77.cell]; exact hu)) rfl ?_)
      refine TL_storeAgg rfl rfl Sz.h hone3 hb47 rfl ?_
      intro w14 c14 hz14 hb14
      repeat' (first | apply Jbq | apply Jbr | apply Jbu | (apply Jcg; exact Jab rfl; exact rfl))
      exact TR_of (resA2 rfl rfl rfl rfl hb14 Us.h rfl Sz.h) ⟨sn2, sk2, st2, rfl, Ext.then_iv E7 c14 (by omega), (hx7.ch c14 (by intro k _ _; simp only [Iv]; omega)).wide (by omega) (by omega) (Nat.le_refl _)⟩
set_option maxRecDepth 100000 in
set_option maxHeartbeats 8000000 in
theorem specDiskRun_c {w : World} {lo hi lo2 hi2 : Nat} {d : DiskP} {sn sk st vl : Value} {l : List OpD} (h : RDk w lo hi d sn sk st) (hf : d.fits) (hl : totD d ≤ 1048576) (ho : ROp w lo2 hi2 vl l) (hof : ∀ o ∈ l, o.fits) (hll : l.length ≤ 1099511627776) :
    Ret Try.prog 22 #[.agg (dskC d sn sk st).toArray, vl] w fun v' w' => ∃ sn' sk' st', v' = .tuple #[.agg (dskC (pRuns d l).1 sn' sk' st').toArray, I (pRuns d l).2.1, I (pRuns d l).2.2] ∧ Ext w w' ∧ ODk w' w.heap.size w'.heap.size (pRuns d l).1 sn' sk' st' := by
  have hh := h
  obtain ⟨es, A, c, hem, rfl, hc, hr, hdat⟩ := ho
  have hel : es.length = l.length := by rw [← hem, List.length_map]
  refine Ret_enter Try.func22 rfl rfl rfl ?_
  repeat' (first | apply Jbs | apply Jbt)
  refine TL_box (cs := dskC d sn sk st) rfl rfl ?_
  intro w1 g2 e1 hg2 hz1 hb2
  skip
  refine TL_alloc Zs.h rfl rfl ?_
  intro w2 g4 e2 hg4 hz2 hb4
  replace hb2 := hb2.ext e2
  have E2 : Ext w w2 := e1.ext e2
  repeat' (first | apply Jbq | apply Jbr | apply Jbs | apply Jbt | (apply Jcg; exact Jab rfl; exact rfl) | refine Jcg (Pu_loadAgg (cs := dskC d sn sk st) Us.h rfl Sz.h rfl (fun _ e j u hu => by rw [e, add0, hb2.cell]; exact hu)) rfl ?_)
  refine TL_call rfl en35 (specDiskOk_c (hh.ext E2) hf hl) rfl rfl ?_
  rintro _ w3 ⟨rfl, e3⟩
  replace hb2 := hb2.ext e3
  replace hb4 := hb4.ext e3
  have hs3 := e3.size
  have E3 := E2.ext e3
  cases hp : pDOk d with
  | false =>
    rw [pRuns_no (fun h => by rw [pDOk_yes h] at hp; cases hp)]
    repeat' (first | apply Jbq | apply Jbr | apply Jbs | apply Jbt | (refine Jce rfl ?_) | (apply Jcg; exact Jaj rfl; exact rfl) | refine Jcg (Pu_build (cs := dskC noDk (.slice none 0 0) (.slice none 0 0) (.slice none 0 0)) rfl (by kernel_rfl)) rfl ?_)
    refine TL_storeAgg rfl rfl Sz.h rfl hb4 rfl ?_
    intro w8 c8 hz8 hb8
    have E8 : Ext w w8 := Ext.then_iv E3 c8 (by omega)
    repeat' (first | apply Jbq | apply Jbr | apply Jbu | apply Jbv | (apply Jcg; exact Jab rfl; exact rfl))
    exact TR_of (resA2 rfl rfl rfl rfl hb8 Us.h rfl Sz.h) ⟨_, _, _, rfl, E8, ODk.nil (Nat.le_refl _)⟩
  | true =>
    have hD := pDOk_of hp
    rw [pRuns_yes hD]
    repeat' (first | apply Jbq | apply Jbr | apply Jbs | apply Jbt | apply Jbz | (refine Jcf rfl ?_) | (apply Jcg; exact Jaj rfl; exact rfl) | refine Jcg (Pu_loadAgg (cs := dskC d sn sk st) Us.h rfl Sz.h rfl (fun _ e j u hu => by rw [e, add0, hb2.cell]; exact hu)) rfl ?_)
    refine TL_call rfl en37 (specl03Copy_c (hh.ext E3) hl) rfl rfl ?_
    rintro _ w4 ⟨sn1, sk1, st1, rfl, e4, hx⟩
    replace hb4 := hb4.ext e4
    have hs4 := e4.size
    have E4 := E3.ext e4
    have hone := hx.one
    skip
    refine TL_alloc Zs.h rfl rfl ?_
    intro w5 g7 e5 hg7 hz5 hb7
    replace hb4 := hb4.ext e5
    replace hx := hx.ext e5
    skip
    refine TL_storeAgg rfl rfl Sz.h hone hb7 rfl ?_
    clear hb7
    intro w6 c6 hz6 hb7
    replace hb4 := hb4.ch c6 (by simp only [Iv]; omega)
    replace hx := hx.ch c6 (by intro k _ _; simp only [Iv]; omega)
    have E6 : Ext w w6 := Ext.then_iv (E4.ext e5) c6 (by have := E4.size; omega)
    have hg47 : w.heap.size ≤ g4 ∧ g4 < w3.heap.size ∧ g7 = w4.heap.size := by have := E2.size; omega
    repeat' (first | apply Jbq | apply Jbr | apply Jbs | apply Jbt | apply Jby | (apply Jcg; (first | exact Jaa rfl | exact Jac Us.h rfl); exact rfl))
    refine TC_loop (ι := Nat × DiskP × Value × Value × Value) (fun x => [(1, .slice A es.length c), (4, .pointer (some ⟨g4, 0, none⟩)), (7, .pointer (some ⟨g7, 0, none⟩)), (18, .slice A es.length c), (19, I es.length), (20, I x.1)])
      (fun x w' => x.1 ≤ es.length ∧ DOk x.2.1 ∧ pRun d 0 l = pRun x.2.1 x.1 (l.drop x.1) ∧ Ext w w' ∧ w6.heap.size ≤ w'.heap.size ∧ Blk w' g4 27 (dskC noDk (.slice none 0 0) (.slice none 0 0) (.slice none 0 0)) ∧ Blk w' g7 27 (dskC x.2.1 x.2.2.1 x.2.2.2.1 x.2.2.2.2) ∧ ∃ lo' hi', ODk w' lo' hi' x.2.1 x.2.2.1 x.2.2.2.1 x.2.2.2.2 ∧ w3.heap.size ≤ lo' ∧ hi' ≤ w'.heap.size ∧ (g7 < lo' ∨ hi' ≤ g7)) (fun x => es.length - x.1) (0, d, sn1, sk1, st1)
      (subEnv_cons rfl (subEnv_cons rfl (subEnv_cons rfl (subEnv_cons rfl (subEnv_cons rfl (subEnv_cons rfl (subEnv_nil _))))))) ⟨Nat.zero_le _, hD, rfl, E6, Nat.le_refl _, hb4, hb7, _, _, hx, Nat.le_refl _, by omega, by omega⟩ ?_
    rintro ⟨k, dk, sn2, sk2, st2⟩ w7 ⟨hk7, hDk, hrun, E7, hs7, hb47, hb77, lo', hi', hx7, hlo, hhi, hg⟩
    simp only at hk7 hDk hrun hb77 hx7
    show TC _ _ _ _ [(1, .slice A es.length c), (4, .pointer (some ⟨g4, 0, none⟩)), (7, .pointer (some ⟨g7, 0, none⟩)), (18, .slice A es.length c), (19, I es.length), (20, I (k : Int))] w7
    repeat' (first | apply Jbq | apply Jbr | apply Jbs | apply Jbt | (apply Jcg; exact Jad rfl rfl; exact rfl))
    refine Jcx rfl (fun hlt0 => ?_) (fun hge => ?_)
    · have hlt : k < es.length := by omega
      obtain ⟨ad, rfl, hcell⟩ := Rd.elem OdC_len (hr.ext E7) hlt
      have hdx := hdat _ (List.getElem_mem hlt)
      have hlk : l[k]'(by omega) = es[k].o := by simp only [← hem, List.getElem_map]
      have hof' := hof _ (List.getElem_mem (show k < l.length by omega))
      have hdr : l.drop k = es[k].o :: l.drop (k + 1) := by rw [← hlk]; exact List.drop_eq_getElem_cons (by omega)
      rw [hlk] at hof'
      rw [hdr] at hrun
      obtain ⟨x, hx⟩ : ∃ x, x = es[k] := ⟨_, rfl⟩
      rw [← hx] at hcell hdx hof' hrun
      obtain ⟨o, v⟩ := x
      simp only at hdx hof' hrun
      have hdx0 := hdx
      obtain ⟨Ad, cd, rfl, hcd, hrd⟩ := hdx
      replace hcell : ∀ j u, (opC o (.slice Ad o.data.length cd))[j]? = some u → w7.cell? ((ad.add (k * 5)).add j) = some u := hcell
      repeat' (first | apply Jbq | apply Jbr | apply Jbs | apply Jbt | apply Jby | apply Jbz | (apply Jcg; (first | exact Jaa rfl | exact Jab rfl | exact Jar Us.h Sz.h rfl rfl (by omega)); exact rfl) | refine Jcg (Pu_loadAgg (cs := opC o (.slice Ad o.data.length cd)) Us.h rfl Sz.h rfl (fun _ e j u hu => by rw [e]; exact hcell j u hu)) rfl ?_ | (refine TL_alloc Zs.h rfl rfl ?_; intro w8 g9 e8 hg9 hz8 hb9) | (refine TL_storeAgg rfl rfl Sz.h rfl hb9 rfl ?_; intro w9 c9 hz9 hb99))
      clear hb9
      have e79 : Ext w7 w9 := Ext.then_iv e8 c9 (by omega)
      have hs9 := e79.size
      replace hb47 := hb47.ext e79
      replace hb77 := hb77.ext e79
      replace hx7 := hx7.ext e79
      have E9 := E7.ext e79
      repeat' (first | refine Jcg (Pu_loadAgg (cs := dskC dk sn2 sk2 st2) Us.h rfl Sz.h rfl (fun _ e j u hu => by rw [e, add0, hb77.cell]; exact hu)) rfl ?_ | refine Jcg (Pu_loadAgg (cs := opC o (.slice Ad o.data.length cd)) Us.h rfl Sz.h rfl (fun _ e j u hu => by rw [e, add0, hb99.cell]; exact hu)) rfl ?_)
      refine TL_call rfl en10 (specDiskDo_c hx7.rd hDk.fitsD (by have := hDk.totD; omega) (hdx0.ext E9) hof') rfl rfl ?_
      rintro _ w10 ⟨sn3, sk3, st3, rfl, e10, hx10⟩
      replace hb47 := hb47.ext e10
      replace hb77 := hb77.ext e10
      have hs10 := e10.size
      have E10 := E9.ext e10
      have hone3 := hx10.one
      repeat' ((apply Jcg; (first | exact Jaa rfl | exact Jae rfl rfl); exact rfl))
      refine TL_alloc Zs.h rfl rfl ?_
      intro w11 g10 e11 hg10 hz11 hb10
      replace hb47 := hb47.ext e11
      replace hb77 := hb77.ext e11
      replace hx10 := hx10.ext e11
      skip
      refine TL_storeAgg rfl rfl Sz.h hone3 hb10 rfl ?_
      clear hb10
      intro w12 c12 hz12 hb10
      replace hb47 := hb47.ch c12 (by simp only [Iv]; omega)
      replace hb77 := hb77.ch c12 (by simp only [Iv]; omega)
      replace hx10 := hx10.ch c12 (by intro k _ _; simp only [Iv]; omega)
      have E12 : Ext w w12 := Ext.then_iv (E10.ext e11) c12 (by have := E10.size; omega)
      repeat' (first | apply Jbq | apply Jbr | apply Jbs | apply Jbt | (apply Jcg; exact Jab rfl; exact rfl) | refine Jcg (Pu_loadAgg (cs := dskC (pDo dk o).1 sn3 sk3 st3) Us.h rfl Sz.h rfl (fun _ e j u hu => by rw [e, add0, hb10.cell]; exact hu)) rfl ?_)
      refine TL_storeAgg rfl rfl Sz.h hone3 hb77 rfl ?_
      intro w13 c13 hz13 hb713
      replace hb47 := hb47.ch c13 (by simp only [Iv]; omega)
      replace hx10 := hx10.ch c13 (by intro k _ _; simp only [Iv]; omega)
      have E13 : Ext w w13 := Ext.then_iv E12 c13 (by omega)
      repeat' (first | apply Jbq | apply Jbr | apply Jbs | apply Jbt | (apply Jcg; (first | exact Jaa rfl | exact Jal rfl rfl); exact rfl))
      refine Jcy rfl (fun hne => ?_) (fun h0 => ?_)
      · rw [hrun, pRun_stop hne]
        repeat' (first | apply Jbs | apply Jbt | (apply Jcg; exact Jaa rfl; exact rfl) | refine Jcg (Pu_loadAgg (cs := dskC (pDo dk o).1 sn3 sk3 st3) Us.h rfl Sz.h rfl (fun _ e j u hu => by rw [e, add0, hb713.cell]; exact hu)) rfl ?_)
        refine TL_storeAgg rfl rfl Sz.h hone3 hb47 rfl ?_
        intro w14 c14 hz14 hb14
        repeat' (first | apply Jbq | apply Jbr | apply Jbu | apply Jbv | apply Jbw | (apply Jcg; exact Jab rfl; exact rfl))
        exact TR_of (resA2 rfl rfl rfl rfl hb14 Us.h rfl Sz.h) ⟨sn3, sk3, st3, rfl, Ext.then_iv E13 c14 (by omega), (hx10.ch c14 (by intro k _ _; simp only [Iv]; omega)).wide (by have := E9.size; omega) (by omega) (Nat.le_refl _)⟩
      · rw [pRun_go h0] at hrun
        repeat' (first | apply Jbq | apply Jbr | apply Jbt | apply Jbx | apply Jbz | (apply Jcg; (first | exact Jaa rfl | exact Jaf rfl rfl (by omega)); exact rfl))
        exact TN_round (k + 1, (pDo dk o).1, sn3, sk3, st3) (subEnv_cons rfl (subEnv_cons rfl (subEnv_cons rfl (subEnv_cons rfl (subEnv_cons rfl (subEnv_cons rfl (subEnv_nil _))))))) ⟨hlt, (pDo_zero h0).2.2, hrun, E13, by omega, hb47, hb713, _, _, hx10, by omega, by omega, by omega⟩ (by simp only; omega)
    · obtain rfl : k = es.length := by omega
      rw [List.drop_eq_nil_of_le (by omega), pRun_nil] at hrun
      rw [hrun]
      have hone3 := hx7.one
      repeat' (first | apply Jbr | apply Jbs | apply Jbt | apply Jca | apply Jcb | apply Jcc | (apply Jcg; (first | exact Jaa rfl | exact Jac Us.h rfl); exact rfl) | refine Jcg (Pu_loadAgg (cs := dskC dk sn2 sk2 st2) Us.h rfl Sz.h rfl (fun _ e j u hu => by rw [e, add0, hb77.cell]; exact hu)) rfl ?_)
      refine TL_storeAgg rfl rfl Sz.h hone3 hb47 rfl ?_
      intro w14 c14 hz14 hb14
      repeat' (first | apply Jbq | apply Jbr | apply Jbu | (apply Jcg; exact Jab rfl; exact rfl))
      exact TR_of (resA2 rfl rfl rfl rfl hb14 Us.h rfl Sz.h) ⟨sn2, sk2, st2, rfl, Ext.then_iv E7 c14 (by omega), (hx7.ch c14 (by intro k _ _; simp only [Iv]; omega)).wide (by omega) (by omega) (Nat.le_refl _)⟩
end Go.Proofs.Ytggaghghclomkaa

/- Contracts: a disk's room and fuse are set. -/
namespace Go.Proofs.Ytggaghghclomkaa
open Go.RowKit
abbrev withFuse (d : DiskP) (f : Int) : DiskP := { d with fuse := f }
abbrev withRoom (d : DiskP) (f : Int) : DiskP := { d with room := f }
theorem withFuse_fits {d : DiskP} {f : Int} (h : d.fits) (hf : -9223372036854775808 ≤ f ∧ f ≤ 9223372036854775807) : (withFuse d f).fits := ⟨h.1, hf, h.2.2⟩
theorem withRoom_fits {d : DiskP} {f : Int} (h : d.fits) (hf : -9223372036854775808 ≤ f ∧ f ≤ 9223372036854775807) : (withRoom d f).fits := ⟨hf, h.2⟩
open Classical in
noncomputable def pIf (b : Bool) (d : DiskP) : DiskP × Bool := if b = true ∧ DOk d then (d, true) else (noDk, false)
open Classical in
theorem pIf_yes {b : Bool} {d : DiskP} (hb : b = true) (h : pDOk d = true) : pIf b d = (d, true) := by unfold pIf; exact if_pos ⟨hb, pDOk_of h⟩
open Classical in
theorem pIf_no {b : Bool} {d : DiskP} (h : b = false ∨ pDOk d = false) : pIf b d = (noDk, false) := by
  unfold pIf
  refine if_neg (fun q => ?_)
  rcases h with h | h
  · rw [q.1] at h; cases h
  · rw [pDOk_yes q.2] at h; cases h
theorem pIf_tot {b : Bool} {d : DiskP} (h : totD d ≤ 1048576) : totD (pIf b d).1 ≤ 1048576 := by
  cases hb : b with
  | false => rw [pIf_no (.inl rfl), totD_no]; decide
  | true =>
    cases hp : pDOk d with
    | false => rw [pIf_no (.inr hp), totD_no]; decide
    | true => rw [pIf_yes rfl hp]; exact h
attribute [local irreducible] TL TC TN TX TR TQ TA Pu Ret
set_option maxRecDepth 100000 in
set_option maxHeartbeats 4000000 in
theorem implDiskFuse_c {w : World} {lo hi : Nat} {d : DiskP} {sn sk st : Value} {f : Int} (h : RDk w lo hi d sn sk st) (hf : d.fits) (hl : totD d ≤ 1048576) (hi : -9223372036854775808 ≤ f ∧ f ≤ 9223372036854775807) :
    Ret Try.prog 21 #[.agg (dskC d sn sk st).toArray, I f] w fun v' w' => ∃ sn' sk' st', v' = .tuple #[.agg (dskC (pIf (pDOk d) (withFuse d f)).1 sn' sk' st').toArray, .bool (pIf (pDOk d) (withFuse d f)).2] ∧ Ext w w' ∧ ODk w' w.heap.size w'.heap.size (pIf (pDOk d) (withFuse d f)).1 sn' sk' st' := by
  refine Ret_enter Try.func21 rfl rfl rfl ?_
  repeat' (first | apply Jbs | apply Jbt)
  refine TL_box (cs := dskC d sn sk st) rfl rfl ?_
  intro w1 g1 e1 hg1 hz1 hb1
  skip
  refine TL_alloc Zs.h rfl rfl ?_
  intro w2 g2 e2 hg2 hz2 hb2
  replace hb1 := hb1.ext e2
  have E2 : Ext w w2 := e1.ext e2
  repeat' (first | apply Jbq | apply Jbr | apply Jbs | apply Jbt | (apply Jcg; exact Jab rfl; exact rfl) | refine Jcg (Pu_loadAgg (cs := dskC d sn sk st) Us.h rfl Sz.h rfl (fun _ e j u hu => by rw [e, add0, hb1.cell]; exact hu)) rfl ?_)
  refine TL_call rfl en28 (implcopyDisk_c (h.ext E2) hl) rfl rfl ?_
  rintro _ w3 ⟨sn1, sk1, st1, rfl, e3, hx⟩
  replace hb1 := hb1.ext e3
  replace hb2 := hb2.ext e3
  have hs3 := e3.size
  have E3 := E2.ext e3
  have hone := hx.one
  skip
  refine TL_alloc Zs.h rfl rfl ?_
  intro w4 g4 e4 hg4 hz4 hb4
  replace hb1 := hb1.ext e4
  replace hb2 := hb2.ext e4
  replace hx := hx.ext e4
  have E4 := E3.ext e4
  skip
  refine TL_storeAgg rfl rfl Sz.h hone hb4 rfl ?_
  clear hb4
  intro w5 c5 hz5 hb4
  replace hb1 := hb1.ch c5 (by simp only [Iv]; omega)
  replace hb2 := hb2.ch c5 (by simp only [Iv]; omega)
  replace hx := hx.ch c5 (by intro k _ _; simp only [Iv]; omega)
  have E5 : Ext w w5 := Ext.then_iv E4 c5 (by have := E3.size; omega)
  repeat' (first | apply Jbq | apply Jbr | apply Jbs | apply Jbt | (apply Jcg; (first | exact Jaa rfl | (apply Jbl; exact Us.h; exact rfl; exact Sz.h; exact rfl)); exact rfl))
  refine TL_store rfl rfl Sz.h rfl hb4 rfl ?_
  clear hb4
  intro w6 c6 hz6 hb4
  replace hb4 : Blk w6 g4 27 (dskC (withFuse d f) sn1 sk1 st1) := hb4
  replace hb1 := hb1.ch c6 (by simp only [Iv]; omega)
  replace hb2 := hb2.ch c6 (by simp only [Iv]; omega)
  replace hx := hx.ch c6 (by intro k _ _; simp only [Iv]; omega)
  have E6 : Ext w w6 := Ext.then_iv E5 c6 (by have := E3.size; omega)
  have hgg : w.heap.size ≤ g1 ∧ g1 < g2 ∧ g2 + 1 = w2.heap.size ∧ g4 = w3.heap.size := by omega
  clear hg1 hg2 hg4 e1 e2 e3 e4 c5 c6
  repeat' (first | apply Jbq | apply Jbr | apply Jbs | apply Jbt | refine Jcg (Pu_loadAgg (cs := dskC d sn sk st) Us.h rfl Sz.h rfl (fun _ e j u hu => by rw [e, add0, hb1.cell]; exact hu)) rfl ?_)
  refine TL_call rfl en11 (implDiskOk_c (h.ext E6) hf hl) rfl rfl ?_
  rintro _ w7 ⟨rfl, e7⟩
  replace hb2 := hb2.ext e7
  replace hb4 := hb4.ext e7
  replace hx := hx.ext e7
  have hs7 := e7.size
  have E7 := E6.ext e7
  cases hp : pDOk d with
  | false =>
    rw [pIf_no (.inl rfl)]
    repeat' (first | apply Jbq | apply Jbr | apply Jbs | apply Jbt | (refine Jce rfl ?_) | (apply Jcg; (first | exact Jaa rfl | exact Jah rfl rfl | exact Jaj rfl); exact rfl) | refine Jci rfl rfl rfl rfl rfl ?_ | refine Jcg (Pu_build (cs := dskC noDk (.slice none 0 0) (.slice none 0 0) (.slice none 0 0)) rfl (by kernel_rfl)) rfl ?_)
    refine TL_storeAgg rfl rfl Sz.h rfl hb2 rfl ?_
    intro w8 c8 hz8 hb8
    have E8 : Ext w w8 := Ext.then_iv E7 c8 (by omega)
    repeat' (first | apply Jbq | apply Jbr | apply Jbu | apply Jbv | (apply Jcg; exact Jab rfl; exact rfl))
    exact TR_of (resA1 rfl rfl rfl hb8 Us.h rfl Sz.h) ⟨_, _, _, rfl, E8, ODk.nil (Nat.le_refl _)⟩
  | true =>
    repeat' (first | (apply Jcg; (first | exact Jaa rfl | exact Jaj rfl); exact rfl) | refine Jch rfl rfl rfl ?_ | refine Jcg (Pu_loadAgg (cs := dskC (withFuse d f) sn1 sk1 st1) Us.h rfl Sz.h rfl (fun _ e j u hu => by rw [e, add0, hb4.cell]; exact hu)) rfl ?_)
    refine TL_call rfl en11 (implDiskOk_c (d := withFuse d f) hx.rd (withFuse_fits hf hi) hl) rfl rfl ?_
    rintro _ w8 ⟨rfl, e8⟩
    replace hb2 := hb2.ext e8
    replace hb4 := hb4.ext e8
    replace hx := hx.ext e8
    have hs8 := e8.size
    have E8 := E7.ext e8
    cases hq : pDOk (withFuse d f) with
    | false =>
      rw [pIf_no (.inr hq)]
      repeat' (first | apply Jbq | apply Jbr | apply Jbs | apply Jbt | (refine Jce rfl ?_) | (apply Jcg; (first | exact Jai rfl rfl | exact Jaj rfl); exact rfl) | refine Jch rfl rfl rfl ?_ | refine Jcg (Pu_build (cs := dskC noDk (.slice none 0 0) (.slice none 0 0) (.slice none 0 0)) rfl (by kernel_rfl)) rfl ?_)
      refine TL_storeAgg rfl rfl Sz.h rfl hb2 rfl ?_
      intro w9 c9 hz9 hb9
      have E9 : Ext w w9 := Ext.then_iv E8 c9 (by omega)
      repeat' (first | apply Jbq | apply Jbr | apply Jbu | apply Jbv | (apply Jcg; exact Jab rfl; exact rfl))
      exact TR_of (resA1 rfl rfl rfl hb9 Us.h rfl Sz.h) ⟨_, _, _, rfl, E9, ODk.nil (Nat.le_refl _)⟩
    | true =>
      rw [pIf_yes rfl hq]
      repeat' (first | apply Jbq | apply Jbr | apply Jbs | apply Jbt | apply Jbz | (refine Jcf rfl ?_) | (apply Jcg; (first | exact Jai rfl rfl | exact Jaj rfl); exact rfl) | refine Jch rfl rfl rfl ?_ | refine Jcg (Pu_loadAgg (cs := dskC (withFuse d f) sn1 sk1 st1) Us.h rfl Sz.h rfl (fun _ e j u hu => by rw [e, add0, hb4.cell]; exact hu)) rfl ?_)
      refine TL_storeAgg rfl rfl Sz.h hone hb2 rfl ?_
      intro w9 c9 hz9 hb9
      have hx9 : ODk w9 w2.heap.size w3.heap.size d sn1 sk1 st1 := hx.ch c9 (by intro k _ _; simp only [Iv]; omega)
      have E9 : Ext w w9 := Ext.then_iv E8 c9 (by omega)
      repeat' (first | apply Jbq | apply Jbr | apply Jbu | (apply Jcg; exact Jab rfl; exact rfl))
      exact TR_of (resA1 rfl rfl rfl hb9 Us.h rfl Sz.h) ⟨sn1, sk1, st1, rfl, E9, ODk.wide (d := withFuse d f) hx9 (by omega) (by omega) (Nat.le_refl _)⟩
end Go.Proofs.Ytggaghghclomkaa

/- What a loss of power and calm leave: the plain law. No condition. -/
namespace Go.Proofs.Ytggaghghclomkaa
open Go.RowKit
section
variable {d : DiskP} {s : List UInt8}
theorem crash_used (h : DOk d) (t : Int) (cuts : List Int) : pUsed (crashD d t cuts).nodes ≤ pUsed d.nodes := by
  unfold crashD
  simp only
  have h1 := pUsed_mapIdx (onlyP d.nodes ((runT d.kept (d.turns.take (tnN d t))).map (·.id))) (crashP cuts) (fun i p => crashP_le cuts i p)
  have h2 := pUsed_only ((runT d.kept (d.turns.take (tnN d t))).map (·.id)) d.nodes
  omega
theorem crash_again (h : DOk d) (t t2 : Int) (cuts cuts2 : List Int) : crashD (crashD d t cuts) t2 cuts2 = crashD d t cuts := by
  rw [crash_fix (h.crash t cuts) rfl crash_even]
  rfl
theorem calm_crash (h : DOk d) (t : Int) (cuts : List Int) : crashD (calmD d) t cuts = { calmD d with fuse := -1 } := crash_fix h.calm rfl calm_even t cuts
theorem DOk.fuse1 (h : DOk d) {f : Int} (hf : -1 ≤ f ∧ f ≤ 1000) : DOk { d with fuse := f } := by
  have hB := h.base
  unfold dBase at hB
  exact ⟨by unfold dBase; simp only; omega, h.node, h.link, h.pos, h.len, h.ids, h.turn, h.used⟩
theorem read_fuse (h : DOk d) {f : Int} (hf : -1 ≤ f ∧ f ≤ 1000) : pRead { d with fuse := f } s = pRead d s := by
  cases hh : dHas (pDir d) s with
  | true => rw [pRead_yes h hh, pRead_yes (d := { d with fuse := f }) (h.fuse1 hf) hh]; rfl
  | false => rw [read_none hh, read_none (d := { d with fuse := f }) hh]
theorem read_dir (h : DOk d) {x : LkD} (hx : x ∈ pDir d) : (pRead d x.name).2 = true := by rw [read_iff h]; exact dHas_mem hx
end
end Go.Proofs.Ytggaghghclomkaa
