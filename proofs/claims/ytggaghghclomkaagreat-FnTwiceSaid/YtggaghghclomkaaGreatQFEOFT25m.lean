/- Texts of this proof laid together, in the order in which they build; what each proves stands ahead of it. No condition but those told there. -/
import Derived.Test.YtggaghghclomkaaGreatQFEOFT25l

/- Contracts: a history is opened, by the program. -/
namespace Go.Proofs.YtggaghghclomkaaGreat
open Go.RowKit
attribute [local irreducible] TL TC TN TX TR TQ TA Pu Ret
set_option maxRecDepth 100000 in
set_option maxHeartbeats 16000000 in
theorem implOpen_c {w : World} {lo hi : Nat} {d : DiskP} {sn sk st : Value} {k z : Int} (h : RDk w lo hi d sn sk st) (hf : d.fits) (hl : totD d ≤ 1048576) :
    Ret Tryz.prog 34 #[.agg (dskC d sn sk st).toArray, I k, I z] w fun v' w' => ∃ sn' sk' st' sl', v' = .tuple #[.agg (stoC (pOpen d k z).1 sn' sk' st' sl').toArray, I (pOpen d k z).2] ∧ Ext w w' ∧ OSt w' w.heap.size w'.heap.size (pOpen d k z).1 sn' sk' st' sl' := by
  have hh := h
  refine Ret_enter Tryz.func34 rfl rfl rfl ?_
  repeat' (first | apply Jbs | apply Jbt)
  refine TL_box (cs := dskC d sn sk st) rfl rfl ?_
  intro w1 g3 e1 hg3 hz1 hb3
  skip
  refine TL_alloc Zs.h rfl rfl ?_
  intro w2 g6 e2 hg6 hz2 hb6
  replace hb3 := hb3.ext e2
  have E2 : Ext w w2 := e1.ext e2
  repeat' (first | apply Jbq | apply Jbr | apply Jbs | apply Jbt | (apply Jcg; exact Jab rfl; exact rfl) | refine Jcg (Pu_loadAgg (cs := dskC d sn sk st) Us.h rfl Sz.h rfl (fun _ e j u hu => by rw [e, add0, hb3.cell]; exact hu)) rfl ?_)
  refine TL_call rfl en65 (implDiskOk_c (hh.ext E2) hf hl) rfl rfl ?_
  rintro _ w3 ⟨rfl, e3⟩
  replace hb3 := hb3.ext e3
  replace hb6 := hb6.ext e3
  have hs3 := e3.size
  have E3 := E2.ext e3
  have hg36 : w.heap.size ≤ g3 ∧ g3 < g6 ∧ g6 < w3.heap.size := by omega
  cases hp : pDOk d with
  | false =>
    rw [pOpen_no (fun h => by rw [pDOk_yes h.1] at hp; cases hp)]
    repeat' (first | apply Jbq | apply Jbr | apply Jbs | apply Jbt | (refine Jce rfl ?_) | (apply Jcg; (first | exact Jaa rfl | exact Jah rfl rfl | exact Jaj rfl); exact rfl) | refine Jci rfl rfl rfl rfl rfl ?_ | refine Jcg (Pu_build (cs := stoC noSt (.slice none 0 0) (.slice none 0 0) (.slice none 0 0) (.slice none 0 0)) rfl (by kernel_rfl)) rfl ?_)
    refine TL_storeAgg rfl rfl Sz.h rfl hb6 rfl ?_
    intro w8 c8 hz8 hb8
    have E8 : Ext w w8 := Ext.then_iv E3 c8 (by omega)
    repeat' (first | apply Jbq | apply Jbr | apply Jbu | apply Jbv | (apply Jcg; exact Jab rfl; exact rfl))
    exact TR_of (resA1 rfl rfl rfl hb8 Us.h rfl Sz.h) ⟨_, _, _, _, rfl, E8, OSt.nil E8.size (Nat.le_refl _)⟩
  | true =>
    have hD := pDOk_of hp
    by_cases hk : 1 ≤ k ∧ k ≤ 100
    case neg =>
      rw [pOpen_no (fun h => hk ⟨h.2.1, h.2.2.1⟩)]
      repeat' (first | (apply Jcg; (first | exact Jaa rfl | exact Jaj rfl); exact rfl) | refine Jch rfl rfl rfl ?_)
      refine TL_call rfl en101 (in_f _ hk) rfl rfl ?_
      rintro _ _ ⟨rfl, rfl⟩
      repeat' (first | apply Jbq | apply Jbr | apply Jbs | apply Jbt | (refine Jce rfl ?_) | (apply Jcg; (first | exact Jaa rfl | exact Jah rfl rfl | exact Jai rfl rfl | exact Jaj rfl); exact rfl) | refine Jch rfl rfl rfl ?_ | refine Jci rfl rfl rfl rfl rfl ?_ | refine Jcg (Pu_build (cs := stoC noSt (.slice none 0 0) (.slice none 0 0) (.slice none 0 0) (.slice none 0 0)) rfl (by kernel_rfl)) rfl ?_)
      refine TL_storeAgg rfl rfl Sz.h rfl hb6 rfl ?_
      intro w8 c8 hz8 hb8
      have E8 : Ext w w8 := Ext.then_iv E3 c8 (by omega)
      repeat' (first | apply Jbq | apply Jbr | apply Jbu | apply Jbv | (apply Jcg; exact Jab rfl; exact rfl))
      exact TR_of (resA1 rfl rfl rfl hb8 Us.h rfl Sz.h) ⟨_, _, _, _, rfl, E8, OSt.nil E8.size (Nat.le_refl _)⟩
    by_cases hz : 0 ≤ z ∧ z ≤ 60000
    case neg =>
      rw [pOpen_no (fun h => hz ⟨h.2.2.2.1, h.2.2.2.2⟩)]
      repeat' (first | (apply Jcg; (first | exact Jaa rfl | exact Jaj rfl); exact rfl) | refine Jch rfl rfl rfl ?_)
      refine TL_call rfl en101 (in_t _ hk) rfl rfl ?_
      rintro _ _ ⟨rfl, rfl⟩
      repeat' (first | (apply Jcg; (first | exact Jaa rfl | exact Jai rfl rfl | exact Jaj rfl); exact rfl) | refine Jch rfl rfl rfl ?_)
      refine TL_call rfl en101 (in_f _ hz) rfl rfl ?_
      rintro _ _ ⟨rfl, rfl⟩
      repeat' (first | apply Jbq | apply Jbr | apply Jbs | apply Jbt | (refine Jce rfl ?_) | (apply Jcg; (first | exact Jai rfl rfl | exact Jaj rfl); exact rfl) | refine Jch rfl rfl rfl ?_ | refine Jcg (Pu_build (cs := stoC noSt (.slice none 0 0) (.slice none 0 0) (.slice none 0 0) (.slice none 0 0)) rfl (by kernel_rfl)) rfl ?_)
      refine TL_storeAgg rfl rfl Sz.h rfl hb6 rfl ?_
      intro w8 c8 hz8 hb8
      have E8 : Ext w w8 := Ext.then_iv E3 c8 (by omega)
      repeat' (first | apply Jbq | apply Jbr | apply Jbu | apply Jbv | (apply Jcg; exact Jab rfl; exact rfl))
      exact TR_of (resA1 rfl rfl rfl hb8 Us.h rfl Sz.h) ⟨_, _, _, _, rfl, E8, OSt.nil E8.size (Nat.le_refl _)⟩
    have hr : rangeK k z := ⟨hk.1, hk.2, hz.1, hz.2⟩
    obtain ⟨xA, hxA⟩ : ∃ x, x = opA d := ⟨_, rfl⟩
    obtain ⟨xB, hxB⟩ : ∃ x, x = opB xA := ⟨_, rfl⟩
    obtain ⟨xC, hxC⟩ : ∃ x, x = opC' xB := ⟨_, rfl⟩
    obtain ⟨xD, hxD⟩ : ∃ x, x = opCutx xC := ⟨_, rfl⟩
    obtain ⟨xE, hxE⟩ : ∃ x, x = stepD xD (oSync histT) := ⟨_, rfl⟩
    obtain ⟨y, hy⟩ : ∃ x, x = stepD xE oDir := ⟨_, rfl⟩
    obtain ⟨b, hb⟩ : ∃ b, b = (pRead xC.1 histT).1 := ⟨_, rfl⟩
    have hP := pOpen_is (k := k) (z := z) (x := xC) (y := y) (b := b) hD hr (by rw [hxC, hxB, hxA]) (by rw [hy, hxE, hxD]; rfl) hb
    repeat' (first | (apply Jcg; (first | exact Jaa rfl | exact Jaj rfl); exact rfl) | refine Jch rfl rfl rfl ?_)
    refine TL_call rfl en101 (in_t _ hk) rfl rfl ?_
    rintro _ _ ⟨rfl, rfl⟩
    repeat' (first | (apply Jcg; (first | exact Jaa rfl | exact Jai rfl rfl | exact Jaj rfl); exact rfl) | refine Jch rfl rfl rfl ?_)
    refine TL_call rfl en101 (in_t _ hz) rfl rfl ?_
    rintro _ _ ⟨rfl, rfl⟩
    repeat' (first | apply Jbq | apply Jbr | apply Jbs | apply Jbt | apply Jbz | (refine Jcf rfl ?_) | (apply Jcg; (first | exact Jai rfl rfl | exact Jaj rfl); exact rfl) | refine Jch rfl rfl rfl ?_ | refine Jcg (Pu_loadAgg (cs := dskC d sn sk st) Us.h rfl Sz.h rfl (fun _ e j u hu => by rw [e, add0, hb3.cell]; exact hu)) rfl ?_)
    refine TL_call rfl en66 (implcopyDisk_c (hh.ext E3) hl) rfl rfl ?_
    rintro _ w4 ⟨sn1, sk1, st1, rfl, e4, hx⟩
    replace hb6 := hb6.ext e4
    have hs4 := e4.size
    have E4 := E3.ext e4
    have hone : (drC d sn1 sk1 st1 0).all (·.oneCell') = true := by
      have := hx.one
      rw [show drC d sn1 sk1 st1 0 = dskC d sn1 sk1 st1 ++ [I 0] from rfl, List.all_append, this]; rfl
    repeat' (refine Jcg (Pu_build (cs := drC d sn1 sk1 st1 0) rfl (by kernel_rfl)) rfl ?_)
    refine TL_alloc Zs.h rfl rfl ?_
    intro w5 g8 e5 hg8 hz5 hb8
    replace hb6 := hb6.ext e5
    replace hx := hx.ext e5
    skip
    refine TL_storeAgg rfl rfl Sz.h hone hb8 rfl ?_
    clear hb8
    intro w6 c6 hz6 hb8
    replace hb6 := hb6.ch c6 (by simp only [Iv]; omega)
    replace hx := hx.ch c6 (by intro k _ _; simp only [Iv]; omega)
    have E6 : Ext w w6 := Ext.then_iv (E4.ext e5) c6 (by have := E4.size; omega)
    have hD6 : DrX w6 g8 (d, 0) sn1 sk1 st1 w3.heap.size w4.heap.size := ⟨hb8, hx, .inl (by omega), hf, hl⟩
    have hst0 : stepD (d, 0) oDir = xA := by rw [hxA]; unfold opA stepD; rw [if_pos rfl]
    clear hx hb8 hb3 hone
    repeat' (first | apply Jbq | apply Jbr | apply Jbs | apply Jbt | refine Jcg (Pu_build (cs := opC oDir (.slice none 0 0)) rfl (by kernel_rfl)) rfl ?_)
    refine TL_call rfl en102 (do_c (o := oDir) hD6 (rbn _) (fits_op _ _ _ _ (by omega) (by omega) (by simp) (by simp))) rfl rfl ?_
    rintro _ w7 ⟨rfl, c7, sn7, sk7, st7, lo7, hi7, hD7, hq7⟩
    rw [hst0] at hD7
    have hs7 := c7.size
    have hl7 : g6 < lo7 := by omega
    replace hb6 := hb6.ch c7 (by simp only [Iv]; omega)
    have E7 : Ext w w7 := Ext.then_iv E6 c7 (by omega)
    have hg8' : g6 < g8 ∧ g8 < w7.heap.size := by omega
    repeat' (first | apply Jbq | apply Jbr)
    refine TC_join (ι := Unit) (fun _ => [(1, I k), (2, I z), (6, .pointer (some ⟨g6, 0, none⟩)), (8, .pointer (some ⟨g8, 0, none⟩))]) (fun _ w' => Ext w w' ∧ w7.heap.size ≤ w'.heap.size ∧ Blk w' g6 66 (stoC noSt (.slice none 0 0) (.slice none 0 0) (.slice none 0 0) (.slice none 0 0)) ∧ (∃ sn sk st lo hi, DrX w' g8 xB sn sk st lo hi ∧ g6 < lo)) ?_ ?_
    · repeat' (first | apply Jbs | apply Jbt | (apply Jcg; (apply Jbl; exact Us.h; exact rfl; exact Sz.h; exact rfl); exact rfl) | refine Jcg (Pu_loadAgg (cs := dskC xA.1 sn7 sk7 st7) Us.h rfl Sz.h rfl (fun _ e j u hu => by rw [e]; exact hD7.ld j u hu)) rfl ?_)
      refine TL_call rfl en37 (implDiskRead_c (s := tempT) hD7.own.rd hD7.fits hD7.tot (by decide)) rfl rfl ?_
      rintro _ w8a ⟨v8, rfl, e8a, ho8⟩
      have hs8a := e8a.size
      have h8D := hD7.ext e8a
      have h8b := hb6.ext e8a
      have h8E := E7.ext e8a
      cases hr8 : (pRead xA.1 tempT).2 with
      | true =>
        repeat' (first | apply Jbq | apply Jbr | apply Jbs | apply Jbt | (refine Jce rfl ?_) | (apply Jcg; (first | exact Jaa rfl | exact Jab rfl | exact Jae rfl rfl); exact rfl) | refine Jcg (Pu_build (cs := opC (oRm tempT) (.slice none 0 0)) rfl (by kernel_rfl)) rfl ?_)
        refine TL_call rfl en102 (do_c (o := oRm tempT) h8D (rbn _) (fits_op _ _ _ _ (by omega) (by omega) (by decide) (by decide))) rfl rfl ?_
        rintro _ w8b ⟨rfl, c8, sn8, sk8, st8, lo8, hi8, h8D2, hq8⟩
        have hs8b := c8.size
        have hst : stepD xA (oRm tempT) = xB := by rw [hxB]; unfold opB; rw [hr8]; rfl
        rw [hst] at h8D2
        repeat' (apply Jbq)
        exact TN_join () (subEnv_cons rfl (subEnv_cons rfl (subEnv_cons rfl (subEnv_cons rfl (subEnv_nil _))))) ⟨Ext.then_iv h8E c8 (by omega), by omega, h8b.ch c8 (by simp only [Iv]; omega), _, _, _, _, _, h8D2, by omega⟩
      | false =>
        have hst : xB = xA := by rw [hxB]; unfold opB; rw [hr8]; rfl
        repeat' (first | apply Jbq | apply Jbr | apply Jbs | apply Jbt | apply Jbz | (refine Jcf rfl ?_) | (apply Jcg; (first | exact Jaa rfl | exact Jab rfl | exact Jae rfl rfl); exact rfl))
        exact TN_join () (subEnv_cons rfl (subEnv_cons rfl (subEnv_cons rfl (subEnv_cons rfl (subEnv_nil _))))) ⟨h8E, by omega, h8b, _, _, _, _, _, by rw [hst]; exact h8D, by omega⟩
    rintro _ w8 ⟨E8, hs8, hb68, sn8, sk8, st8, lo8, hi8, hD8, hl8⟩
    skip
    refine TC_join (ι := Unit) (fun _ => [(1, I k), (2, I z), (6, .pointer (some ⟨g6, 0, none⟩)), (8, .pointer (some ⟨g8, 0, none⟩))]) (fun _ w' => Ext w w' ∧ w7.heap.size ≤ w'.heap.size ∧ Blk w' g6 66 (stoC noSt (.slice none 0 0) (.slice none 0 0) (.slice none 0 0) (.slice none 0 0)) ∧ (∃ sn sk st lo hi, DrX w' g8 xC sn sk st lo hi ∧ g6 < lo)) ?_ ?_
    · repeat' (first | apply Jbs | apply Jbt | (apply Jcg; (apply Jbl; exact Us.h; exact rfl; exact Sz.h; exact rfl); exact rfl) | refine Jcg (Pu_loadAgg (cs := dskC xB.1 sn8 sk8 st8) Us.h rfl Sz.h rfl (fun _ e j u hu => by rw [e]; exact hD8.ld j u hu)) rfl ?_)
      refine TL_call rfl en37 (implDiskRead_c (s := histT) hD8.own.rd hD8.fits hD8.tot (by decide)) rfl rfl ?_
      rintro _ w9a ⟨v9, rfl, e9a, ho9⟩
      have hs9a := e9a.size
      have h9D := hD8.ext e9a
      have h9b := hb68.ext e9a
      have h9E := E8.ext e9a
      cases hr9 : (pRead xB.1 histT).2 with
      | false =>
        repeat' (first | apply Jbq | apply Jbr | apply Jbs | apply Jbt | (refine Jce rfl ?_) | (apply Jcg; (first | exact Jaa rfl | exact Jab rfl | exact Jae rfl rfl | exact Jaj rfl); exact rfl) | refine Jcg (Pu_build (cs := opC (oMk histT) (.slice none 0 0)) rfl (by kernel_rfl)) rfl ?_)
        refine TL_call rfl en102 (do_c (o := oMk histT) h9D (rbn _) (fits_op _ _ _ _ (by omega) (by omega) (by decide) (by decide))) rfl rfl ?_
        rintro _ w9b ⟨rfl, c9, sn9, sk9, st9, lo9, hi9, h9D2, hq9⟩
        have hs9b := c9.size
        have hst : stepD xB (oMk histT) = xC := by rw [hxC]; unfold opC'; rw [hr9]; rfl
        rw [hst] at h9D2
        repeat' (apply Jbq)
        exact TN_join () (subEnv_cons rfl (subEnv_cons rfl (subEnv_cons rfl (subEnv_cons rfl (subEnv_nil _))))) ⟨Ext.then_iv h9E c9 (by omega), by omega, h9b.ch c9 (by simp only [Iv]; omega), _, _, _, _, _, h9D2, by omega⟩
      | true =>
        have hst : xC = xB := by rw [hxC]; unfold opC'; rw [hr9]; rfl
        repeat' (first | apply Jbq | apply Jbr | apply Jbs | apply Jbt | apply Jbz | (refine Jcf rfl ?_) | (apply Jcg; (first | exact Jaa rfl | exact Jab rfl | exact Jae rfl rfl | exact Jaj rfl); exact rfl))
        exact TN_join () (subEnv_cons rfl (subEnv_cons rfl (subEnv_cons rfl (subEnv_cons rfl (subEnv_nil _))))) ⟨h9E, by omega, h9b, _, _, _, _, _, by rw [hst]; exact h9D, by omega⟩
    rintro _ w9 ⟨E9, hs9, hb69, sn9, sk9, st9, lo9, hi9, hD9, hl9⟩
    repeat' (first | apply Jbs | apply Jbt | (apply Jcg; (apply Jbl; exact Us.h; exact rfl; exact Sz.h; exact rfl); exact rfl) | refine Jcg (Pu_loadAgg (cs := dskC xC.1 sn9 sk9 st9) Us.h rfl Sz.h rfl (fun _ e j u hu => by rw [e]; exact hD9.ld j u hu)) rfl ?_)
    refine TL_call rfl en37 (implDiskRead_c (s := histT) hD9.own.rd hD9.fits hD9.tot (by decide)) rfl rfl ?_
    rintro _ w10 ⟨v10, rfl, e10, ho10⟩
    have hs10 := e10.size
    have hbl : b.length ≤ 1048576 := by rw [hb]; exact pRead_len _ _ hD9.tot
    rw [← hb] at ho10
    have ho10r := ho10.rd
    obtain ⟨Ab, cb, rfl, hcb, hrb⟩ := ho10r
    repeat' (first | apply Jbq | apply Jbr | apply Jbs | apply Jbt | (apply Jcg; (first | exact Jaa rfl | exact Jab rfl | exact Jae rfl rfl); exact rfl))
    refine TL_call rfl en103 (implScan_k ⟨_, _, rfl, hcb, hrb⟩ hbl) rfl rfl ?_
    rintro _ w11 ⟨vl, rfl, e11, hoe⟩
    have hs11 := e11.size
    have hn := (pScan_is b).2.2
    have e911 := e10.ext e11
    have hD11 := hD9.ext e911
    have hb611 := hb69.ext e911
    have E11 := E9.ext e911
    repeat' (first | apply Jbq | apply Jbr | (apply Jcg; (first | exact Jaa rfl | exact Jab rfl | exact Jae rfl rfl); exact rfl))
    refine TC_join (ι := Unit) (fun _ => [(1, I k), (2, I z), (6, .pointer (some ⟨g6, 0, none⟩)), (8, .pointer (some ⟨g8, 0, none⟩)), (15, vl), (16, I ((pScan b).2 : Int))]) (fun _ w' => Ext w w' ∧ w7.heap.size ≤ w'.heap.size ∧ Blk w' g6 66 (stoC noSt (.slice none 0 0) (.slice none 0 0) (.slice none 0 0) (.slice none 0 0)) ∧ (∃ sn sk st lo hi, DrX w' g8 xD sn sk st lo hi ∧ g6 < lo ∧ (hi ≤ w10.heap.size ∨ w11.heap.size ≤ lo)) ∧ OE w' w10.heap.size w11.heap.size vl (pScan b).1 ∧ w11.heap.size ≤ w'.heap.size) ?_ ?_
    · repeat' (first | apply Jbq | apply Jbr | apply Jbs | apply Jbt | (apply Jcg; (first | exact Jaa rfl | exact Jac Us.h rfl | exact Jad rfl rfl); exact rfl))
      refine Jcx rfl (fun hlt => ?_) (fun hge => ?_)
      · repeat' (first | apply Jbt | (apply Jcg; exact Jaa rfl; exact rfl) | refine Jcg (Pu_build (cs := opC (oCut histT ((pScan b).2 : Int)) (.slice none 0 0)) rfl (by kernel_rfl)) rfl ?_)
        refine TL_call rfl en102 (do_c (o := oCut histT ((pScan b).2 : Int)) hD11 (rbn _) (fits_op _ _ _ _ (by omega) (by omega) (by decide) (by simp))) rfl rfl ?_
        rintro _ w12 ⟨rfl, c12, sn12, sk12, st12, lo12, hi12, hD12, hq12⟩
        have hs12 := c12.size
        have hst : stepD xC (oCut histT ((pScan b).2 : Int)) = xD := by rw [hxD]; unfold opCutx; rw [← hb, if_pos (by omega)]
        rw [hst] at hD12
        repeat' (apply Jbq)
        exact TN_join () (subEnv_cons rfl (subEnv_cons rfl (subEnv_cons rfl (subEnv_cons rfl (subEnv_cons rfl (subEnv_cons rfl (subEnv_nil _))))))) ⟨Ext.then_iv E11 c12 (by omega), by omega, hb611.ch c12 (by simp only [Iv]; omega), ⟨_, _, _, _, _, hD12, by omega, by have := hD9.own.1; omega⟩, hoe.ch c12 (by intro k _ _; simp only [Iv]; omega), by omega⟩
      · have hst : xD = xC := by rw [hxD]; unfold opCutx; rw [← hb, if_neg (by omega)]
        repeat' (apply Jbz)
        exact TN_join () (subEnv_cons rfl (subEnv_cons rfl (subEnv_cons rfl (subEnv_cons rfl (subEnv_cons rfl (subEnv_cons rfl (subEnv_nil _))))))) ⟨E11, by omega, hb611, ⟨_, _, _, _, _, by rw [hst]; exact hD11, by omega, by have := hD9.own.1; omega⟩, hoe, by omega⟩
    clear hrb ho10 hoe hD11 hb611 E11
    rintro _ w12 ⟨E12, hs12, hb612, ⟨sn12, sk12, st12, lo12, hi12, hD12, hl12, hap12⟩, hoe, hs12'⟩
    repeat' (first | apply Jbs | apply Jbt | refine Jcg (Pu_build (cs := opC (oSync histT) (.slice none 0 0)) rfl (by kernel_rfl)) rfl ?_)
    refine TL_call rfl en102 (do_c (o := oSync histT) hD12 (rbn _) (fits_op _ _ _ _ (by omega) (by omega) (by decide) (by decide))) rfl rfl ?_
    rintro _ w13 ⟨rfl, c13, sn13, sk13, st13, lo13, hi13, hD13, hq13⟩
    rw [← hxE] at hD13
    have hs13 := c13.size
    repeat' (first | apply Jbq | apply Jbr | apply Jbs | apply Jbt | refine Jcg (Pu_build (cs := opC oDir (.slice none 0 0)) rfl (by kernel_rfl)) rfl ?_)
    refine TL_call rfl en102 (do_c (o := oDir) hD13 (rbn _) (fits_op _ _ _ _ (by omega) (by omega) (by decide) (by decide))) rfl rfl ?_
    rintro _ w14 ⟨rfl, c14, sn14, sk14, st14, lo14, hi14, hD14, hq14⟩
    rw [← hy] at hD14
    have hs14 := c14.size
    have E14 : Ext w w14 := Ext.then_iv (Ext.then_iv E12 c13 (by omega)) c14 (by omega)
    have hb614 := (hb612.ch c13 (by simp only [Iv]; omega)).ch c14 (by simp only [Iv]; omega)
    have hoe14 := (hoe.ch c13 (by intro k _ _; simp only [Iv]; omega)).ch c14 (by intro k _ _; simp only [Iv]; omega)
    have hb8y := hD14.blk
    have honeD := hD14.own.one
    have hone0 : (stoC ⟨y.1, k, z, [], 0⟩ sn14 sk14 st14 (.slice none 0 0)).all (·.oneCell') = true := by
      rw [show stoC ⟨y.1, k, z, [], 0⟩ sn14 sk14 st14 (.slice none 0 0) = dskC y.1 sn14 sk14 st14 ++ [I k, I z, .slice none 0 0, I 0] from rfl, List.all_append, honeD]; rfl
    have hll : g6 < lo14 := by omega
    repeat' (first | apply Jbq | apply Jbr | apply Jbs | apply Jbt | (apply Jcg; (first | exact Jaa rfl | (apply Jbl; exact Us.h; exact rfl; exact Sz.h; exact rfl)); exact rfl) | refine Jcg (Pu_loadAgg (cs := dskC y.1 sn14 sk14 st14) Us.h rfl Sz.h rfl (fun _ e j u hu => by rw [e]; exact hD14.ld j u hu)) rfl ?_ | refine Jcg (Pu_build (cs := stoC ⟨y.1, k, z, [], 0⟩ sn14 sk14 st14 (.slice none 0 0)) rfl (by kernel_rfl)) rfl ?_)
    refine TL_alloc Zs.h rfl rfl ?_
    intro w15 g17 e15 hg17 hz15 hb17
    skip
    refine TL_storeAgg rfl rfl Sz.h hone0 hb17 rfl ?_
    clear hb17
    intro w16 c16 hz16 hb17
    have e1416 : Ext w14 w16 := Ext.then_iv e15 c16 (by omega)
    have hD16 := hD14.ext e1416
    have hb616 := hb614.ext e1416
    have hoe16 := hoe14.ext e1416
    have E16 := E14.ext e1416
    have hb8x := hD16.blk
    have hvl : vl.oneCell' = true := by obtain ⟨A, c, rfl, _⟩ := hoe16; rfl
    repeat' (first | apply Jbq | apply Jbr)
    refine TC_join (ι := Value) (fun _ => [(6, .pointer (some ⟨g6, 0, none⟩)), (8, .pointer (some ⟨g8, 0, none⟩)), (17, .pointer (some ⟨g17, 0, none⟩))]) (fun sl w' => Ch (Iv g17 (g17 + 1)) w16 w' ∧ Blk w' g17 66 (stoC (pOpen d k z).1 sn14 sk14 st14 sl) ∧ (sl = vl ∧ (pOpen d k z).1.list = (pScan b).1 ∨ sl = .slice none 0 0 ∧ (pOpen d k z).1.list = [])) ?_ ?_
    · repeat' (first | apply Jbq | apply Jbr | apply Jbs | apply Jbt | (apply Jcg; (first | exact Jak rfl rfl | (apply Jbl; exact Us.h; exact rfl; exact Sz.h; exact rfl)); exact rfl) | refine Jcg (Pu_load Fl.h rfl (fun _ e => by rw [e]; exact hb8x.ld rfl)) rfl ?_)
      refine Jcx rfl (fun h0 => ?_) (fun h0 => ?_)
      · repeat' (first | apply Jbt | (apply Jcg; (first | exact Jaa rfl | (apply Jbl; exact Us.h; exact rfl; exact Sz.h; exact rfl)); exact rfl))
        refine TL_store rfl rfl Sz.h hvl hb17 rfl ?_
        intro w17 c17 hz17 hb177
        repeat' ((apply Jcg; (apply Jbl; exact Us.h; exact rfl; exact Sz.h; exact rfl); exact rfl))
        refine TL_store rfl rfl Sz.h rfl hb177 rfl ?_
        intro w18 c18 hz18 hb178
        repeat' (apply Jbq)
        refine TN_join vl (subEnv_cons rfl (subEnv_cons rfl (subEnv_cons rfl (subEnv_nil _)))) ⟨c17.then c18, ?_, .inl ⟨rfl, by rw [hP]; simp only [if_pos h0]⟩⟩
        rw [hP]
        simp only [if_pos h0]
        exact hb178
      · repeat' (apply Jbz)
        refine TN_join (.slice none 0 0) (subEnv_cons rfl (subEnv_cons rfl (subEnv_cons rfl (subEnv_nil _)))) ⟨Ch.refl _ _, ?_, .inr ⟨rfl, by rw [hP]; simp only [if_neg h0]⟩⟩
        rw [hP]
        simp only [if_neg h0]
        exact hb17
    rintro sl w17 ⟨c17, hb177, hsl⟩
    have hs17 := c17.size
    have hlt17 := hb177.lt
    have hd8 := hD16.own.ch c17 (by intro k _ _; simp only [Iv]; have := hD14.own.1; omega)
    have hb617 := hb616.ch c17 (by simp only [Iv]; omega)
    have hoe17 := hoe16.ch c17 (by intro k _ _; simp only [Iv]; omega)
    have hb817 := hb8x.ch c17 (by simp only [Iv]; omega)
    have E17 : Ext w w17 := Ext.then_iv E16 c17 (by have := E14.size; omega)
    have hdk : (pOpen d k z).1.disk = y.1 := by rw [hP]
    have hcd : (pOpen d k z).2 = y.2 := by rw [hP]
    obtain ⟨S, hS⟩ : ∃ S, S = (pOpen d k z).1 := ⟨_, rfl⟩
    rw [← hS] at hb177 hsl hdk ⊢
    rw [hcd]
    rw [← hdk] at hd8
    have hO : ∀ w', Ch (Iv g6 (g6 + 1)) w17 w' → OSt w' w.heap.size w'.heap.size S sn14 sk14 st14 sl := fun w' c => by
      have hcs := c.size
      have hd1 := hD14.own.1
      have h1 := hd8.ch c (by intro k _ _; simp only [Iv]; omega)
      rcases hsl with ⟨rfl, hsl⟩ | ⟨rfl, hsl⟩
      · refine ⟨lo14, hi14, w10.heap.size, w11.heap.size, h1, by rw [hsl]; exact hoe17.ch c (by intro k _ _; simp only [Iv]; omega), by omega, by omega, by omega, by omega, by omega, Nat.le_refl _⟩
      · have hEs := E17.size
        refine ⟨lo14, hi14, w.heap.size, w.heap.size, h1, by rw [hsl]; exact ⟨none, 0, rfl, Own.nil _ _ _ _ _ (by omega)⟩, .inr (by omega), by omega, Nat.le_refl _, by omega, by omega, Nat.le_refl _⟩
    have honeS : (stoC S sn14 sk14 st14 sl).all (·.oneCell') = true := (hO w17 (Ch.refl _ _)).one
    repeat' (apply Jbs)
    refine TC_anyS (fun w' => Ch (Iv g6 (g6 + 1)) w17 w') mixed rfl (Ch.refl _ _).drew ?_
    intro w18 e18 hz18 hE
    (refine Jco 0 rfl (by kernel_rfl) (by kernel_rfl) (by kernel_rfl) (fun _ _ _ h => h) hE (by exact Pu_loadAgg (cs := stoC S sn14 sk14 st14 sl) Us.h rfl Sz.h rfl (fun _ e j u hu => Ch.cell e (by rw [add0, hb177.cell]; exact hu) (by rw [block_of_add]; simp only [Iv]; omega))) rfl ?_; refine Jco 1 rfl (by kernel_rfl) (by kernel_rfl) (by kernel_rfl) (fun _ _ _ h => h) hE (by (apply Jbl; exact Us.h; exact rfl; exact Sz.h; exact rfl)) rfl ?_; refine Jco 2 rfl (by kernel_rfl) (by kernel_rfl) (by kernel_rfl) (fun _ _ _ h => h) hE (by exact Pu_load Fl.h rfl (fun _ e => Ch.cell e (hb817.ld rfl) (by rw [block_of_add]; simp only [Iv]; omega))) rfl ?_)
    refine TA_one 3 (by kernel_rfl) rfl ?_
    have hb618 := hb617.ext e18
    refine TL_storeAgg rfl rfl Sz.h honeS hb618 rfl ?_
    intro w19 c19 hz19 hb19
    replace hE := hE.then c19
    refine Jbq (TN_any hE ?_)
    (refine Jco 4 rfl (by kernel_rfl) (by kernel_rfl) (by kernel_rfl) (fun _ _ _ h => h) hE (by exact Jab rfl) rfl ?_)
    refine TA_done (by kernel_rfl) ?_
    repeat' (first | apply Jbr | apply Jbu)
    exact TR_of (resA1 rfl rfl rfl hb19 Us.h rfl Sz.h) ⟨sn14, sk14, st14, sl, rfl, Ext.then_iv (E17.ext e18) c19 (by omega), hO w19 ((Ch.mono e18 (fun _ t => t.elim)).then c19)⟩
end Go.Proofs.YtggaghghclomkaaGreat

/- Contracts: a history is opened, by the reference. -/
namespace Go.Proofs.YtggaghghclomkaaGreat
open Go.RowKit
attribute [local irreducible] TL TC TN TX TR TQ TA Pu Ret
set_option maxRecDepth 100000 in
set_option maxHeartbeats 16000000 in
theorem specOpen_c {w : World} {lo hi : Nat} {d : DiskP} {sn sk st : Value} {k z : Int} (h : RDk w lo hi d sn sk st) (hf : d.fits) (hl : totD d ≤ 1048576) :
    Ret Tryz.prog 35 #[.agg (dskC d sn sk st).toArray, I k, I z] w fun v' w' => ∃ sn' sk' st' sl', v' = .tuple #[.agg (stoC (pOpen d k z).1 sn' sk' st' sl').toArray, I (pOpen d k z).2] ∧ Ext w w' ∧ OSt w' w.heap.size w'.heap.size (pOpen d k z).1 sn' sk' st' sl' := by
  have hh := h
  refine Ret_enter Tryz.func35 rfl rfl rfl ?_
  repeat' (first | apply Jbs | apply Jbt)
  refine TL_box (cs := dskC d sn sk st) rfl rfl ?_
  intro w1 g3 e1 hg3 hz1 hb3
  skip
  refine TL_alloc Zs.h rfl rfl ?_
  intro w2 g6 e2 hg6 hz2 hb6
  replace hb3 := hb3.ext e2
  have E2 : Ext w w2 := e1.ext e2
  repeat' (first | apply Jbq | apply Jbr | apply Jbs | apply Jbt | (apply Jcg; exact Jab rfl; exact rfl) | refine Jcg (Pu_loadAgg (cs := dskC d sn sk st) Us.h rfl Sz.h rfl (fun _ e j u hu => by rw [e, add0, hb3.cell]; exact hu)) rfl ?_)
  refine TL_call rfl en57 (specDiskOk_c (hh.ext E2) hf hl) rfl rfl ?_
  rintro _ w3 ⟨rfl, e3⟩
  replace hb3 := hb3.ext e3
  replace hb6 := hb6.ext e3
  have hs3 := e3.size
  have E3 := E2.ext e3
  have hg36 : w.heap.size ≤ g3 ∧ g3 < g6 ∧ g6 < w3.heap.size := by omega
  cases hp : pDOk d with
  | false =>
    rw [pOpen_no (fun h => by rw [pDOk_yes h.1] at hp; cases hp)]

    repeat' (first | apply Jbq | apply Jbr | apply Jbs | apply Jbt | (refine Jce rfl ?_) | (apply Jcg; (first | exact Jaa rfl | exact Jah rfl rfl | exact Jaj rfl); exact rfl) | refine Jci rfl rfl rfl rfl rfl ?_ | refine Jcg (Pu_build (cs := stoC noSt (.slice none 0 0) (.slice none 0 0) (.slice none 0 0) (.slice none 0 0)) rfl (by kernel_rfl)) rfl ?_)
    refine TL_storeAgg rfl rfl Sz.h rfl hb6 rfl ?_
    intro w8 c8 hz8 hb8
    have E8 : Ext w w8 := Ext.then_iv E3 c8 (by omega)
    repeat' (first | apply Jbq | apply Jbr | apply Jbu | apply Jbv | (apply Jcg; exact Jab rfl; exact rfl))
    exact TR_of (resA1 rfl rfl rfl hb8 Us.h rfl Sz.h) ⟨_, _, _, _, rfl, E8, OSt.nil E8.size (Nat.le_refl _)⟩

  | true =>
    have hD := pDOk_of hp
    repeat' (first | (apply Jcg; (first | exact Jaa rfl | exact Jaj rfl); exact rfl) | refine Jch rfl rfl rfl ?_)
    refine TL_call rfl en104 (l06Range_c _ _ _) rfl rfl ?_
    rintro _ _ ⟨rfl, rfl⟩
    by_cases hr : 1 ≤ k ∧ k ≤ 100 ∧ 0 ≤ z ∧ z ≤ 60000
    case neg =>
      rw [pOpen_no (fun h => hr h.2), decide_eq_false hr]

      repeat' (first | apply Jbq | apply Jbr | apply Jbs | apply Jbt | (refine Jce rfl ?_) | (apply Jcg; (first | exact Jai rfl rfl | exact Jaj rfl); exact rfl) | refine Jch rfl rfl rfl ?_ | refine Jcg (Pu_build (cs := stoC noSt (.slice none 0 0) (.slice none 0 0) (.slice none 0 0) (.slice none 0 0)) rfl (by kernel_rfl)) rfl ?_)
      refine TL_storeAgg rfl rfl Sz.h rfl hb6 rfl ?_
      intro w8 c8 hz8 hb8
      have E8 : Ext w w8 := Ext.then_iv E3 c8 (by omega)
      repeat' (first | apply Jbq | apply Jbr | apply Jbu | apply Jbv | (apply Jcg; exact Jab rfl; exact rfl))
      exact TR_of (resA1 rfl rfl rfl hb8 Us.h rfl Sz.h) ⟨_, _, _, _, rfl, E8, OSt.nil E8.size (Nat.le_refl _)⟩

    rw [decide_eq_true hr]
    obtain ⟨xA, hxA⟩ : ∃ x, x = opA d := ⟨_, rfl⟩
    obtain ⟨xB, hxB⟩ : ∃ x, x = opB xA := ⟨_, rfl⟩
    obtain ⟨xC, hxC⟩ : ∃ x, x = opC' xB := ⟨_, rfl⟩
    obtain ⟨xD, hxD⟩ : ∃ x, x = opCutx xC := ⟨_, rfl⟩
    obtain ⟨xE, hxE⟩ : ∃ x, x = stepD xD (oSync histT) := ⟨_, rfl⟩
    obtain ⟨y, hy⟩ : ∃ x, x = stepD xE oDir := ⟨_, rfl⟩
    obtain ⟨b, hb⟩ : ∃ b, b = (pRead xC.1 histT).1 := ⟨_, rfl⟩
    have hP := pOpen_is (k := k) (z := z) (x := xC) (y := y) (b := b) hD hr (by rw [hxC, hxB, hxA]) (by rw [hy, hxE, hxD]; rfl) hb
    repeat' (first | apply Jbq | apply Jbr | apply Jbs | apply Jbt | apply Jbz | (refine Jcf rfl ?_) | (apply Jcg; (first | exact Jai rfl rfl | exact Jaj rfl); exact rfl) | refine Jch rfl rfl rfl ?_ | refine Jcg (Pu_loadAgg (cs := dskC d sn sk st) Us.h rfl Sz.h rfl (fun _ e j u hu => by rw [e, add0, hb3.cell]; exact hu)) rfl ?_)
    refine TL_call rfl en58 (specl03Copy_c (hh.ext E3) hl) rfl rfl ?_
    rintro _ w4 ⟨sn1, sk1, st1, rfl, e4, hx⟩
    replace hb6 := hb6.ext e4
    have hs4 := e4.size
    have E4 := E3.ext e4
    have hone : (stoC ⟨d, k, z, [], 0⟩ sn1 sk1 st1 (.slice none 0 0)).all (·.oneCell') = true := by
      have := hx.one
      rw [show stoC ⟨d, k, z, [], 0⟩ sn1 sk1 st1 (.slice none 0 0) = dskC d sn1 sk1 st1 ++ [I k, I z, .slice none 0 0, I 0] from rfl, List.all_append, this]; rfl
    repeat' (first | (apply Jcg; exact Jaa rfl; exact rfl) | refine Jcg (Pu_build (cs := stoC ⟨d, k, z, [], 0⟩ sn1 sk1 st1 (.slice none 0 0)) rfl (by kernel_rfl)) rfl ?_)
    refine TL_box (cs := stoC ⟨d, k, z, [], 0⟩ sn1 sk1 st1 (.slice none 0 0)) rfl rfl ?_
    intro w5 g8 e5 hg8 hz5 hb8
    replace hb6 := hb6.ext e5
    have E5 := E4.ext e5
    have hD5 : StX w5 g8 ⟨d, k, z, [], 0⟩ sn1 sk1 st1 (.slice none 0 0) w3.heap.size w4.heap.size := ⟨hb8, hx.ext e5, .inl (by omega), hf, hl⟩
    clear hx hb8 hb3 hone
    have hg8' : w.heap.size ≤ g8 ∧ g6 < g8 ∧ g8 < w5.heap.size := by omega
    repeat' (first | apply Jbq | apply Jbr | apply Jbs | apply Jbt | (apply Jcg; (first | exact Jaa rfl | exact Jab rfl); exact rfl))
    refine TL_call rfl en105 (l06Do_y (o := oDir) (y := xA) hD5 opOf_dir (fits_op _ _ _ _ (by omega) (by omega) (by simp) (by simp)) (by rw [hxA]; rfl)) rfl rfl ?_
    rintro _ w6 ⟨rfl, c6, sn6, sk6, st6, lo6, hi6, hD6, hq6, hr6⟩
    have hs6 := c6.size
    have hl6 : g6 < lo6 := by omega
    have hb66 := hb6.ch c6 (by simp only [Iv]; omega)
    have E6 : Ext w w6 := Ext.then_iv E5 c6 (by omega)
    clear hb6 hD5

    repeat' (first | apply Jbq | apply Jbr | apply Jbs | apply Jbt | (apply Jcg; (first | exact Jaa rfl | exact Jab rfl | exact Jba rfl | (apply Jbl; exact Us.h; exact rfl; exact Sz.h; exact rfl)); exact rfl) | refine Jcg (Pu_loadAgg (cs := dskC xA.1 sn6 sk6 st6) Us.h rfl Sz.h rfl (fun _ e j u hu => by rw [e]; exact hD6.ld j u hu)) rfl ?_)
    refine TL_call rfl en106 (specDiskRead_c (s := tempT) hD6.own.rd hD6.fits hD6.tot) rfl rfl ?_
    rintro _ w6r ⟨v6, rfl, e6, _⟩
    have hs6r := e6.size
    replace hD6 := hD6.ext e6
    replace hb66 := hb66.ext e6
    replace E6 := E6.ext e6
    repeat' (first | apply Jbq | apply Jbr | (apply Jcg; (first | exact Jaa rfl | exact Jab rfl | exact Jae rfl rfl); exact rfl))
    refine TC_join (ι := Unit) (fun _ => [(6, .pointer (some ⟨g6, 0, none⟩)), (8, .pointer (some ⟨g8, 0, none⟩)), (9, I xB.2)]) (fun _ w' => Ext w w' ∧ w6.heap.size ≤ w'.heap.size ∧ Blk w' g6 66 (stoC noSt (.slice none 0 0) (.slice none 0 0) (.slice none 0 0) (.slice none 0 0)) ∧ (∃ sn sk st lo hi, StX w' g8 ⟨xB.1, k, z, [], 0⟩ sn sk st (.slice none 0 0) lo hi ∧ g6 < lo)) ?_ ?_
    · repeat' (first | apply Jbs | apply Jbt | (apply Jcg; (first | exact Jaa rfl | exact Jak rfl rfl); exact rfl))
      refine Jcs rfl rfl (fun hc => ?_) (fun hc => ?_)
      · cases hr6 : (pRead xA.1 tempT).2 with
        | true =>
          repeat' (first | apply Jbq | apply Jbr | apply Jbt | (refine Jce rfl ?_) | (apply Jcg; (first | exact Jaa rfl | exact Jah rfl rfl); exact rfl) | refine Jch rfl rfl rfl ?_)
          refine TL_call rfl en105 (l06Do_y (o := oRm tempT) (y := xB) hD6 opOf_rm (fits_op _ _ _ _ (by omega) (by omega) (by decide) (by decide)) (by rw [hxB]; unfold opB; rw [hr6]; exact stepD_ok hc)) rfl rfl ?_
          rintro _ wz ⟨rfl, cz, snz, skz, stz, loz, hiz, hDz, hqz, hrz⟩
          have hsz := cz.size
          repeat' (first | apply Jbq | (apply Jcg; exact Jab rfl; exact rfl))
          exact TN_join () (subEnv_cons rfl (subEnv_cons rfl (subEnv_cons rfl (subEnv_nil _)))) ⟨Ext.then_iv E6 cz (by omega), by omega, hb66.ch cz (by simp only [Iv]; omega), _, _, _, _, _, hDz, by omega⟩
        | false =>
          have hst : xB = xA := by rw [hxB]; unfold opB; rw [hr6]; rfl
          subst hst
          repeat' (first | apply Jbq | apply Jbr | apply Jbz | (refine Jcf rfl ?_) | (apply Jcg; (first | exact Jaa rfl | exact Jah rfl rfl); exact rfl) | refine Jch rfl rfl rfl ?_)
          exact TN_join () (subEnv_cons rfl (subEnv_cons rfl (subEnv_cons rfl (subEnv_nil _)))) ⟨E6, by omega, hb66, _, _, _, _, _, hD6, by omega⟩
      · have hst : xB = xA := by
          rw [hxB]
          unfold opB
          rw [stepD_no hc]
          split <;> rfl
        subst hst
        repeat' (first | apply Jbq | apply Jbr | apply Jbz | (refine Jcf rfl ?_) | (apply Jcg; exact Jai rfl rfl; exact rfl) | refine Jci rfl rfl rfl rfl rfl ?_)
        exact TN_join () (subEnv_cons rfl (subEnv_cons rfl (subEnv_cons rfl (subEnv_nil _)))) ⟨E6, by omega, hb66, _, _, _, _, _, hD6, by omega⟩
    rintro _ w8 ⟨E8, hs8, hb68, sn8, sk8, st8, lo8, hi8, hD8, hl8⟩
    clear hD6 hb66 E6

    repeat' (first | apply Jbs | apply Jbt | (apply Jcg; (first | exact Jaa rfl | exact Jba rfl | (apply Jbl; exact Us.h; exact rfl; exact Sz.h; exact rfl)); exact rfl) | refine Jcg (Pu_loadAgg (cs := dskC xB.1 sn8 sk8 st8) Us.h rfl Sz.h rfl (fun _ e j u hu => by rw [e]; exact hD8.ld j u hu)) rfl ?_)
    refine TL_call rfl en106 (specDiskRead_c (s := histT) hD8.own.rd hD8.fits hD8.tot) rfl rfl ?_
    rintro _ w8r ⟨v8, rfl, e8, _⟩
    have hs8r := e8.size
    replace hD8 := hD8.ext e8
    replace hb68 := hb68.ext e8
    replace E8 := E8.ext e8
    repeat' (first | apply Jbq | apply Jbr | (apply Jcg; (first | exact Jaa rfl | exact Jab rfl | exact Jae rfl rfl); exact rfl))
    refine TC_join (ι := Unit) (fun _ => [(6, .pointer (some ⟨g6, 0, none⟩)), (8, .pointer (some ⟨g8, 0, none⟩)), (9, I xC.2)]) (fun _ w' => Ext w w' ∧ w6.heap.size ≤ w'.heap.size ∧ Blk w' g6 66 (stoC noSt (.slice none 0 0) (.slice none 0 0) (.slice none 0 0) (.slice none 0 0)) ∧ (∃ sn sk st lo hi, StX w' g8 ⟨xC.1, k, z, [], 0⟩ sn sk st (.slice none 0 0) lo hi ∧ g6 < lo)) ?_ ?_
    · repeat' (first | apply Jbs | apply Jbt | (apply Jcg; (first | exact Jaa rfl | exact Jak rfl rfl); exact rfl))
      refine Jcs rfl rfl (fun hc => ?_) (fun hc => ?_)
      · cases hr8 : (pRead xB.1 histT).2 with
        | false =>
          repeat' (first | apply Jbq | apply Jbr | apply Jbt | (refine Jce rfl ?_) | (apply Jcg; (first | exact Jaa rfl | exact Jah rfl rfl | exact Jaj rfl); exact rfl) | refine Jch rfl rfl rfl ?_)
          refine TL_call rfl en105 (l06Do_y (o := oMk histT) (y := xC) hD8 (opOf_mk _) (fits_op _ _ _ _ (by omega) (by omega) (by decide) (by decide)) (by rw [hxC]; unfold opC'; rw [hr8]; exact stepD_ok hc)) rfl rfl ?_
          rintro _ wz ⟨rfl, cz, snz, skz, stz, loz, hiz, hDz, hqz, hrz⟩
          have hsz := cz.size
          repeat' (first | apply Jbq | (apply Jcg; exact Jab rfl; exact rfl))
          exact TN_join () (subEnv_cons rfl (subEnv_cons rfl (subEnv_cons rfl (subEnv_nil _)))) ⟨Ext.then_iv E8 cz (by omega), by omega, hb68.ch cz (by simp only [Iv]; omega), _, _, _, _, _, hDz, by omega⟩
        | true =>
          have hst : xC = xB := by rw [hxC]; unfold opC'; rw [hr8]; rfl
          subst hst
          repeat' (first | apply Jbq | apply Jbr | apply Jbz | (refine Jcf rfl ?_) | (apply Jcg; (first | exact Jaa rfl | exact Jah rfl rfl | exact Jaj rfl); exact rfl) | refine Jch rfl rfl rfl ?_)
          exact TN_join () (subEnv_cons rfl (subEnv_cons rfl (subEnv_cons rfl (subEnv_nil _)))) ⟨E8, by omega, hb68, _, _, _, _, _, hD8, by omega⟩
      · have hst : xC = xB := by
          rw [hxC]
          unfold opC'
          rw [stepD_no hc]
          split <;> rfl
        subst hst
        repeat' (first | apply Jbq | apply Jbr | apply Jbz | (refine Jcf rfl ?_) | (apply Jcg; exact Jai rfl rfl; exact rfl) | refine Jci rfl rfl rfl rfl rfl ?_)
        exact TN_join () (subEnv_cons rfl (subEnv_cons rfl (subEnv_cons rfl (subEnv_nil _)))) ⟨E8, by omega, hb68, _, _, _, _, _, hD8, by omega⟩
    rintro _ w9 ⟨E9, hs9, hb69, sn9, sk9, st9, lo9, hi9, hD9, hl9⟩
    clear hD8 hb68 E8

    repeat' (first | apply Jbs | apply Jbt | (apply Jcg; (first | exact Jaa rfl | exact Jba rfl | (apply Jbl; exact Us.h; exact rfl; exact Sz.h; exact rfl)); exact rfl) | refine Jcg (Pu_loadAgg (cs := dskC xC.1 sn9 sk9 st9) Us.h rfl Sz.h rfl (fun _ e j u hu => by rw [e]; exact hD9.ld j u hu)) rfl ?_)
    refine TL_call rfl en106 (specDiskRead_c (s := histT) hD9.own.rd hD9.fits hD9.tot) rfl rfl ?_
    rintro _ w10 ⟨v10, rfl, e10, ho10⟩
    have hs10 := e10.size
    have hbl : b.length ≤ 1048576 := by rw [hb]; exact pRead_len _ _ hD9.tot
    rw [← hb] at ho10
    obtain ⟨Ab, cb, rfl, hcb, hrb⟩ := ho10
    repeat' (first | apply Jbq | apply Jbr | apply Jbs | apply Jbt | (apply Jcg; (first | exact Jaa rfl | exact Jab rfl | exact Jae rfl rfl); exact rfl))
    refine TL_call rfl en107 (specScan_k ⟨_, _, rfl, hcb, hrb⟩ hbl) rfl rfl ?_
    rintro _ w11 ⟨vl, rfl, e11, hoe⟩
    have hs11 := e11.size
    have hn := (pScan_is b).2.2
    have e911 := e10.ext e11
    have hD11 := hD9.ext e911
    have hb611 := hb69.ext e911
    have E11 := E9.ext e911
    repeat' (first | apply Jbq | apply Jbr | (apply Jcg; (first | exact Jaa rfl | exact Jab rfl | exact Jae rfl rfl); exact rfl))
    refine TC_join (ι := Unit) (fun _ => [(6, .pointer (some ⟨g6, 0, none⟩)), (8, .pointer (some ⟨g8, 0, none⟩)), (9, I xD.2), (16, vl), (17, I ((pScan b).2 : Int))]) (fun _ w' => Ext w w' ∧ w6.heap.size ≤ w'.heap.size ∧ Blk w' g6 66 (stoC noSt (.slice none 0 0) (.slice none 0 0) (.slice none 0 0) (.slice none 0 0)) ∧ (∃ sn sk st lo hi, StX w' g8 ⟨xD.1, k, z, [], 0⟩ sn sk st (.slice none 0 0) lo hi ∧ g6 < lo ∧ (hi ≤ w10.heap.size ∨ w11.heap.size ≤ lo)) ∧ OE w' w10.heap.size w11.heap.size vl (pScan b).1 ∧ w11.heap.size ≤ w'.heap.size) ?_ ?_
    · repeat' (first | apply Jbs | apply Jbt | (apply Jcg; (first | exact Jaa rfl | exact Jak rfl rfl); exact rfl))
      refine Jcs rfl rfl (fun hc => ?_) (fun hc => ?_)
      · repeat' (first | apply Jbq | apply Jbr | (apply Jcg; (first | exact Jaa rfl | exact Jac Us.h rfl | exact Jad rfl rfl | exact Jah rfl rfl); exact rfl) | refine Jch rfl rfl rfl ?_)
        refine Jcx rfl (fun hlt => ?_) (fun hge => ?_)
        · repeat' (first | apply Jbt | (apply Jcg; exact Jaa rfl; exact rfl))
          refine TL_call rfl en108 (l06Cut_y (m := ((pScan b).2 : Int)) (y := xD) hD11 (fits_op _ _ _ _ (by omega) (by omega) (by decide) (by simp)) (by rw [hxD]; unfold opCutx; rw [← hb, if_pos (by omega)]; exact stepD_ok hc)) rfl rfl ?_
          rintro _ w12 ⟨rfl, c12, sn12, sk12, st12, lo12, hi12, hD12, hq12, hr12⟩
          have hs12 := c12.size
          repeat' (first | apply Jbq | (apply Jcg; exact Jab rfl; exact rfl))
          exact TN_join () (subEnv_cons rfl (subEnv_cons rfl (subEnv_cons rfl (subEnv_cons rfl (subEnv_cons rfl (subEnv_nil _)))))) ⟨Ext.then_iv E11 c12 (by omega), by omega, hb611.ch c12 (by simp only [Iv]; omega), ⟨_, _, _, _, _, hD12, by omega, by omega⟩, hoe.ch c12 (by intro k _ _; simp only [Iv]; omega), by omega⟩
        · have hst : xD = xC := by rw [hxD]; unfold opCutx; rw [← hb, if_neg (by omega)]
          subst hst
          repeat' (apply Jbz)
          exact TN_join () (subEnv_cons rfl (subEnv_cons rfl (subEnv_cons rfl (subEnv_cons rfl (subEnv_cons rfl (subEnv_nil _)))))) ⟨E11, by omega, hb611, ⟨_, _, _, _, _, hD11, by omega, by have := hD9.own.1; omega⟩, hoe, by omega⟩
      · have hst : xD = xC := by
          rw [hxD]
          unfold opCutx
          rw [stepD_no hc]
          split <;> rfl
        subst hst
        repeat' (first | apply Jbq | apply Jbr | apply Jbz | (refine Jcf rfl ?_) | (apply Jcg; exact Jai rfl rfl; exact rfl) | refine Jci rfl rfl rfl rfl rfl ?_)
        exact TN_join () (subEnv_cons rfl (subEnv_cons rfl (subEnv_cons rfl (subEnv_cons rfl (subEnv_cons rfl (subEnv_nil _)))))) ⟨E11, by omega, hb611, ⟨_, _, _, _, _, hD11, by omega, by have := hD9.own.1; omega⟩, hoe, by omega⟩
    clear hrb hoe hD11 hb611 E11
    rintro _ w12 ⟨E12, hs12, hb612, ⟨sn12, sk12, st12, lo12, hi12, hD12, hl12, hap12⟩, hoe12, hs12'⟩

    skip
    refine TC_join (ι := Unit) (fun _ => [(6, .pointer (some ⟨g6, 0, none⟩)), (8, .pointer (some ⟨g8, 0, none⟩)), (9, I xE.2), (16, vl), (17, I ((pScan b).2 : Int))]) (fun _ w' => Ext w w' ∧ w6.heap.size ≤ w'.heap.size ∧ Blk w' g6 66 (stoC noSt (.slice none 0 0) (.slice none 0 0) (.slice none 0 0) (.slice none 0 0)) ∧ (∃ sn sk st lo hi, StX w' g8 ⟨xE.1, k, z, [], 0⟩ sn sk st (.slice none 0 0) lo hi ∧ g6 < lo ∧ (hi ≤ w10.heap.size ∨ w11.heap.size ≤ lo)) ∧ OE w' w10.heap.size w11.heap.size vl (pScan b).1 ∧ w11.heap.size ≤ w'.heap.size) ?_ ?_
    · repeat' (first | apply Jbq | apply Jbr | apply Jbs | apply Jbt | (apply Jcg; (first | exact Jaa rfl | exact Jak rfl rfl); exact rfl))
      refine Jcx rfl (fun hc => ?_) (fun hc => ?_)
      · repeat' (first | apply Jbt | (apply Jcg; exact Jaa rfl; exact rfl))
        refine TL_call rfl en105 (l06Do_y (o := oSync histT) (y := xE) hD12 (opOf_sync _) (fits_op _ _ _ _ (by omega) (by omega) (by decide) (by simp)) (by rw [hxE]; exact stepD_ok hc)) rfl rfl ?_
        rintro _ wz ⟨rfl, cz, snz, skz, stz, loz, hiz, hDz, hqz, hrz⟩
        have hsz := cz.size
        repeat' (first | apply Jbq | (apply Jcg; exact Jab rfl; exact rfl))
        exact TN_join () (subEnv_cons rfl (subEnv_cons rfl (subEnv_cons rfl (subEnv_cons rfl (subEnv_cons rfl (subEnv_nil _)))))) ⟨Ext.then_iv E12 cz (by omega), by omega, hb612.ch cz (by simp only [Iv]; omega), ⟨_, _, _, _, _, hDz, by omega, by omega⟩, hoe12.ch cz (by intro k _ _; simp only [Iv]; omega), by omega⟩
      · have hst : xE = xD := by rw [hxE]; exact stepD_no hc
        subst hst
        repeat' (apply Jbz)
        exact TN_join () (subEnv_cons rfl (subEnv_cons rfl (subEnv_cons rfl (subEnv_cons rfl (subEnv_cons rfl (subEnv_nil _)))))) ⟨E12, by omega, hb612, ⟨_, _, _, _, _, hD12, by omega, hap12⟩, hoe12, by omega⟩
    clear hD12 hb612 E12 hoe12
    rintro _ w13 ⟨E13, hs13, hb613, ⟨sn13, sk13, st13, lo13, hi13, hD13, hl13, hap13⟩, hoe13, hs13'⟩

    skip
    refine TC_join (ι := Unit) (fun _ => [(6, .pointer (some ⟨g6, 0, none⟩)), (8, .pointer (some ⟨g8, 0, none⟩)), (9, I y.2), (16, vl), (17, I ((pScan b).2 : Int))]) (fun _ w' => Ext w w' ∧ w6.heap.size ≤ w'.heap.size ∧ Blk w' g6 66 (stoC noSt (.slice none 0 0) (.slice none 0 0) (.slice none 0 0) (.slice none 0 0)) ∧ (∃ sn sk st lo hi, StX w' g8 ⟨y.1, k, z, [], 0⟩ sn sk st (.slice none 0 0) lo hi ∧ g6 < lo ∧ (hi ≤ w10.heap.size ∨ w11.heap.size ≤ lo)) ∧ OE w' w10.heap.size w11.heap.size vl (pScan b).1 ∧ w11.heap.size ≤ w'.heap.size) ?_ ?_
    · repeat' (first | apply Jbq | apply Jbr | apply Jbs | apply Jbt | (apply Jcg; (first | exact Jaa rfl | exact Jak rfl rfl); exact rfl))
      refine Jcx rfl (fun hc => ?_) (fun hc => ?_)
      · repeat' (first | apply Jbt | (apply Jcg; exact Jaa rfl; exact rfl))
        refine TL_call rfl en105 (l06Do_y (o := oDir) (y := y) hD13 opOf_dir (fits_op _ _ _ _ (by omega) (by omega) (by decide) (by simp)) (by rw [hy]; exact stepD_ok hc)) rfl rfl ?_
        rintro _ wz ⟨rfl, cz, snz, skz, stz, loz, hiz, hDz, hqz, hrz⟩
        have hsz := cz.size
        repeat' (first | apply Jbq | (apply Jcg; exact Jab rfl; exact rfl))
        exact TN_join () (subEnv_cons rfl (subEnv_cons rfl (subEnv_cons rfl (subEnv_cons rfl (subEnv_cons rfl (subEnv_nil _)))))) ⟨Ext.then_iv E13 cz (by omega), by omega, hb613.ch cz (by simp only [Iv]; omega), ⟨_, _, _, _, _, hDz, by omega, by omega⟩, hoe13.ch cz (by intro k _ _; simp only [Iv]; omega), by omega⟩
      · have hst : y = xE := by rw [hy]; exact stepD_no hc
        subst hst
        repeat' (apply Jbz)
        exact TN_join () (subEnv_cons rfl (subEnv_cons rfl (subEnv_cons rfl (subEnv_cons rfl (subEnv_cons rfl (subEnv_nil _)))))) ⟨E13, by omega, hb613, ⟨_, _, _, _, _, hD13, by omega, hap13⟩, hoe13, by omega⟩
    clear hD13 hb613 E13 hoe13
    rintro _ w14 ⟨E14, hs14, hb614, ⟨sn14, sk14, st14, lo14, hi14, hD14, hl14, hap14⟩, hoe14, hs14'⟩

    have hvl : vl.oneCell' = true := by obtain ⟨A, c, rfl, _⟩ := hoe14; rfl
    have hb8 := hD14.blk
    have hlt8 := hb8.lt
    skip
    refine TC_join (ι := Value) (fun _ => [(6, .pointer (some ⟨g6, 0, none⟩)), (8, .pointer (some ⟨g8, 0, none⟩)), (9, I y.2)]) (fun sl w' => Ch (Iv g8 (g8 + 1)) w14 w' ∧ Blk w' g8 66 (stoC (pOpen d k z).1 sn14 sk14 st14 sl) ∧ (sl = vl ∧ (pOpen d k z).1.list = (pScan b).1 ∨ sl = .slice none 0 0 ∧ (pOpen d k z).1.list = [])) ?_ ?_
    · repeat' (first | apply Jbq | apply Jbr | apply Jbs | apply Jbt | (apply Jcg; (first | exact Jaa rfl | exact Jak rfl rfl); exact rfl))
      refine Jcx rfl (fun h0 => ?_) (fun h0 => ?_)
      · repeat' (first | apply Jbs | apply Jbt | (apply Jcg; (first | exact Jaa rfl | exact Jba rfl | (apply Jbl; exact Us.h; exact rfl; exact Sz.h; exact rfl)); exact rfl))
        refine TL_store rfl rfl Sz.h hvl hb8 rfl ?_
        intro w17 c17 hz17 hb177
        repeat' (first | apply Jbq | apply Jbr | apply Jbt | (apply Jcg; (first | exact Jaa rfl | exact Jba rfl | (apply Jbl; exact Us.h; exact rfl; exact Sz.h; exact rfl)); exact rfl))
        refine TL_store rfl rfl Sz.h rfl hb177 rfl ?_
        intro w18 c18 hz18 hb178
        repeat' (apply Jbq)
        refine TN_join vl (subEnv_cons rfl (subEnv_cons rfl (subEnv_cons rfl (subEnv_nil _)))) ⟨c17.then c18, ?_, .inl ⟨rfl, by rw [hP]; simp only [if_pos h0]⟩⟩
        rw [hP]
        simp only [if_pos h0]
        exact hb178
      · repeat' (apply Jbz)
        refine TN_join (.slice none 0 0) (subEnv_cons rfl (subEnv_cons rfl (subEnv_cons rfl (subEnv_nil _)))) ⟨Ch.refl _ _, ?_, .inr ⟨rfl, by rw [hP]; simp only [if_neg h0]⟩⟩
        rw [hP]
        simp only [if_neg h0]
        exact hb8
    rintro sl w17 ⟨c17, hb177, hsl⟩
    have hs17 := c17.size
    have hap := hD14.apart
    have hd8 := hD14.own.ch c17 (by intro k _ _; simp only [Iv]; omega)
    have hb617 := hb614.ch c17 (by simp only [Iv]; omega)
    have hoe17 := hoe14.ch c17 (by intro k _ _; simp only [Iv]; omega)
    have E17 : Ext w w17 := Ext.then_iv E14 c17 (by omega)
    have hdk : (pOpen d k z).1.disk = y.1 := by rw [hP]
    have hcd : (pOpen d k z).2 = y.2 := by rw [hP]
    obtain ⟨S, hS⟩ : ∃ S, S = (pOpen d k z).1 := ⟨_, rfl⟩
    rw [← hS] at hb177 hsl hdk ⊢
    rw [hcd]
    have hd8' : ODk w17 lo14 hi14 S.disk sn14 sk14 st14 := by rw [hdk]; exact hd8
    have hd81 := hd8.1
    have hO : ∀ w', Ch (Iv g6 (g6 + 1)) w17 w' → OSt w' w.heap.size w'.heap.size S sn14 sk14 st14 sl := fun w' c => by
      have hcs := c.size
      have h1 := hd8'.ch c (by intro k _ _; simp only [Iv]; omega)
      rcases hsl with ⟨rfl, hsl⟩ | ⟨rfl, hsl⟩
      · refine ⟨lo14, hi14, w10.heap.size, w11.heap.size, h1, by rw [hsl]; exact hoe17.ch c (by intro k _ _; simp only [Iv]; omega), by omega, by omega, by omega, by omega, by omega, Nat.le_refl _⟩
      · have hEs := E17.size
        refine ⟨lo14, hi14, w.heap.size, w.heap.size, h1, by rw [hsl]; exact ⟨none, 0, rfl, Own.nil _ _ _ _ _ (by omega)⟩, .inr (by omega), by omega, Nat.le_refl _, by omega, by omega, Nat.le_refl _⟩
    have honeS : (stoC S sn14 sk14 st14 sl).all (·.oneCell') = true := (hO w17 (Ch.refl _ _)).one
    repeat' (first | apply Jbs | apply Jbt | (apply Jcg; (first | exact Jaa rfl | exact Jba rfl); exact rfl) | refine Jcg (Pu_loadAgg (cs := stoC S sn14 sk14 st14 sl) Us.h rfl Sz.h rfl (fun _ e j u hu => by rw [e, add0, hb177.cell]; exact hu)) rfl ?_)
    refine TL_storeAgg rfl rfl Sz.h honeS hb617 rfl ?_
    intro w19 c19 hz19 hb19
    repeat' (first | apply Jbq | apply Jbr | apply Jbu | (apply Jcg; exact Jab rfl; exact rfl))
    exact TR_of (resA1 rfl rfl rfl hb19 Us.h rfl Sz.h) ⟨sn14, sk14, st14, sl, rfl, Ext.then_iv E17 c19 (by omega), hO w19 c19⟩
end Go.Proofs.YtggaghghclomkaaGreat

/- Contracts: a disk's room and fuse are set. -/
namespace Go.Proofs.YtggaghghclomkaaGreat
open Go.RowKit
abbrev withFuse (d : DiskP) (f : Int) : DiskP := { d with fuse := f }
attribute [local irreducible] TL TC TN TX TR TQ TA Pu Ret
end Go.Proofs.YtggaghghclomkaaGreat

/- Adding and tidying, interrupted anywhere: what is found behind a loss of power. The plain law. No condition. -/
namespace Go.Proofs.YtggaghghclomkaaGreat
open Go.RowKit
theorem DOk.withF {d : DiskP} (h : DOk d) {f : Int} (hf : -1 ≤ f ∧ f ≤ 1000) : DOk (withFuse d f) := by
  have hB := h.base
  unfold dBase at hB
  exact ⟨by unfold dBase; simp only; omega, h.node, h.link, h.pos, h.len, h.ids, h.turn, h.used⟩
theorem pOp_mk {s : List UInt8} (hs : pName s = true) : pOp (oMk s) = true := by unfold pOp; simp [hs]
theorem pOp_sync {s : List UInt8} (hs : pName s = true) : pOp (oSync s) = true := by unfold pOp; simp [hs]
theorem pOp_rm {s : List UInt8} (hs : pName s = true) : pOp (oRm s) = true := by unfold pOp; simp [hs]
theorem pOp_dir : pOp oDir = true := by unfold pOp; simp
theorem pOp_cut {s : List UInt8} {n : Int} (hs : pName s = true) (hn : 0 ≤ n ∧ n ≤ 60000) : pOp (oCut s n) = true := by unfold pOp; simp [hs]; omega
/-! ### adding -/
/-! ### tidying -/
/-- Whichever turns are safe, the history's file is one of those that P tells. -/
def At (d : DiskP) (P : NodeP → Prop) : Prop := ∀ m, m ≤ d.turns.length → ∃ p, HasL (runT d.kept (d.turns.take m)) d.nodes histT p ∧ P p
section
variable {d : DiskP} {P : NodeP → Prop} {p q p' : NodeP}
theorem At.mono {Q : NodeP → Prop} (h : At d P) (hq : ∀ p, P p → Q p) : At d Q := fun m hm => by obtain ⟨p, H, hp⟩ := h m hm; exact ⟨p, H, hq p hp⟩
theorem At.last (h : At d P) : ∃ p, Has d histT p ∧ P p := by
  obtain ⟨p, H, hp⟩ := h d.turns.length (Nat.le_refl _)
  rw [List.take_length] at H
  exact ⟨p, H, hp⟩
theorem At.dir (h : At d P) : At (dirD d) P := by
  obtain ⟨p, H, hp⟩ := h.last
  intro m hm
  have : (dirD d).turns = [] := rfl
  rw [this, List.take_nil]
  exact ⟨p, H.dir, hp⟩
theorem At.new (hd : DOk d) (hn : dHas (pDir d) tempT = false) (h : At d P) : At (newD d tempT) P := by
  intro m hm
  by_cases e : m ≤ d.turns.length
  · obtain ⟨p, H, hp⟩ := h m e
    refine ⟨p, ⟨?_, List.mem_append.2 (.inl H.mem), ?_⟩, hp⟩
    · show dHas (runT d.kept ((d.turns ++ [_]).take m)) histT = true
      rw [List.take_append_of_le_length e]; exact H.there
    · show p.1 = dFind (runT d.kept ((d.turns ++ [_]).take m)) histT
      rw [List.take_append_of_le_length e]; exact H.id
  · obtain ⟨p, H, hp⟩ := h.last
    have hm' : (newD d tempT).turns.length = d.turns.length + 1 := by unfold newD; simp
    have : m = (newD d tempT).turns.length := by omega
    rw [this, List.take_length]
    exact ⟨p, H.newOld hd hn, hp⟩
theorem At.put (hd : DOk d) (H : Has d tempT q) (h : At d P) (hne : ∀ p, P p → p.1 ≠ q.1) : At (putN d tempT p') P := by
  intro m hm
  obtain ⟨p, K, hp⟩ := h m hm
  exact ⟨p, H.put_other hd K (hne p hp), hp⟩
theorem At.turn {t : TnD} (h : At d P) (hl : ∃ p, Has (turnD d t) histT p ∧ P p) : At (turnD d t) P := by
  intro m hm
  by_cases e : m ≤ d.turns.length
  · obtain ⟨p, H, hp⟩ := h m e
    refine ⟨p, ⟨?_, H.mem, ?_⟩, hp⟩
    · show dHas (runT d.kept ((d.turns ++ [_]).take m)) histT = true
      rw [List.take_append_of_le_length e]; exact H.there
    · show p.1 = dFind (runT d.kept ((d.turns ++ [_]).take m)) histT
      rw [List.take_append_of_le_length e]; exact H.id
  · have hm' : (turnD d t).turns.length = d.turns.length + 1 := by unfold turnD; simp
    have : m = (turnD d t).turns.length := by omega
    rw [this, List.take_length]
    exact hl
end
end Go.Proofs.YtggaghghclomkaaGreat

/- Sizes of stores that are opened or live. The plain law. No condition. -/
namespace Go.Proofs.YtggaghghclomkaaGreat
open Go.RowKit
theorem frames_len (l : List Ent) : (l.length : Int) + totE l ≤ ((l.flatMap frame).length : Int) := by
  induction l with
  | nil => simp [totE]
  | cons a r ih =>
    have := frame_length a
    simp only [List.flatMap_cons, List.length_append, List.length_cons, totE, List.map_cons, List.sum_cons] at *
    omega
theorem pOpen_tot (d : DiskP) (k z : Int) : totS (pOpen d k z).1 ≤ 1048576 := by
  by_cases h : DOk d ∧ rangeK k z
  · obtain ⟨x, hx⟩ : ∃ x, x = opC' (opB (opA d)) := ⟨_, rfl⟩
    obtain ⟨y, hy⟩ : ∃ y, y = opEnd (opCutx x) := ⟨_, rfl⟩
    obtain ⟨b, hb⟩ : ∃ b, b = (pRead x.1 histT).1 := ⟨_, rfl⟩
    have hP : pOpen d k z = (⟨y.1, k, z, if y.2 = 0 then (pScan b).1 else [], if y.2 = 0 then ((pScan b).2 : Int) else 0⟩, y.2) := by
      unfold pOpen
      rw [if_pos h]
      subst hb hy hx
      rfl
    rw [hP]
    have hA : DOk (opA d).1 := h.1.pDo pOp_dir
    have hs : ∀ {x : DiskP × Int} {o : OpD}, DOk x.1 → pOp o = true → DOk (stepD x o).1 := fun {x o} hx ho => by
      unfold stepD
      split
      · exact hx.pDo ho
      · exact hx
    have hB : DOk (opB (opA d)).1 := by
      unfold opB
      split
      · exact hs hA (pOp_rm temp_name)
      · exact hA
    have hC : DOk x.1 := by
      rw [hx]
      unfold opC'
      split
      · exact hB
      · exact hs hB (pOp_mk hist_name)
    have hbl : b.length ≤ 60000 := by
      rw [hb]
      cases hh : dHas (pDir x.1) histT with
      | true => obtain ⟨p, H⟩ := hC.has hh; rw [H.read hC]; exact (hC.bodyLe H.mem).1
      | false => rw [read_none hh]; simp
    obtain ⟨s1, s2, s3⟩ := pScan_is b
    have hD : DOk (opCutx x).1 := by
      unfold opCutx
      split
      · exact hs hC (pOp_cut hist_name (by rw [← hb]; omega))
      · exact hC
    have hE : DOk y.1 := by rw [hy]; exact hs (hs hD (pOp_sync hist_name)) pOp_dir
    have ht := hE.totD
    have hl := frames_len (pScan b).1
    rw [s1, List.length_take] at hl
    unfold totS
    simp only
    split
    · omega
    · simp only [totE, List.length_nil, List.map_nil, List.sum_nil]; omega
  · rw [pOpen_no h]
    have : noSt.disk = noDk := rfl
    unfold totS
    rw [this, totD_no]
    simp [noSt, totE]
theorem Live.tot {s : StoreP} (h : Live s) : totS s ≤ 1048576 := by
  obtain ⟨p, H, h1, _⟩ := h.hist
  have h2 := (h.ok.disk.bodyLe H.mem).1
  have h3 := frames_len s.list
  have h4 := h.ok.disk.totD
  rw [h1] at h2
  unfold totS
  omega
theorem Live.fitsS {s : StoreP} (h : Live s) : s.fits := by
  have ht := (totS_parts h.tot).2
  refine ⟨h.ok.disk.fitsD, by omega, fun e he => ?_⟩
  have h1 := pEntry_iff.1 (chain_ok (entries_chain.1 h.ok.list) e he)
  omega
end Go.Proofs.YtggaghghclomkaaGreat

/- Draws of names, numbers and cuts, weakly said. -/
namespace Go.Proofs.YtggaghghclomkaaGreat
open Go.RowKit
attribute [local irreducible] TL TC TN TX TR TQ TA Pu Ret
def nameL : List (List UInt8) := [[104, 105, 115, 116], [116, 101, 109, 112], [104, 105, 115, 116], [116, 101, 109, 112], [97], [98], [110, 111, 116, 101, 115], [97, 98, 99, 100, 101, 102, 103, 104, 105, 106, 107, 108]]
theorem nameL_ok : ∀ s ∈ nameL, pName s = true := by decide
set_option maxHeartbeats 2000000 in
theorem l03Name_c {w : World} {g : Nat} (hcur : Cur w g) :
    Ret Tryz.prog 151 #[pt g] w fun v w' => ∃ s : List UInt8, v = S s ∧ pName s = true ∧ Ch (Iv g (g + 1)) w w' ∧ Cur w' g := by
  refine Ret_enter Tryz.func151 rfl rfl rfl ?_
  have hg1 := hcur.lt
  repeat' (first | apply Jbq | apply Jbr | apply Jbs | apply Jbt | (apply Jcg; (first | exact Jaa rfl | exact Jab rfl); exact rfl) | (refine TL_buildSlice (us := nameL.map S) Us.h Zi.h rfl rfl rfl rfl (by kernel_rfl) rfl rfl ?_; intro w2 g2 e2 hg2 hz2 hown2))
  refine TL_call rfl en115 (l01Below_c (hcur.ext e2) (by omega)) rfl rfl ?_
  rintro _ w3 ⟨x, rfl, hx0, hx1, _, c3, hcur3⟩
  have hx1 := hx1 (by omega)
  obtain ⟨x, rfl⟩ := Int.eq_ofNat_of_zero_le hx0
  have hx : x < nameL.length := by simp only [nameL, List.length_cons, List.length_nil]; omega
  obtain ⟨ad, had, hcell⟩ := (hown2.rd.ch c3 (by intro j _ _; simp only [Iv]; omega)).get (show x < 8 by omega)
  injection had with had
  subst had
  have hgv : (nameL.map S).getD x undef = S (nameL.getD x []) := by
    rw [List.getD_eq_getElem?_getD, List.getElem?_map, List.getElem?_eq_getElem hx, List.getD_eq_getElem?_getD, List.getElem?_eq_getElem hx]; rfl
  rw [hgv] at hcell
  repeat' (first | apply Jbq | apply Jbr | apply Jbu | (apply Jcg; (first | exact Jab rfl | exact Jag Us.h Sz.h rfl rfl (by omega)); exact rfl) | refine Jcg (Pu_load Fl.h rfl (fun _ e => by rw [e]; exact hcell)) rfl ?_)
  refine TR_of (res1 rfl rfl) ⟨nameL.getD x [], rfl, nameL_ok _ ?_, ((Ch.refl _ _).ext e2).then c3, hcur3⟩
  rw [List.getD_eq_getElem?_getD, List.getElem?_eq_getElem hx]; exact List.getElem_mem hx
set_option maxRecDepth 100000 in
set_option maxHeartbeats 8000000 in
theorem l03Op_c {w : World} {g : Nat} (hcur : Cur w g) :
    Ret Tryz.prog 152 #[pt g] w fun v w' => ∃ (o : OpD) (vo : Value), v = .agg (opC o vo).toArray ∧ pOp o = true ∧ o.fits ∧ o.data.length ≤ 9 ∧ Ch (Iv g (g + 1)) w w' ∧ RB w' w.heap.size w'.heap.size vo o.data ∧ Cur w' g := by
  have hg := hcur.lt
  refine Ret_enter Tryz.func152 rfl rfl rfl ?_
  repeat' (first | apply Jbs | apply Jbt)
  refine TL_alloc Zs.h rfl rfl ?_
  intro w1 g2 e1 hg2 hz1 hb2
  repeat' (first | apply Jbq | apply Jbr | apply Jbs | apply Jbt | (apply Jcg; exact Jaa rfl; exact rfl))
  refine TL_call rfl en115 (l01Below_c (hcur.ext e1) (by omega)) rfl rfl ?_
  rintro _ w2 ⟨kk, rfl, hk0, hk1, _, c2, hcur2⟩
  have hk1 := hk1 (by omega)
  repeat' ((apply Jcg; (first | exact Jaa rfl | exact Jaf rfl rfl (by omega)); exact rfl))
  refine TL_call rfl en151 (l03Name_c hcur2) rfl rfl ?_
  rintro _ w3 ⟨name, rfl, hname, c3, hcur3⟩
  have hs2 := c2.size
  have hs3 := c3.size
  replace hb2 := (hb2.ch c2 (by simp only [Iv]; omega)).ch c3 (by simp only [Iv]; omega)
  have cA := ((Ch.mono e1 (fun _ t => t.elim)).then c2).then c3
  obtain ⟨kind, hkind⟩ : ∃ kind, kind = 1 + kk := ⟨_, rfl⟩
  repeat' (refine Jcg (Pu_build (cs := [I (1 + kk), S name, S [], I 0, .slice none 0 0]) rfl (by kernel_rfl)) rfl ?_)
  refine TL_alloc Zs.h rfl rfl ?_
  intro w4 g3 e4 hg3 hz4 hb3
  skip
  refine TL_storeAgg rfl rfl Sz.h rfl hb3 rfl ?_
  clear hb3
  intro w5 c5 hz5 hb3
  rw [← hkind] at hb3
  replace hb2 := (hb2.ext e4).ch c5 (by simp only [Iv]; omega)
  have hcur5 := (hcur3.ext e4).ch c5 (by intro k _; simp only [Iv]; omega)
  have e35 : Ext w3 w5 := Ext.then_iv e4 c5 (by omega)
  have cB : Ch (Iv g (g + 1)) w w5 := cA.ext e35
  clear c2 c3 cA e4 c5 hcur2 hcur3 hcur
  repeat' (first | apply Jbq | apply Jbr)
  refine TC_join (ι := Unit) (fun _ => [(0, pt g), (2, .pointer (some ⟨g2, 0, none⟩)), (3, .pointer (some ⟨g3, 0, none⟩))]) (fun _ w' => ∃ kind, (1 ≤ kind ∧ kind ≤ 7) ∧ Ch (Iv g (g + 1)) w w' ∧ w5.heap.size ≤ w'.heap.size ∧ Blk w' g2 49 [I 0, S [], S [], I 0, .slice none 0 0] ∧ Blk w' g3 49 [I kind, S name, S [], I 0, .slice none 0 0] ∧ Cur w' g) ?_ ?_
  · repeat' (first | apply Jbs | apply Jbt | (apply Jcg; exact Jaa rfl; exact rfl))
    refine TL_call rfl en115 (l01Below_c hcur5 (by omega)) rfl rfl ?_
    rintro _ w6 ⟨x, rfl, hx0, hx1, _, c6, hcur6⟩
    have hs6 := c6.size
    replace hb2 := hb2.ch c6 (by simp only [Iv]; omega)
    replace hb3 := hb3.ch c6 (by simp only [Iv]; omega)
    repeat' (first | apply Jbq | apply Jbr | (apply Jcg; exact Jak rfl rfl; exact rfl))
    refine Jcx rfl (fun hx => ?_) (fun hx => ?_)
    · repeat' (first | apply Jbt | (apply Jcg; (apply Jbl; exact Us.h; exact rfl; exact Sz.h; exact rfl); exact rfl))
      refine TL_store rfl rfl Sz.h rfl hb3 rfl ?_
      intro w7 c7 hz7 hb37
      repeat' (apply Jbq)
      exact TN_join () (subEnv_cons rfl (subEnv_cons rfl (subEnv_cons rfl (subEnv_nil _)))) ⟨2, by omega, (cB.then c6).trans c7 (fun _ _ t => t) (fun j hj t => absurd t.1 (by omega)), by omega, hb2.ch c7 (by simp only [Iv]; omega), hb37, hcur6.ch c7 (by intro k _; simp only [Iv]; omega)⟩
    · repeat' (apply Jbz)
      exact TN_join () (subEnv_cons rfl (subEnv_cons rfl (subEnv_cons rfl (subEnv_nil _)))) ⟨kind, by omega, cB.then c6, by omega, hb2, hb3, hcur6⟩
  clear hb2 hb3 hkind kind cB hcur5 e35
  rintro _ w6 ⟨kind, hkd, c6, hs6, hb2, hb3, hcur6⟩
  have hnl := pName_len hname
  have hk7 : kind = 1 ∨ kind = 2 ∨ kind = 3 ∨ kind = 4 ∨ kind = 5 ∨ kind = 6 ∨ kind = 7 := by omega
  skip
  refine TC_join (ι := Unit) (fun _ => [(2, .pointer (some ⟨g2, 0, none⟩)), (3, .pointer (some ⟨g3, 0, none⟩))]) (fun _ w' => ∃ (o : OpD) (vo : Value), pOp o = true ∧ o.fits ∧ o.data.length ≤ 9 ∧ Ch (Iv g (g + 1)) w w' ∧ Blk w' g2 49 [I 0, S [], S [], I 0, .slice none 0 0] ∧ Blk w' g3 49 (opC o vo) ∧ (∃ lo, g3 < lo ∧ w.heap.size ≤ lo ∧ RB w' lo w'.heap.size vo o.data) ∧ Cur w' g) ?_ ?_
  · have hg3l := hb3.lt
    have nilB : ∀ w', w6.heap.size ≤ w'.heap.size → ∃ lo, g3 < lo ∧ w.heap.size ≤ lo ∧ RB w' lo w'.heap.size (.slice none 0 0) [] := fun w' hw => ⟨w'.heap.size, by omega, by omega, ⟨none, 0, rfl, Nat.le_refl _, ⟨rfl, Nat.le_refl _, fun h => absurd h (by simp)⟩⟩⟩
    have hfit : ∀ k z t dd, (1 ≤ k ∧ k ≤ 7) → (0 ≤ z ∧ z ≤ 12) → t.length ≤ 12 → (dd : List UInt8).length ≤ 9 → (⟨k, name, t, z, dd⟩ : OpD).fits := fun k z t dd h1 h2 h3 h4 => ⟨⟨by simp only; omega, by simp only; omega⟩, ⟨by simp only; omega, by simp only; omega⟩, by simp only; omega, by simp only; omega⟩
    rcases hk7 with rfl | rfl | rfl | rfl | rfl | rfl | rfl
    · repeat' (first | apply Jbq | apply Jbr | apply Jbs | apply Jbt | apply Jbx | apply Jby | apply Jbz | (refine Jcf rfl ?_) | (apply Jcg; (first | exact Jab rfl | exact Jak rfl rfl | (apply Jbl; exact Us.h; exact rfl; exact Sz.h; exact rfl)); exact rfl) | refine Jcg (Pu_load Fl.h rfl (fun _ e => by rw [e]; exact hb3.ld rfl)) rfl ?_)
      exact TN_join () (subEnv_cons rfl (subEnv_cons rfl (subEnv_nil _))) ⟨⟨1, name, [], 0, []⟩, _, by unfold pOp; simp [hname], hfit _ _ _ _ (by omega) (by omega) (by simp) (by simp), by simp, c6, hb2, hb3, nilB _ (Nat.le_refl _), hcur6⟩
    · repeat' (first | apply Jbq | apply Jbr | apply Jbs | apply Jbt | apply Jby | (refine Jce rfl ?_) | (apply Jcg; (first | exact Jaa rfl | exact Jab rfl | exact Jak rfl rfl | (apply Jbl; exact Us.h; exact rfl; exact Sz.h; exact rfl)); exact rfl) | refine Jcg (Pu_load Fl.h rfl (fun _ e => by rw [e]; exact hb3.ld rfl)) rfl ?_)
      refine TL_call rfl en177 (l01Bytes_c (most := 9) hcur6 (by omega)) rfl rfl ?_
      rintro vb w7 ⟨b, hb9, c7, hob, hcur7⟩
      have hs7 := c7.size
      have hbr := hob.rd
      repeat' ((apply Jcg; (apply Jbl; exact Us.h; exact rfl; exact Sz.h; exact rfl); exact rfl))
      refine TL_store rfl rfl Sz.h (by obtain ⟨A, c, rfl, _⟩ := hob; rfl) (hb3.ch c7 (by simp only [Iv]; omega)) rfl ?_
      intro w8 c8 hz8 hb38
      repeat' (first | apply Jbq | apply Jbx)
      exact TN_join () (subEnv_cons rfl (subEnv_cons rfl (subEnv_nil _))) ⟨⟨2, name, [], 0, b⟩, vb, by unfold pOp; simp [hname]; omega, hfit _ _ _ _ (by omega) (by omega) (by simp) hb9, hb9, (c6.then c7).trans c8 (fun _ _ t => t) (fun j hj t => absurd t.1 (by omega)), (hb2.ch c7 (by simp only [Iv]; omega)).ch c8 (by simp only [Iv]; omega), hb38, ⟨w6.heap.size, by omega, by omega, by obtain ⟨A, c, h1, h2, h3⟩ := hbr; exact ⟨A, c, h1, h2, (h3.ch c8 (by intro k _ _; simp only [Iv]; omega)).wide (Nat.le_refl _) (by omega) (Nat.le_refl _)⟩⟩, hcur7.ch c8 (by intro k _; simp only [Iv]; omega)⟩
    · repeat' (first | apply Jbq | apply Jbr | apply Jbs | apply Jbt | apply Jbx | apply Jby | apply Jbz | (refine Jcf rfl ?_) | (apply Jcg; (first | exact Jab rfl | exact Jak rfl rfl | (apply Jbl; exact Us.h; exact rfl; exact Sz.h; exact rfl)); exact rfl) | refine Jcg (Pu_load Fl.h rfl (fun _ e => by rw [e]; exact hb3.ld rfl)) rfl ?_)
      exact TN_join () (subEnv_cons rfl (subEnv_cons rfl (subEnv_nil _))) ⟨⟨3, name, [], 0, []⟩, _, by unfold pOp; simp [hname], hfit _ _ _ _ (by omega) (by omega) (by simp) (by simp), by simp, c6, hb2, hb3, nilB _ (Nat.le_refl _), hcur6⟩
    · repeat' (first | apply Jbq | apply Jbr | apply Jbs | apply Jbt | apply Jby | (refine Jce rfl ?_) | (refine Jcf rfl ?_) | (apply Jcg; (first | exact Jaa rfl | exact Jab rfl | exact Jak rfl rfl | (apply Jbl; exact Us.h; exact rfl; exact Sz.h; exact rfl)); exact rfl) | refine Jcg (Pu_load Fl.h rfl (fun _ e => by rw [e]; exact hb3.ld rfl)) rfl ?_)
      refine TL_call rfl en115 (l01Below_c hcur6 (by omega)) rfl rfl ?_
      rintro _ w7 ⟨x, rfl, hx0, hx1, _, c7, hcur7⟩
      have hx1 := hx1 (by omega)
      have hs7 := c7.size
      repeat' ((apply Jcg; (apply Jbl; exact Us.h; exact rfl; exact Sz.h; exact rfl); exact rfl))
      refine TL_store rfl rfl Sz.h rfl (hb3.ch c7 (by simp only [Iv]; omega)) rfl ?_
      intro w8 c8 hz8 hb38
      repeat' (first | apply Jbq | apply Jbx)
      exact TN_join () (subEnv_cons rfl (subEnv_cons rfl (subEnv_nil _))) ⟨⟨4, name, [], x, []⟩, .slice none 0 0, by unfold pOp; simp [hname]; omega, hfit _ _ _ _ (by omega) (by omega) (by simp) (by simp), by simp, (c6.then c7).trans c8 (fun _ _ t => t) (fun j hj t => absurd t.1 (by omega)), (hb2.ch c7 (by simp only [Iv]; omega)).ch c8 (by simp only [Iv]; omega), hb38, nilB _ (by omega), hcur7.ch c8 (by intro k _; simp only [Iv]; omega)⟩
    · repeat' (first | apply Jbq | apply Jbr | apply Jbs | apply Jbt | apply Jby | (refine Jce rfl ?_) | (refine Jcf rfl ?_) | (apply Jcg; (first | exact Jaa rfl | exact Jab rfl | exact Jak rfl rfl | (apply Jbl; exact Us.h; exact rfl; exact Sz.h; exact rfl)); exact rfl) | refine Jcg (Pu_load Fl.h rfl (fun _ e => by rw [e]; exact hb3.ld rfl)) rfl ?_)
      refine TL_call rfl en151 (l03Name_c hcur6) rfl rfl ?_
      rintro _ w7 ⟨to, rfl, hto, c7, hcur7⟩
      have hs7 := c7.size
      have htl := pName_len hto
      repeat' ((apply Jcg; (apply Jbl; exact Us.h; exact rfl; exact Sz.h; exact rfl); exact rfl))
      refine TL_store rfl rfl Sz.h rfl (hb3.ch c7 (by simp only [Iv]; omega)) rfl ?_
      intro w8 c8 hz8 hb38
      repeat' (first | apply Jbq | apply Jbx)
      exact TN_join () (subEnv_cons rfl (subEnv_cons rfl (subEnv_nil _))) ⟨⟨5, name, to, 0, []⟩, .slice none 0 0, by unfold pOp; simp [hname, hto], hfit _ _ _ _ (by omega) (by omega) (by omega) (by simp), by simp, (c6.then c7).trans c8 (fun _ _ t => t) (fun j hj t => absurd t.1 (by omega)), (hb2.ch c7 (by simp only [Iv]; omega)).ch c8 (by simp only [Iv]; omega), hb38, nilB _ (by omega), hcur7.ch c8 (by intro k _; simp only [Iv]; omega)⟩
    · repeat' (first | apply Jbq | apply Jbr | apply Jbs | apply Jbt | apply Jbx | apply Jby | apply Jbz | (refine Jcf rfl ?_) | (apply Jcg; (first | exact Jab rfl | exact Jak rfl rfl | (apply Jbl; exact Us.h; exact rfl; exact Sz.h; exact rfl)); exact rfl) | refine Jcg (Pu_load Fl.h rfl (fun _ e => by rw [e]; exact hb3.ld rfl)) rfl ?_)
      exact TN_join () (subEnv_cons rfl (subEnv_cons rfl (subEnv_nil _))) ⟨⟨6, name, [], 0, []⟩, _, by unfold pOp; simp [hname], hfit _ _ _ _ (by omega) (by omega) (by simp) (by simp), by simp, c6, hb2, hb3, nilB _ (Nat.le_refl _), hcur6⟩
    · repeat' (first | apply Jbq | apply Jbr | apply Jbs | apply Jbt | apply Jby | (refine Jce rfl ?_) | (refine Jcf rfl ?_) | (apply Jcg; (first | exact Jab rfl | exact Jak rfl rfl | (apply Jbl; exact Us.h; exact rfl; exact Sz.h; exact rfl)); exact rfl) | refine Jcg (Pu_load Fl.h rfl (fun _ e => by rw [e]; exact hb3.ld rfl)) rfl ?_)
      refine TL_store rfl rfl Sz.h rfl hb3 rfl ?_
      intro w8 c8 hz8 hb38
      repeat' (first | apply Jbq | apply Jbx)
      exact TN_join () (subEnv_cons rfl (subEnv_cons rfl (subEnv_nil _))) ⟨⟨7, [], [], 0, []⟩, .slice none 0 0, by unfold pOp; simp, ⟨⟨by simp, by simp⟩, ⟨by simp, by simp⟩, by simp, by simp⟩, by simp, c6.trans c8 (fun _ _ t => t) (fun j hj t => absurd t.1 (by omega)), hb2.ch c8 (by simp only [Iv]; omega), hb38, nilB _ (by omega), hcur6.ch c8 (by intro k _; simp only [Iv]; omega)⟩
  rintro _ w7 ⟨o, vo, ho, hof, hod, c7, hb27, hb37, ⟨lo, hlo1, hlo2, hrb⟩, hcur7⟩
  have hone : (opC o vo).all (·.oneCell') = true := by obtain ⟨A, c, rfl, _⟩ := hrb; rfl
  repeat' (first | apply Jbs | apply Jbt | refine Jcg (Pu_loadAgg (cs := opC o vo) Us.h rfl Sz.h rfl (fun _ e j u hu => by rw [e, add0, hb37.cell]; exact hu)) rfl ?_)
  refine TL_storeAgg rfl rfl Sz.h hone hb27 rfl ?_
  intro w8 c8 hz8 hb28
  repeat' (first | apply Jbq | apply Jbr | apply Jbu)
  exact TR_of (resA rfl rfl hb28 Us.h rfl Sz.h) ⟨o, vo, rfl, ho, hof, hod, c7.trans c8 (fun _ _ t => t) (fun j hj t => absurd t.1 (by omega)), by obtain ⟨A, c, h1, h2, h3⟩ := hrb; exact ⟨A, c, h1, h2, (h3.ch c8 (by intro k _ _; simp only [Iv]; omega)).wide hlo2 (by omega) (Nat.le_refl _)⟩, hcur7.ch c8 (by intro k _; simp only [Iv]; omega)⟩
end Go.Proofs.YtggaghghclomkaaGreat

/- Rows of operations that are read. No condition. -/
namespace Go.Proofs.YtggaghghclomkaaGreat
open Go.RowKit
/-- An operation as it lies in a row. -/
structure Od where
  o : OpD
  v : Value
def OdC (x : Od) : List Value := opC x.o x.v
def ROp (w : World) (lo hi : Nat) (v : Value) (l : List OpD) : Prop := ∃ (es : List Od) (A : Option Addr) (c : Nat), es.map (·.o) = l ∧ v = .slice A es.length c ∧ es.length ≤ c ∧ Rd w lo hi 5 A es.length (cellsL OdC es) ∧ ∀ x ∈ es, RB w lo hi x.v x.o.data
theorem ROp.ch {w w' : World} {lo hi : Nat} {v : Value} {l : List OpD} {T : Nat → Prop} (h : ROp w lo hi v l) (c : Ch T w w') (hd : ∀ k, lo ≤ k → k < hi → ¬ T k) : ROp w' lo hi v l := by
  obtain ⟨es, A, cc, h1, h2, h3, h4, h5⟩ := h
  exact ⟨es, A, cc, h1, h2, h3, h4.ch c hd, fun x hx => (h5 x hx).ch c hd⟩
theorem ROp.ext {w w' : World} {lo hi : Nat} {v : Value} {l : List OpD} (h : ROp w lo hi v l) (c : Ext w w') : ROp w' lo hi v l := h.ch c (fun _ _ _ t => t)
theorem ROp.nil (w : World) : ROp w 0 w.heap.size (.slice none 0 0) [] := ⟨[], none, 0, rfl, rfl, Nat.le_refl _, ⟨by simp [cellsL], Nat.le_refl _, fun h => absurd h (by simp)⟩, fun x hx => by cases hx⟩
end Go.Proofs.YtggaghghclomkaaGreat

/- Draws of cuts and disks: right disks, few files made. -/
namespace Go.Proofs.YtggaghghclomkaaGreat
open Go.RowKit
def newDk (room : Int) : DiskP := ⟨room, -1, 1, [], [], []⟩
theorem newDk_ok {room : Int} (h : 0 ≤ room ∧ room ≤ 60000) : DOk (newDk room) :=
  ⟨by unfold dBase newDk; simp; omega, fun i hi => absurd hi (by simp [newDk]), fun i hi => absurd hi (by simp [newDk]), fun x hx => (by cases hx), rfl, fun j hj => absurd hj (by simp [newDk, pIds]), fun j hj => absurd hj (by simp [newDk]), by simp [newDk, pUsed]; omega⟩
theorem ODk.none {w : World} {lo hi : Nat} {d : DiskP} (h : hi ≤ w.heap.size) (h1 : d.nodes = []) (h2 : d.kept = []) (h3 : d.turns = []) : ODk w lo hi d (.slice none 0 0) (.slice none 0 0) (.slice none 0 0) :=
  ⟨h, [], by rw [h1]; rfl, ONx.empty w, by rw [h2]; exact (RowO.nil w 0 (Nat.zero_le _)).x, by rw [h3]; exact (RowO.nil w 0 (Nat.zero_le _)).x, by simp [bksN, blk], by simp [bksN, blk]⟩
theorem DOk.fused {d : DiskP} (h : DOk d) {f : Int} (hf : -1 ≤ f ∧ f ≤ 1000) : DOk { d with fuse := f } := by
  have hB := h.base
  unfold dBase at hB
  exact ⟨by unfold dBase; simp only; omega, h.node, h.link, h.pos, h.len, h.ids, h.turn, h.used⟩
theorem pDo_next {d : DiskP} (o : OpD) (h : DOk d) : (pDo d o).1.next ≤ d.next + 1 := by
  have hB := h.base
  unfold dBase at hB
  unfold pDo
  split
  · split
    · unfold doD
      repeat' split
      all_goals (simp only; omega)
    · simp only; omega
  · unfold noDk; simp only; omega
attribute [local irreducible] TL TC TN TX TR TQ TA Pu Ret
set_option maxHeartbeats 1000000 in
theorem specNew_c {room : Int} (w : World) (h : 0 ≤ room ∧ room ≤ 60000) : Ret Tryz.prog 113 #[I room] w fun v w' => v = .tuple #[.agg (dskC (newDk room) (.slice none 0 0) (.slice none 0 0) (.slice none 0 0)).toArray, .bool true] ∧ Ext w w' := by
  refine Ret_enter Tryz.func113 rfl rfl rfl ?_
  repeat' (first | apply Jbs | apply Jbt)
  refine TL_alloc Zs.h rfl rfl ?_
  intro w1 g E hg hz hbk
  repeat' (first | apply Jbq | apply Jbr | apply Jbs | apply Jbt | apply Jbu | apply Jbz | (apply Jcg; (first | exact Jaa rfl | exact Jab rfl | exact Jad rfl rfl | exact Jai rfl rfl | exact Jam rfl rfl); exact rfl) | refine Jch rfl rfl rfl ?_ | (refine Jcg (Pu_build (cs := dskC (newDk room) (.slice none 0 0) (.slice none 0 0) (.slice none 0 0)) rfl (by kernel_rfl)) rfl ?_) | (refine TL_storeAgg rfl rfl Sz.h rfl hbk rfl ?_; intro w2 c2 hz2 hb2) | (refine Jcs rfl rfl (fun hb => ?_) (fun hb => ?_) <;> (try (exfalso; omega))) | (refine Jcx rfl (fun hb => ?_) (fun hb => ?_) <;> (try (exfalso; omega))))
  all_goals exact TR_of (resA1 rfl rfl rfl hb2 Us.h rfl Sz.h) ⟨rfl, Ext.then_iv E c2 (by omega)⟩
set_option maxRecDepth 100000 in
set_option maxHeartbeats 8000000 in
theorem l03Draw_n {w : World} {g : Nat} {most : Nat} (hcur : Cur w g) (hm : most ≤ 65536) :
    Ret Tryz.prog 100 #[pt g, I most] w fun v w' => ∃ (d : DiskP) (sn sk st : Value), v = .agg (dskC d sn sk st).toArray ∧ (DOk d ∧ d.next ≤ most + 2) ∧ Ch (Iv g (g + 1)) w w' ∧ RDk w' w.heap.size w'.heap.size d sn sk st ∧ Cur w' g := by
  have hg := hcur.lt
  refine Ret_enter Tryz.func100 rfl rfl rfl ?_
  repeat' (first | apply Jbs | apply Jbt)
  refine TL_alloc Zs.h rfl rfl ?_
  intro w1 g4 e1 hg4 hz1 hb4
  repeat' (first | apply Jbq | apply Jbr | apply Jbs | apply Jbt)
  refine TL_buildSlice (us := i64s [0, 9, 30, 60, 200, 60000]) Us.h Zi.h rfl rfl rfl rfl (by kernel_rfl) rfl rfl ?_
  intro w2 g2 e2 hg2 hz2 hown2
  repeat' ((apply Jcg; exact Jaa rfl; exact rfl))
  refine TL_call rfl en115 (l01Below_c ((hcur.ext e1).ext e2) (by omega)) rfl rfl ?_
  rintro _ w3 ⟨x, rfl, hx0, hx1, _, c3, hcur3⟩
  have hx1 := hx1 (by omega)
  obtain ⟨x, rfl⟩ := Int.eq_ofNat_of_zero_le hx0
  obtain ⟨ad, had, hcell⟩ := (hown2.rd.ch c3 (by intro j _ _; simp only [Iv]; omega)).get (show x < 6 by omega)
  injection had with had
  subst had
  rw [i64s_get [0, 9, 30, 60, 200, 60000] (by simp; omega)] at hcell
  obtain ⟨room, hroom⟩ : ∃ room, room = ([0, 9, 30, 60, 200, 60000] : List Int).getD x 0 := ⟨_, rfl⟩
  rw [← hroom] at hcell
  have hrm : 0 ≤ room ∧ room ≤ 60000 := by
    have h6 : x = 0 ∨ x = 1 ∨ x = 2 ∨ x = 3 ∨ x = 4 ∨ x = 5 := by omega
    rcases h6 with rfl | rfl | rfl | rfl | rfl | rfl <;> rw [hroom] <;> decide
  have hs3 := c3.size
  have hb43 := (hb4.ext e2).ch c3 (by simp only [Iv]; omega)
  repeat' (first | (apply Jcg; exact Jag Us.h Sz.h rfl rfl (by omega); exact rfl) | refine Jcg (Pu_load Fl.h rfl (fun _ e => by rw [e]; exact hcell)) rfl ?_)
  refine TL_call rfl en113 (specNew_c _ hrm) rfl rfl ?_
  rintro _ w4 ⟨rfl, e4⟩
  have hs4 := e4.size
  repeat' ((apply Jcg; (first | exact Jaa rfl | exact Jae rfl rfl); exact rfl))
  refine TL_alloc Zs.h rfl rfl ?_
  intro w5 g5 e5 hg5 hz5 hb5
  skip
  refine TL_storeAgg rfl rfl Sz.h rfl hb5 rfl ?_
  clear hb5
  intro w6 c6 hz6 hb5
  have hcur6 := ((hcur3.ext e4).ext e5).ch c6 (by intro k _; simp only [Iv]; omega)
  have hb46 := ((hb43.ext e4).ext e5).ch c6 (by simp only [Iv]; omega)
  have c06 : Ch (Iv g (g + 1)) w w6 := ((((((Ch.mono e1 (fun _ t => t.elim)).ext e2).then c3).ext e4).ext e5).trans c6 (fun _ _ t => t) (fun j hj t => absurd t.1 (by omega)))
  have hgs : w.heap.size ≤ g4 ∧ g4 < g5 ∧ g5 < w6.heap.size := by omega
  have hx6 : ODk w6 w6.heap.size w6.heap.size (newDk room) (.slice none 0 0) (.slice none 0 0) (.slice none 0 0) := ODk.none (Nat.le_refl _) rfl rfl rfl
  repeat' (first | apply Jbq | apply Jbr | apply Jbs | (apply Jcg; exact Jab rfl; exact rfl))
  have hld6 : ∀ j u, (dskC (newDk room) (.slice none 0 0) (.slice none 0 0) (.slice none 0 0))[j]? = some u → w6.cell? ((⟨g5, 0, none⟩ : Addr).add j) = some u := fun j u hu => by rw [add0, hb5.cell]; exact hu
  refine TC_anyB (fun w' => Ch (fun j => j = g ∨ j = g5) w6 w') (fun w' => ∀ j u, (dskC (newDk room) (.slice none 0 0) (.slice none 0 0) (.slice none 0 0))[j]? = some u → w'.cell? ((⟨g5, 0, none⟩ : Addr).add j) = some u) 8 mixed rfl (Ch.refl _ _).drew (fun j u hu => Ext.cell (Ch.refl _ _).drew (hld6 j u hu)) ?_
  intro w7 e7 hz7 hA hB
  (refine TB_takeB 0 rfl rfl rfl (by kernel_rfl) rfl (by kernel_rfl) (by kernel_rfl) (by kernel_rfl) (fun _ _ _ h => h) ⟨hA, fun _ => hB⟩ (by exact Pu_loadAgg (cs := dskC (newDk room) (.slice none 0 0) (.slice none 0 0) (.slice none 0 0)) Us.h rfl Sz.h rfl (fun _ e => e.2)) rfl ?_)
  (refine TB_take 1 rfl rfl rfl (by kernel_rfl) (by kernel_rfl) (by kernel_rfl) (fun _ _ _ h => h) ⟨hA, fun _ => hB⟩ (by exact Jaa rfl) rfl ?_)
  refine TB_one 2 (by kernel_rfl) rfl ?_
  refine TL_call rfl en151 (l03Name_c (hcur6.ext e7)) rfl rfl ?_
  rintro _ w8 ⟨name, rfl, hname, c8, hcur8⟩
  have hs7 := e7.size
  have hs8 := c8.size
  replace hA := hA.then (c8.mono (fun j hj => .inl (by have := hj.1; have := hj.2; omega)))
  replace hB := fun j u hu => Ch.cell c8 (hB j u hu) (by rw [block_of_add]; simp only [Iv]; omega)
  refine Jbq (TN_anyB ⟨hA, fun _ => hB⟩ ?_)
  (refine TB_take 3 rfl rfl rfl (by kernel_rfl) (by kernel_rfl) (by kernel_rfl) (fun _ _ _ h => h) ⟨hA, fun _ => hB⟩ (by exact Pu_build (cs := opC ⟨1, name, [], 0, []⟩ (.slice none 0 0)) rfl (by kernel_rfl)) rfl ?_)
  refine TB_one 4 (by kernel_rfl) rfl ?_
  have hnl := pName_len hname
  have hok1 : pOp ⟨1, name, [], 0, []⟩ = true := by unfold pOp; simp [hname]
  have hofit : (⟨1, name, [], 0, []⟩ : OpD).fits := ⟨⟨by simp, by simp⟩, ⟨by simp, by simp⟩, by simp only; omega, by simp⟩
  have hD0 := newDk_ok hrm
  have hx8 := (hx6.ext e7).ch c8 (by intro k _ _; simp only [Iv]; omega)
  refine TL_call rfl en22 (specDiskDo_c (o := ⟨1, name, [], 0, []⟩) (vo := .slice none 0 0) (lo2 := 0) (hi2 := w8.heap.size) hx8.rd hD0.fitsD (by have := hD0.totD; omega) ⟨none, 0, rfl, Nat.le_refl _, ⟨rfl, Nat.le_refl _, fun h => absurd h (by simp)⟩⟩ hofit) rfl rfl ?_
  rintro _ w9 ⟨sn9, sk9, st9, rfl, e9, hx9⟩
  have hs9 := e9.size
  have hone9 := hx9.one
  replace hA := hA.ext e9
  replace hB := fun j u hu => e9.cell (hB j u hu)
  refine Jbq (TN_anyB ⟨hA, fun _ => hB⟩ ?_)
  (refine TB_take 5 rfl rfl rfl (by kernel_rfl) (by kernel_rfl) (by kernel_rfl) (fun _ _ _ h => h) ⟨hA, fun _ => hB⟩ (by exact Jaa rfl) rfl ?_; refine TB_take 6 rfl rfl rfl (by kernel_rfl) (by kernel_rfl) (by kernel_rfl) (fun _ _ _ h => h) ⟨hA, fun _ => hB⟩ (by exact Jae rfl rfl) rfl ?_; refine TB_take 7 rfl rfl rfl (by kernel_rfl) (by kernel_rfl) (by kernel_rfl) (fun _ _ _ h => h) ⟨hA, fun _ => hB⟩ (by exact Jae rfl rfl) rfl ?_)
  refine TB_one 8 (by kernel_rfl) rfl ?_
  have hb59 := ((hb5.ext e7).ch c8 (by simp only [Iv]; omega)).ext e9
  refine TL_storeAgg rfl rfl Sz.h hone9 hb59 rfl ?_
  intro w10 c10 hz10 hb510
  refine Jbq (TN_anyB ⟨hA.then (c10.mono (fun j hj => .inr (by have := hj.1; have := hj.2; omega))), fun h => nomatch (show true = false from h)⟩ ?_)
  refine TB_done (by kernel_rfl) ?_
  have hD1 := hD0.pDo hok1
  have hN1 : (pDo (newDk room) ⟨1, name, [], 0, []⟩).1.next ≤ 2 := pDo_next _ hD0
  have hx10 := hx9.ch c10 (by intro k _ _; simp only [Iv]; omega)
  have hcur10 := (hcur8.ext e9).ch c10 (by intro k _; simp only [Iv]; omega)
  have hb410 := (((hb46.ext e7).ch c8 (by simp only [Iv]; omega)).ext e9).ch c10 (by simp only [Iv]; omega)
  have c010 : Ch (Iv g (g + 1)) w w10 := ((((c06.ext e7).then c8).ext e9).trans c10 (fun _ _ t => t) (fun j hj t => absurd t.1 (by omega)))
  have hw10 : w6.heap.size ≤ w8.heap.size ∧ w9.heap.size ≤ w10.heap.size := by omega
  obtain ⟨d1, hd1⟩ : ∃ d1, d1 = (pDo (newDk room) ⟨1, name, [], 0, []⟩).1 := ⟨_, rfl⟩
  rw [← hd1] at hD1 hx10 hb510 hN1
  clear hA hB hx9 hx8 hx6 hb59 hb5 hb46 hb4 hb43 hd1 hld6
  repeat' (apply Jbr)
  refine TC_join (ι := DiskP × Value × Value × Value) (fun _ => [(0, pt g), (4, .pointer (some ⟨g4, 0, none⟩)), (5, .pointer (some ⟨g5, 0, none⟩))]) (fun x w' => (DOk x.1 ∧ x.1.next ≤ most + 2) ∧ Ch (Iv g (g + 1)) w w' ∧ w6.heap.size ≤ w'.heap.size ∧ Blk w' g4 33 (dskC noDk (.slice none 0 0) (.slice none 0 0) (.slice none 0 0)) ∧ Blk w' g5 33 (dskC x.1 x.2.1 x.2.2.1 x.2.2.2) ∧ Cur w' g ∧ ∃ lo1 hi1, w6.heap.size ≤ lo1 ∧ hi1 ≤ w'.heap.size ∧ ODk w' lo1 hi1 x.1 x.2.1 x.2.2.1 x.2.2.2) ?_ ?_
  · repeat' (first | apply Jbs | apply Jbt | (apply Jcg; (first | exact Jaa rfl | exact Jaf rfl rfl (by omega)); exact rfl))
    refine TL_call rfl en115 (l01Below_c hcur10 (by omega)) rfl rfl ?_
    rintro _ w11 ⟨n, rfl, hn0, hn1, _, c11, hcur11⟩
    have hn1 := hn1 (by omega)
    obtain ⟨n, rfl⟩ := Int.eq_ofNat_of_zero_le hn0
    have hs11 := c11.size
    repeat' (first | apply Jbq | apply Jbr | apply Jby | (apply Jcg; exact Jab rfl; exact rfl))
    refine TC_loop (ι := Nat × DiskP × Value × Value × Value) (fun x => [(0, pt g), (4, .pointer (some ⟨g4, 0, none⟩)), (5, .pointer (some ⟨g5, 0, none⟩)), (7, I x.1)])
      (fun x w' => x.1 ≤ n ∧ (DOk x.2.1 ∧ x.2.1.next ≤ 2 + (n : Int) - (x.1 : Int)) ∧ Ch (Iv g (g + 1)) w w' ∧ w6.heap.size ≤ w'.heap.size ∧ Blk w' g4 33 (dskC noDk (.slice none 0 0) (.slice none 0 0) (.slice none 0 0)) ∧ Blk w' g5 33 (dskC x.2.1 x.2.2.1 x.2.2.2.1 x.2.2.2.2) ∧ Cur w' g ∧ ∃ lo1 hi1, w6.heap.size ≤ lo1 ∧ hi1 ≤ w'.heap.size ∧ ODk w' lo1 hi1 x.2.1 x.2.2.1 x.2.2.2.1 x.2.2.2.2) (fun x => x.1) (n, d1, sn9, sk9, st9)
      (subEnv_cons rfl (subEnv_cons rfl (subEnv_cons rfl (subEnv_cons rfl (subEnv_nil _))))) ⟨Nat.le_refl _, ⟨hD1, by simp only; omega⟩, c010.then c11, by omega, hb410.ch c11 (by simp only [Iv]; omega), hb510.ch c11 (by simp only [Iv]; omega), hcur11, _, _, hw10.1, by omega, hx10.ch c11 (by intro k _ _; simp only [Iv]; omega)⟩ ?_
    rintro ⟨m, dk, sn, sk, st⟩ w12 ⟨hm12, ⟨hDk, hNk⟩, c12, hs12, hb412, hb512, hcur12, lo1, hi1, hlo, hhi, hx12⟩
    simp only at hm12 hDk hNk hb512 hx12
    repeat' (first | apply Jbq | apply Jbr | apply Jbs | apply Jbt | (apply Jcg; (first | exact Jaa rfl | exact Jam rfl rfl); exact rfl))
    refine Jcx rfl (fun hb => ?_) (fun hb => ?_)
    · repeat' (first | apply Jbr | apply Jbs | apply Jby | apply Jbz)
      have hld : ∀ j u, (dskC dk sn sk st)[j]? = some u → w12.cell? ((⟨g5, 0, none⟩ : Addr).add j) = some u := fun j u hu => by rw [add0, hb512.cell]; exact hu
      refine TC_anyB (fun w' => Ch (fun j => j = g ∨ j = g5) w12 w') (fun w' => ∀ j u, (dskC dk sn sk st)[j]? = some u → w'.cell? ((⟨g5, 0, none⟩ : Addr).add j) = some u) 7 mixed rfl (Ch.refl _ _).drew (fun j u hu => Ext.cell (Ch.refl _ _).drew (hld j u hu)) ?_
      intro w13 e13 hz13 hA hB
      (refine TB_takeB 0 rfl rfl rfl (by kernel_rfl) rfl (by kernel_rfl) (by kernel_rfl) (by kernel_rfl) (fun _ _ _ h => h) ⟨hA, fun _ => hB⟩ (by exact Pu_loadAgg (cs := dskC dk sn sk st) Us.h rfl Sz.h rfl (fun _ e => e.2)) rfl ?_)
      (refine TB_take 1 rfl rfl rfl (by kernel_rfl) (by kernel_rfl) (by kernel_rfl) (fun _ _ _ h => h) ⟨hA, fun _ => hB⟩ (by exact Jaa rfl) rfl ?_)
      refine TB_one 2 (by kernel_rfl) rfl ?_
      refine TL_call rfl en152 (l03Op_c (hcur12.ext e13)) rfl rfl ?_
      rintro _ w14 ⟨o, vo, rfl, hop, hof, hod, c14, hrb, hcur14⟩
      have hs13 := e13.size
      have hs14 := c14.size
      replace hA := hA.then (c14.mono (fun j hj => .inl (by have := hj.1; have := hj.2; omega)))
      replace hB := fun j u hu => Ch.cell c14 (hB j u hu) (by rw [block_of_add]; simp only [Iv]; omega)
      refine Jbq (TN_anyB ⟨hA, fun _ => hB⟩ ?_)
      refine TB_one 3 (by kernel_rfl) rfl ?_
      have hx14 := (hx12.ext e13).ch c14 (by intro k _ _; simp only [Iv]; omega)
      refine TL_call rfl en22 (specDiskDo_c hx14.rd hDk.fitsD (by have := hDk.totD; omega) hrb hof) rfl rfl ?_
      rintro _ w15 ⟨sn15, sk15, st15, rfl, e15, hx15⟩
      have hs15 := e15.size
      have hone15 := hx15.one
      replace hA := hA.ext e15
      replace hB := fun j u hu => e15.cell (hB j u hu)
      refine Jbq (TN_anyB ⟨hA, fun _ => hB⟩ ?_)
      (refine TB_take 4 rfl rfl rfl (by kernel_rfl) (by kernel_rfl) (by kernel_rfl) (fun _ _ _ h => h) ⟨hA, fun _ => hB⟩ (by exact Jaa rfl) rfl ?_; refine TB_take 5 rfl rfl rfl (by kernel_rfl) (by kernel_rfl) (by kernel_rfl) (fun _ _ _ h => h) ⟨hA, fun _ => hB⟩ (by exact Jae rfl rfl) rfl ?_; refine TB_take 6 rfl rfl rfl (by kernel_rfl) (by kernel_rfl) (by kernel_rfl) (fun _ _ _ h => h) ⟨hA, fun _ => hB⟩ (by exact Jae rfl rfl) rfl ?_)
      refine TB_one 7 (by kernel_rfl) rfl ?_
      have hb515 := ((hb512.ext e13).ch c14 (by simp only [Iv]; omega)).ext e15
      refine TL_storeAgg rfl rfl Sz.h hone15 hb515 rfl ?_
      intro w16 c16 hz16 hb516
      refine Jbq (TN_anyB ⟨hA.then (c16.mono (fun j hj => .inr (by have := hj.1; have := hj.2; omega))), fun h => nomatch (show true = false from h)⟩ ?_)
      refine TB_done (by kernel_rfl) ?_
      repeat' (first | apply Jbq | apply Jbr | apply Jbt | apply Jbx | (apply Jcg; (first | exact Jaa rfl | exact Jab rfl | exact Jap rfl rfl (by omega)); exact rfl))
      exact TN_round (m - 1, (pDo dk o).1, sn15, sk15, st15) (subEnv_cons rfl (subEnv_cons rfl (subEnv_cons rfl (subEnv_cons (congrArg (fun z => some (I z)) (by simp only; omega)) (subEnv_nil _))))) ⟨by simp only; omega, ⟨hDk.pDo hop, by have := pDo_next o hDk; simp only; omega⟩, (((c12.ext e13).then c14).ext e15).trans c16 (fun _ _ t => t) (fun j hj t => absurd t.1 (by omega)), by omega, (((hb412.ext e13).ch c14 (by simp only [Iv]; omega)).ext e15).ch c16 (by simp only [Iv]; omega), hb516, ((hcur14.ext e15).ch c16 (by intro k _; simp only [Iv]; omega)), _, _, by omega, by omega, hx15.ch c16 (by intro k _ _; simp only [Iv]; omega)⟩ (by simp only; omega)
    · repeat' (first | apply Jca | apply Jcb | apply Jcc)
      exact TN_join (dk, sn, sk, st) (subEnv_cons rfl (subEnv_cons rfl (subEnv_cons rfl (subEnv_nil _)))) ⟨⟨hDk, by simp only; omega⟩, c12, hs12, hb412, hb512, hcur12, lo1, hi1, hlo, hhi, hx12⟩
  rintro ⟨dk, sn, sk, st⟩ w12 ⟨⟨hDk, hNk⟩, c12, hs12, hb412, hb512, hcur12, lo1, hi1, hlo, hhi, hx12⟩
  simp only at hDk hNk hb512 hx12
  skip
  refine TC_join (ι := DiskP) (fun _ => [(4, .pointer (some ⟨g4, 0, none⟩)), (5, .pointer (some ⟨g5, 0, none⟩))]) (fun x w' => (DOk x ∧ x.next ≤ most + 2) ∧ Ch (Iv g (g + 1)) w w' ∧ Blk w' g4 33 (dskC noDk (.slice none 0 0) (.slice none 0 0) (.slice none 0 0)) ∧ Blk w' g5 33 (dskC x sn sk st) ∧ Cur w' g ∧ hi1 ≤ w'.heap.size ∧ ODk w' lo1 hi1 x sn sk st) ?_ ?_
  · repeat' (first | apply Jbs | apply Jbt | (apply Jcg; exact Jaa rfl; exact rfl))
    refine TL_call rfl en115 (l01Below_c hcur12 (by omega)) rfl rfl ?_
    rintro _ w13 ⟨y, rfl, hy0, hy1, _, c13, hcur13⟩
    have hs13 := c13.size
    have hb413 := hb412.ch c13 (by simp only [Iv]; omega)
    have hb513 := hb512.ch c13 (by simp only [Iv]; omega)
    have hx13 := hx12.ch c13 (by intro k _ _; simp only [Iv]; omega)
    repeat' (first | apply Jbq | apply Jbr | (apply Jcg; exact Jak rfl rfl; exact rfl))
    refine Jcx rfl (fun hp => ?_) (fun hp => ?_)
    · repeat' (first | apply Jbt | (apply Jcg; exact Jaa rfl; exact rfl))
      refine TL_call rfl en115 (l01Below_c hcur13 (by omega)) rfl rfl ?_
      rintro _ w14 ⟨z, rfl, hz0, hz1, _, c14, hcur14⟩
      have hz1 := hz1 (by omega)
      have hs14 := c14.size
      repeat' ((apply Jcg; (apply Jbl; exact Us.h; exact rfl; exact Sz.h; exact rfl); exact rfl))
      refine TL_store rfl rfl Sz.h rfl (hb513.ch c14 (by simp only [Iv]; omega)) rfl ?_
      intro w15 c15 hz15 hb515
      repeat' (apply Jbq)
      exact TN_join { dk with fuse := z } (subEnv_cons rfl (subEnv_cons rfl (subEnv_nil _))) ⟨⟨hDk.fused (by omega), hNk⟩, ((c12.then c13).then c14).trans c15 (fun _ _ t => t) (fun j hj t => absurd t.1 (by omega)), (hb413.ch c14 (by simp only [Iv]; omega)).ch c15 (by simp only [Iv]; omega), hb515, hcur14.ch c15 (by intro k _; simp only [Iv]; omega), by omega, (hx13.ch c14 (by intro k _ _; simp only [Iv]; omega)).ch c15 (by intro k _ _; simp only [Iv]; omega)⟩
    · repeat' (apply Jbz)
      exact TN_join dk (subEnv_cons rfl (subEnv_cons rfl (subEnv_nil _))) ⟨⟨hDk, hNk⟩, c12.then c13, hb413, hb513, hcur13, by omega, hx13⟩
  rintro dk w13 ⟨⟨hDk, hNk⟩, c13, hb413, hb513, hcur13, hhi13, hx13⟩
  have hone := hx13.one
  repeat' (first | apply Jbs | apply Jbt | refine Jcg (Pu_loadAgg (cs := dskC dk sn sk st) Us.h rfl Sz.h rfl (fun _ e j u hu => by rw [e, add0, hb513.cell]; exact hu)) rfl ?_)
  refine TL_storeAgg rfl rfl Sz.h hone hb413 rfl ?_
  intro w14 c14 hz14 hb14
  repeat' (first | apply Jbq | apply Jbr | apply Jbu)
  exact TR_of (resA rfl rfl hb14 Us.h rfl Sz.h) ⟨dk, sn, sk, st, rfl, ⟨hDk, hNk⟩, c13.trans c14 (fun _ _ t => t) (fun j hj t => absurd t.1 (by omega)), (hx13.rd.ch c14 (by intro k _ _; simp only [Iv]; omega)).wide (by omega) (by omega) (Nat.le_refl _), hcur13.ch c14 (by intro k _; simp only [Iv]; omega)⟩
set_option maxHeartbeats 2000000 in
theorem MakeDisk_n {w : World} {lo hi : Nat} {v : Value} {s : List UInt8} (hR : RB w lo hi v s) (hl : s.length ≤ 1048576) :
    Ret Tryz.prog 33 #[v] w fun v' w' => ∃ (d : DiskP) (sn sk st : Value), v' = .agg (dskC d sn sk st).toArray ∧ (DOk d ∧ d.next ≤ 22) ∧ Ext w w' ∧ RDk w' w.heap.size w'.heap.size d sn sk st := by
  refine Ret_enter Tryz.func33 rfl rfl rfl ?_
  repeat' (first | apply Jbs | apply Jbt)
  refine TL_alloc Zs.h rfl rfl ?_
  intro w1 g2 e1 hg2 hz1 hb2
  repeat' (first | apply Jbq | apply Jbr | apply Jbs | apply Jbt | (apply Jcg; exact Jaa rfl; exact rfl))
  refine TL_call rfl en99 (l01New_c (hR.ext e1) hl) rfl rfl ?_
  rintro _ w2 ⟨g, rfl, e2, hg, hz2, hcur⟩
  have hs2 := e2.size
  repeat' (first | apply Jbq | apply Jbr | apply Jbs | apply Jbt | (apply Jcg; (first | exact Jaa rfl | exact Jab rfl); exact rfl))
  refine TL_call rfl en100 (l03Draw_n (most := 20) hcur (by omega)) rfl rfl ?_
  rintro _ w3 ⟨d, sn, sk, st, rfl, hD, c3, hr, _⟩
  have hs3 := c3.size
  have hone := hr.one
  replace hb2 := (hb2.ext e2).ch c3 (by simp only [Iv]; omega)
  skip
  refine TL_alloc Zs.h rfl rfl ?_
  intro w4 g4 e4 hg4 hz4 hb4
  skip
  refine TL_storeAgg rfl rfl Sz.h hone hb4 rfl ?_
  intro w5 c5 hz5 hb45
  replace hb2 := (hb2.ext e4).ch c5 (by simp only [Iv]; omega)
  replace hr := (hr.ext e4).ch c5 (by intro k _ _; simp only [Iv]; omega)
  have E3 : Ext w w3 := Ext.then_iv (e1.ext e2) c3 (by omega)
  have E5 : Ext w w5 := Ext.then_iv (E3.ext e4) c5 (by omega)
  repeat' (first | apply Jbq | apply Jbr | apply Jbs | apply Jbt | refine Jcg (Pu_loadAgg (cs := dskC d sn sk st) Us.h rfl Sz.h rfl (fun _ e j u hu => by rw [e, add0, hb45.cell]; exact hu)) rfl ?_)
  refine TL_storeAgg rfl rfl Sz.h hone hb2 rfl ?_
  intro w6 c6 hz6 hb6
  repeat' (first | apply Jbq | apply Jbr | apply Jbu)
  exact TR_of (resA rfl rfl hb6 Us.h rfl Sz.h) ⟨d, sn, sk, st, rfl, hD, Ext.then_iv E5 c6 (by omega), (hr.ch c6 (by intro k _ _; simp only [Iv]; omega)).wide (by omega) (by omega) (Nat.le_refl _)⟩
end Go.Proofs.YtggaghghclomkaaGreat
