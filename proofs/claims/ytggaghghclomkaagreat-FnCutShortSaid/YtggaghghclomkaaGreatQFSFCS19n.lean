/- Texts of this proof laid together, in the order in which they build; what each proves stands ahead of it. No condition but those told there. -/
import Derived.Test.YtggaghghclomkaaGreatQFSFCS19m

/- Contracts: a history is opened, by the program. -/
namespace Go.Proofs.YtggaghghclomkaaGreat
open Go.RowKit
attribute [local irreducible] TL TC TN TX TR TQ TA Pu Ret
set_option maxRecDepth 100000 in
set_option maxHeartbeats 16000000 in
theorem implOpen_c {w : World} {lo hi : Nat} {d : DiskP} {sn sk st : Value} {k z : Int} (h : RDk w lo hi d sn sk st) (hf : d.fits) (hl : totD d ≤ 1048576) :
    Ret Tryz.prog 34 #[.agg (dskC d sn sk st).toArray, I k, I z] w fun v' w' => ∃ sn' sk' st' sl', v' = .tuple #[.agg (stoC (pOpen d k z).1 sn' sk' st' sl').toArray, I (pOpen d k z).2] ∧ Ext w w' ∧ OSt w' w.heap.size w'.heap.size (pOpen d k z).1 sn' sk' st' sl' := by
  have hh := h
  refine Ret_enter Tryz.func34 rfl rfl rfl ?_
  repeat' (first | apply Jbs | apply Jbt)
  refine TL_box (cs := dskC d sn sk st) rfl rfl ?_
  intro w1 g3 e1 hg3 hz1 hb3
  skip
  refine TL_alloc Zs.h rfl rfl ?_
  intro w2 g6 e2 hg6 hz2 hb6
  replace hb3 := hb3.ext e2
  have E2 : Ext w w2 := e1.ext e2
  repeat' (first | apply Jbq | apply Jbr | apply Jbs | apply Jbt | (apply Jcg; exact Jab rfl; exact rfl) | refine Jcg (Pu_loadAgg (cs := dskC d sn sk st) Us.h rfl Sz.h rfl (fun _ e j u hu => by rw [e, add0, hb3.cell]; exact hu)) rfl ?_)
  refine TL_call rfl en65 (implDiskOk_c (hh.ext E2) hf hl) rfl rfl ?_
  rintro _ w3 ⟨rfl, e3⟩
  replace hb3 := hb3.ext e3
  replace hb6 := hb6.ext e3
  have hs3 := e3.size
  have E3 := E2.ext e3
  have hg36 : w.heap.size ≤ g3 ∧ g3 < g6 ∧ g6 < w3.heap.size := by omega
  cases hp : pDOk d with
  | false =>
    rw [pOpen_no (fun h => by rw [pDOk_yes h.1] at hp; cases hp)]
    repeat' (first | apply Jbq | apply Jbr | apply Jbs | apply Jbt | (refine Jce rfl ?_) | (apply Jcg; (first | exact Jaa rfl | exact Jah rfl rfl | exact Jaj rfl); exact rfl) | refine Jci rfl rfl rfl rfl rfl ?_ | refine Jcg (Pu_build (cs := stoC noSt (.slice none 0 0) (.slice none 0 0) (.slice none 0 0) (.slice none 0 0)) rfl (by kernel_rfl)) rfl ?_)
    refine TL_storeAgg rfl rfl Sz.h rfl hb6 rfl ?_
    intro w8 c8 hz8 hb8
    have E8 : Ext w w8 := Ext.then_iv E3 c8 (by omega)
    repeat' (first | apply Jbq | apply Jbr | apply Jbu | apply Jbv | (apply Jcg; exact Jab rfl; exact rfl))
    exact TR_of (resA1 rfl rfl rfl hb8 Us.h rfl Sz.h) ⟨_, _, _, _, rfl, E8, OSt.nil E8.size (Nat.le_refl _)⟩
  | true =>
    have hD := pDOk_of hp
    by_cases hk : 1 ≤ k ∧ k ≤ 100
    case neg =>
      rw [pOpen_no (fun h => hk ⟨h.2.1, h.2.2.1⟩)]
      repeat' (first | (apply Jcg; (first | exact Jaa rfl | exact Jaj rfl); exact rfl) | refine Jch rfl rfl rfl ?_)
      refine TL_call rfl en101 (in_f _ hk) rfl rfl ?_
      rintro _ _ ⟨rfl, rfl⟩
      repeat' (first | apply Jbq | apply Jbr | apply Jbs | apply Jbt | (refine Jce rfl ?_) | (apply Jcg; (first | exact Jaa rfl | exact Jah rfl rfl | exact Jai rfl rfl | exact Jaj rfl); exact rfl) | refine Jch rfl rfl rfl ?_ | refine Jci rfl rfl rfl rfl rfl ?_ | refine Jcg (Pu_build (cs := stoC noSt (.slice none 0 0) (.slice none 0 0) (.slice none 0 0) (.slice none 0 0)) rfl (by kernel_rfl)) rfl ?_)
      refine TL_storeAgg rfl rfl Sz.h rfl hb6 rfl ?_
      intro w8 c8 hz8 hb8
      have E8 : Ext w w8 := Ext.then_iv E3 c8 (by omega)
      repeat' (first | apply Jbq | apply Jbr | apply Jbu | apply Jbv | (apply Jcg; exact Jab rfl; exact rfl))
      exact TR_of (resA1 rfl rfl rfl hb8 Us.h rfl Sz.h) ⟨_, _, _, _, rfl, E8, OSt.nil E8.size (Nat.le_refl _)⟩
    by_cases hz : 0 ≤ z ∧ z ≤ 60000
    case neg =>
      rw [pOpen_no (fun h => hz ⟨h.2.2.2.1, h.2.2.2.2⟩)]
      repeat' (first | (apply Jcg; (first | exact Jaa rfl | exact Jaj rfl); exact rfl) | refine Jch rfl rfl rfl ?_)
      refine TL_call rfl en101 (in_t _ hk) rfl rfl ?_
      rintro _ _ ⟨rfl, rfl⟩
      repeat' (first | (apply Jcg; (first | exact Jaa rfl | exact Jai rfl rfl | exact Jaj rfl); exact rfl) | refine Jch rfl rfl rfl ?_)
      refine TL_call rfl en101 (in_f _ hz) rfl rfl ?_
      rintro _ _ ⟨rfl, rfl⟩
      repeat' (first | apply Jbq | apply Jbr | apply Jbs | apply Jbt | (refine Jce rfl ?_) | (apply Jcg; (first | exact Jai rfl rfl | exact Jaj rfl); exact rfl) | refine Jch rfl rfl rfl ?_ | refine Jcg (Pu_build (cs := stoC noSt (.slice none 0 0) (.slice none 0 0) (.slice none 0 0) (.slice none 0 0)) rfl (by kernel_rfl)) rfl ?_)
      refine TL_storeAgg rfl rfl Sz.h rfl hb6 rfl ?_
      intro w8 c8 hz8 hb8
      have E8 : Ext w w8 := Ext.then_iv E3 c8 (by omega)
      repeat' (first | apply Jbq | apply Jbr | apply Jbu | apply Jbv | (apply Jcg; exact Jab rfl; exact rfl))
      exact TR_of (resA1 rfl rfl rfl hb8 Us.h rfl Sz.h) ⟨_, _, _, _, rfl, E8, OSt.nil E8.size (Nat.le_refl _)⟩
    have hr : rangeK k z := ⟨hk.1, hk.2, hz.1, hz.2⟩
    obtain ⟨xA, hxA⟩ : ∃ x, x = opA d := ⟨_, rfl⟩
    obtain ⟨xB, hxB⟩ : ∃ x, x = opB xA := ⟨_, rfl⟩
    obtain ⟨xC, hxC⟩ : ∃ x, x = opC' xB := ⟨_, rfl⟩
    obtain ⟨xD, hxD⟩ : ∃ x, x = opCutx xC := ⟨_, rfl⟩
    obtain ⟨xE, hxE⟩ : ∃ x, x = stepD xD (oSync histT) := ⟨_, rfl⟩
    obtain ⟨y, hy⟩ : ∃ x, x = stepD xE oDir := ⟨_, rfl⟩
    obtain ⟨b, hb⟩ : ∃ b, b = (pRead xC.1 histT).1 := ⟨_, rfl⟩
    have hP := pOpen_is (k := k) (z := z) (x := xC) (y := y) (b := b) hD hr (by rw [hxC, hxB, hxA]) (by rw [hy, hxE, hxD]; rfl) hb
    repeat' (first | (apply Jcg; (first | exact Jaa rfl | exact Jaj rfl); exact rfl) | refine Jch rfl rfl rfl ?_)
    refine TL_call rfl en101 (in_t _ hk) rfl rfl ?_
    rintro _ _ ⟨rfl, rfl⟩
    repeat' (first | (apply Jcg; (first | exact Jaa rfl | exact Jai rfl rfl | exact Jaj rfl); exact rfl) | refine Jch rfl rfl rfl ?_)
    refine TL_call rfl en101 (in_t _ hz) rfl rfl ?_
    rintro _ _ ⟨rfl, rfl⟩
    repeat' (first | apply Jbq | apply Jbr | apply Jbs | apply Jbt | apply Jbz | (refine Jcf rfl ?_) | (apply Jcg; (first | exact Jai rfl rfl | exact Jaj rfl); exact rfl) | refine Jch rfl rfl rfl ?_ | refine Jcg (Pu_loadAgg (cs := dskC d sn sk st) Us.h rfl Sz.h rfl (fun _ e j u hu => by rw [e, add0, hb3.cell]; exact hu)) rfl ?_)
    refine TL_call rfl en66 (implcopyDisk_c (hh.ext E3) hl) rfl rfl ?_
    rintro _ w4 ⟨sn1, sk1, st1, rfl, e4, hx⟩
    replace hb6 := hb6.ext e4
    have hs4 := e4.size
    have E4 := E3.ext e4
    have hone : (drC d sn1 sk1 st1 0).all (·.oneCell') = true := by
      have := hx.one
      rw [show drC d sn1 sk1 st1 0 = dskC d sn1 sk1 st1 ++ [I 0] from rfl, List.all_append, this]; rfl
    repeat' (refine Jcg (Pu_build (cs := drC d sn1 sk1 st1 0) rfl (by kernel_rfl)) rfl ?_)
    refine TL_alloc Zs.h rfl rfl ?_
    intro w5 g8 e5 hg8 hz5 hb8
    replace hb6 := hb6.ext e5
    replace hx := hx.ext e5
    skip
    refine TL_storeAgg rfl rfl Sz.h hone hb8 rfl ?_
    clear hb8
    intro w6 c6 hz6 hb8
    replace hb6 := hb6.ch c6 (by simp only [Iv]; omega)
    replace hx := hx.ch c6 (by intro k _ _; simp only [Iv]; omega)
    have E6 : Ext w w6 := Ext.then_iv (E4.ext e5) c6 (by have := E4.size; omega)
    have hD6 : DrX w6 g8 (d, 0) sn1 sk1 st1 w3.heap.size w4.heap.size := ⟨hb8, hx, .inl (by omega), hf, hl⟩
    have hst0 : stepD (d, 0) oDir = xA := by rw [hxA]; unfold opA stepD; rw [if_pos rfl]
    clear hx hb8 hb3 hone
    repeat' (first | apply Jbq | apply Jbr | apply Jbs | apply Jbt | refine Jcg (Pu_build (cs := opC oDir (.slice none 0 0)) rfl (by kernel_rfl)) rfl ?_)
    refine TL_call rfl en102 (do_c (o := oDir) hD6 (rbn _) (fits_op _ _ _ _ (by omega) (by omega) (by simp) (by simp))) rfl rfl ?_
    rintro _ w7 ⟨rfl, c7, sn7, sk7, st7, lo7, hi7, hD7, hq7⟩
    rw [hst0] at hD7
    have hs7 := c7.size
    have hl7 : g6 < lo7 := by omega
    replace hb6 := hb6.ch c7 (by simp only [Iv]; omega)
    have E7 : Ext w w7 := Ext.then_iv E6 c7 (by omega)
    have hg8' : g6 < g8 ∧ g8 < w7.heap.size := by omega
    repeat' (first | apply Jbq | apply Jbr)
    refine TC_join (ι := Unit) (fun _ => [(1, I k), (2, I z), (6, .pointer (some ⟨g6, 0, none⟩)), (8, .pointer (some ⟨g8, 0, none⟩))]) (fun _ w' => Ext w w' ∧ w7.heap.size ≤ w'.heap.size ∧ Blk w' g6 66 (stoC noSt (.slice none 0 0) (.slice none 0 0) (.slice none 0 0) (.slice none 0 0)) ∧ (∃ sn sk st lo hi, DrX w' g8 xB sn sk st lo hi ∧ g6 < lo)) ?_ ?_
    · repeat' (first | apply Jbs | apply Jbt | (apply Jcg; (apply Jbl; exact Us.h; exact rfl; exact Sz.h; exact rfl); exact rfl) | refine Jcg (Pu_loadAgg (cs := dskC xA.1 sn7 sk7 st7) Us.h rfl Sz.h rfl (fun _ e j u hu => by rw [e]; exact hD7.ld j u hu)) rfl ?_)
      refine TL_call rfl en37 (implDiskRead_c (s := tempT) hD7.own.rd hD7.fits hD7.tot (by decide)) rfl rfl ?_
      rintro _ w8a ⟨v8, rfl, e8a, ho8⟩
      have hs8a := e8a.size
      have h8D := hD7.ext e8a
      have h8b := hb6.ext e8a
      have h8E := E7.ext e8a
      cases hr8 : (pRead xA.1 tempT).2 with
      | true =>
        repeat' (first | apply Jbq | apply Jbr | apply Jbs | apply Jbt | (refine Jce rfl ?_) | (apply Jcg; (first | exact Jaa rfl | exact Jab rfl | exact Jae rfl rfl); exact rfl) | refine Jcg (Pu_build (cs := opC (oRm tempT) (.slice none 0 0)) rfl (by kernel_rfl)) rfl ?_)
        refine TL_call rfl en102 (do_c (o := oRm tempT) h8D (rbn _) (fits_op _ _ _ _ (by omega) (by omega) (by simp [histT, tempT]) (by simp [histT, tempT]))) rfl rfl ?_
        rintro _ w8b ⟨rfl, c8, sn8, sk8, st8, lo8, hi8, h8D2, hq8⟩
        have hs8b := c8.size
        have hst : stepD xA (oRm tempT) = xB := by rw [hxB]; unfold opB; rw [hr8]; rfl
        rw [hst] at h8D2
        repeat' (apply Jbq)
        exact TN_join () (subEnv_cons rfl (subEnv_cons rfl (subEnv_cons rfl (subEnv_cons rfl (subEnv_nil _))))) ⟨Ext.then_iv h8E c8 (by omega), by omega, h8b.ch c8 (by simp only [Iv]; omega), _, _, _, _, _, h8D2, by omega⟩
      | false =>
        have hst : xB = xA := by rw [hxB]; unfold opB; rw [hr8]; rfl
        repeat' (first | apply Jbq | apply Jbr | apply Jbs | apply Jbt | apply Jbz | (refine Jcf rfl ?_) | (apply Jcg; (first | exact Jaa rfl | exact Jab rfl | exact Jae rfl rfl); exact rfl))
        exact TN_join () (subEnv_cons rfl (subEnv_cons rfl (subEnv_cons rfl (subEnv_cons rfl (subEnv_nil _))))) ⟨h8E, by omega, h8b, _, _, _, _, _, by rw [hst]; exact h8D, by omega⟩
    rintro _ w8 ⟨E8, hs8, hb68, sn8, sk8, st8, lo8, hi8, hD8, hl8⟩
    skip
    refine TC_join (ι := Unit) (fun _ => [(1, I k), (2, I z), (6, .pointer (some ⟨g6, 0, none⟩)), (8, .pointer (some ⟨g8, 0, none⟩))]) (fun _ w' => Ext w w' ∧ w7.heap.size ≤ w'.heap.size ∧ Blk w' g6 66 (stoC noSt (.slice none 0 0) (.slice none 0 0) (.slice none 0 0) (.slice none 0 0)) ∧ (∃ sn sk st lo hi, DrX w' g8 xC sn sk st lo hi ∧ g6 < lo)) ?_ ?_
    · repeat' (first | apply Jbs | apply Jbt | (apply Jcg; (apply Jbl; exact Us.h; exact rfl; exact Sz.h; exact rfl); exact rfl) | refine Jcg (Pu_loadAgg (cs := dskC xB.1 sn8 sk8 st8) Us.h rfl Sz.h rfl (fun _ e j u hu => by rw [e]; exact hD8.ld j u hu)) rfl ?_)
      refine TL_call rfl en37 (implDiskRead_c (s := histT) hD8.own.rd hD8.fits hD8.tot (by decide)) rfl rfl ?_
      rintro _ w9a ⟨v9, rfl, e9a, ho9⟩
      have hs9a := e9a.size
      have h9D := hD8.ext e9a
      have h9b := hb68.ext e9a
      have h9E := E8.ext e9a
      cases hr9 : (pRead xB.1 histT).2 with
      | false =>
        repeat' (first | apply Jbq | apply Jbr | apply Jbs | apply Jbt | (refine Jce rfl ?_) | (apply Jcg; (first | exact Jaa rfl | exact Jab rfl | exact Jae rfl rfl | exact Jaj rfl); exact rfl) | refine Jcg (Pu_build (cs := opC (oMk histT) (.slice none 0 0)) rfl (by kernel_rfl)) rfl ?_)
        refine TL_call rfl en102 (do_c (o := oMk histT) h9D (rbn _) (fits_op _ _ _ _ (by omega) (by omega) (by simp [histT, tempT]) (by simp [histT, tempT]))) rfl rfl ?_
        rintro _ w9b ⟨rfl, c9, sn9, sk9, st9, lo9, hi9, h9D2, hq9⟩
        have hs9b := c9.size
        have hst : stepD xB (oMk histT) = xC := by rw [hxC]; unfold opC'; rw [hr9]; rfl
        rw [hst] at h9D2
        repeat' (apply Jbq)
        exact TN_join () (subEnv_cons rfl (subEnv_cons rfl (subEnv_cons rfl (subEnv_cons rfl (subEnv_nil _))))) ⟨Ext.then_iv h9E c9 (by omega), by omega, h9b.ch c9 (by simp only [Iv]; omega), _, _, _, _, _, h9D2, by omega⟩
      | true =>
        have hst : xC = xB := by rw [hxC]; unfold opC'; rw [hr9]; rfl
        repeat' (first | apply Jbq | apply Jbr | apply Jbs | apply Jbt | apply Jbz | (refine Jcf rfl ?_) | (apply Jcg; (first | exact Jaa rfl | exact Jab rfl | exact Jae rfl rfl | exact Jaj rfl); exact rfl))
        exact TN_join () (subEnv_cons rfl (subEnv_cons rfl (subEnv_cons rfl (subEnv_cons rfl (subEnv_nil _))))) ⟨h9E, by omega, h9b, _, _, _, _, _, by rw [hst]; exact h9D, by omega⟩
    rintro _ w9 ⟨E9, hs9, hb69, sn9, sk9, st9, lo9, hi9, hD9, hl9⟩
    repeat' (first | apply Jbs | apply Jbt | (apply Jcg; (apply Jbl; exact Us.h; exact rfl; exact Sz.h; exact rfl); exact rfl) | refine Jcg (Pu_loadAgg (cs := dskC xC.1 sn9 sk9 st9) Us.h rfl Sz.h rfl (fun _ e j u hu => by rw [e]; exact hD9.ld j u hu)) rfl ?_)
    refine TL_call rfl en37 (implDiskRead_c (s := histT) hD9.own.rd hD9.fits hD9.tot (by decide)) rfl rfl ?_
    rintro _ w10 ⟨v10, rfl, e10, ho10⟩
    have hs10 := e10.size
    have hbl : b.length ≤ 1048576 := by rw [hb]; exact pRead_len _ _ hD9.tot
    rw [← hb] at ho10
    have ho10r := ho10.rd
    obtain ⟨Ab, cb, rfl, hcb, hrb⟩ := ho10r
    repeat' (first | apply Jbq | apply Jbr | apply Jbs | apply Jbt | (apply Jcg; (first | exact Jaa rfl | exact Jab rfl | exact Jae rfl rfl); exact rfl))
    refine TL_call rfl en103 (implScan_k ⟨_, _, rfl, hcb, hrb⟩ hbl) rfl rfl ?_
    rintro _ w11 ⟨vl, rfl, e11, hoe⟩
    have hs11 := e11.size
    have hn := (pScan_is b).2.2
    have e911 := e10.ext e11
    have hD11 := hD9.ext e911
    have hb611 := hb69.ext e911
    have E11 := E9.ext e911
    repeat' (first | apply Jbq | apply Jbr | (apply Jcg; (first | exact Jaa rfl | exact Jab rfl | exact Jae rfl rfl); exact rfl))
    refine TC_join (ι := Unit) (fun _ => [(1, I k), (2, I z), (6, .pointer (some ⟨g6, 0, none⟩)), (8, .pointer (some ⟨g8, 0, none⟩)), (15, vl), (16, I ((pScan b).2 : Int))]) (fun _ w' => Ext w w' ∧ w7.heap.size ≤ w'.heap.size ∧ Blk w' g6 66 (stoC noSt (.slice none 0 0) (.slice none 0 0) (.slice none 0 0) (.slice none 0 0)) ∧ (∃ sn sk st lo hi, DrX w' g8 xD sn sk st lo hi ∧ g6 < lo ∧ (hi ≤ w10.heap.size ∨ w11.heap.size ≤ lo)) ∧ OE w' w10.heap.size w11.heap.size vl (pScan b).1 ∧ w11.heap.size ≤ w'.heap.size) ?_ ?_
    · repeat' (first | apply Jbq | apply Jbr | apply Jbs | apply Jbt | (apply Jcg; (first | exact Jaa rfl | exact Jac Us.h rfl | exact Jad rfl rfl); exact rfl))
      refine Jcx rfl (fun hlt => ?_) (fun hge => ?_)
      · repeat' (first | apply Jbt | (apply Jcg; exact Jaa rfl; exact rfl) | refine Jcg (Pu_build (cs := opC (oCut histT ((pScan b).2 : Int)) (.slice none 0 0)) rfl (by kernel_rfl)) rfl ?_)
        refine TL_call rfl en102 (do_c (o := oCut histT ((pScan b).2 : Int)) hD11 (rbn _) (fits_op _ _ _ _ (by omega) (by omega) (by simp [histT]) (by simp))) rfl rfl ?_
        rintro _ w12 ⟨rfl, c12, sn12, sk12, st12, lo12, hi12, hD12, hq12⟩
        have hs12 := c12.size
        have hst : stepD xC (oCut histT ((pScan b).2 : Int)) = xD := by rw [hxD]; unfold opCutx; rw [← hb, if_pos (by omega)]
        rw [hst] at hD12
        repeat' (apply Jbq)
        exact TN_join () (subEnv_cons rfl (subEnv_cons rfl (subEnv_cons rfl (subEnv_cons rfl (subEnv_cons rfl (subEnv_cons rfl (subEnv_nil _))))))) ⟨Ext.then_iv E11 c12 (by omega), by omega, hb611.ch c12 (by simp only [Iv]; omega), ⟨_, _, _, _, _, hD12, by omega, by have := hD9.own.1; omega⟩, hoe.ch c12 (by intro k _ _; simp only [Iv]; omega), by omega⟩
      · have hst : xD = xC := by rw [hxD]; unfold opCutx; rw [← hb, if_neg (by omega)]
        repeat' (apply Jbz)
        exact TN_join () (subEnv_cons rfl (subEnv_cons rfl (subEnv_cons rfl (subEnv_cons rfl (subEnv_cons rfl (subEnv_cons rfl (subEnv_nil _))))))) ⟨E11, by omega, hb611, ⟨_, _, _, _, _, by rw [hst]; exact hD11, by omega, by have := hD9.own.1; omega⟩, hoe, by omega⟩
    clear hrb ho10 hoe hD11 hb611 E11
    rintro _ w12 ⟨E12, hs12, hb612, ⟨sn12, sk12, st12, lo12, hi12, hD12, hl12, hap12⟩, hoe, hs12'⟩
    repeat' (first | apply Jbs | apply Jbt | refine Jcg (Pu_build (cs := opC (oSync histT) (.slice none 0 0)) rfl (by kernel_rfl)) rfl ?_)
    refine TL_call rfl en102 (do_c (o := oSync histT) hD12 (rbn _) (fits_op _ _ _ _ (by omega) (by omega) (by simp [histT, tempT]) (by simp [histT, tempT]))) rfl rfl ?_
    rintro _ w13 ⟨rfl, c13, sn13, sk13, st13, lo13, hi13, hD13, hq13⟩
    rw [← hxE] at hD13
    have hs13 := c13.size
    repeat' (first | apply Jbq | apply Jbr | apply Jbs | apply Jbt | refine Jcg (Pu_build (cs := opC oDir (.slice none 0 0)) rfl (by kernel_rfl)) rfl ?_)
    refine TL_call rfl en102 (do_c (o := oDir) hD13 (rbn _) (fits_op _ _ _ _ (by omega) (by omega) (by simp [histT, tempT]) (by simp [histT, tempT]))) rfl rfl ?_
    rintro _ w14 ⟨rfl, c14, sn14, sk14, st14, lo14, hi14, hD14, hq14⟩
    rw [← hy] at hD14
    have hs14 := c14.size
    have E14 : Ext w w14 := Ext.then_iv (Ext.then_iv E12 c13 (by omega)) c14 (by omega)
    have hb614 := (hb612.ch c13 (by simp only [Iv]; omega)).ch c14 (by simp only [Iv]; omega)
    have hoe14 := (hoe.ch c13 (by intro k _ _; simp only [Iv]; omega)).ch c14 (by intro k _ _; simp only [Iv]; omega)
    have hb8y := hD14.blk
    have honeD := hD14.own.one
    have hone0 : (stoC ⟨y.1, k, z, [], 0⟩ sn14 sk14 st14 (.slice none 0 0)).all (·.oneCell') = true := by
      rw [show stoC ⟨y.1, k, z, [], 0⟩ sn14 sk14 st14 (.slice none 0 0) = dskC y.1 sn14 sk14 st14 ++ [I k, I z, .slice none 0 0, I 0] from rfl, List.all_append, honeD]; rfl
    have hll : g6 < lo14 := by omega
    repeat' (first | apply Jbq | apply Jbr | apply Jbs | apply Jbt | (apply Jcg; (first | exact Jaa rfl | (apply Jbl; exact Us.h; exact rfl; exact Sz.h; exact rfl)); exact rfl) | refine Jcg (Pu_loadAgg (cs := dskC y.1 sn14 sk14 st14) Us.h rfl Sz.h rfl (fun _ e j u hu => by rw [e]; exact hD14.ld j u hu)) rfl ?_ | refine Jcg (Pu_build (cs := stoC ⟨y.1, k, z, [], 0⟩ sn14 sk14 st14 (.slice none 0 0)) rfl (by kernel_rfl)) rfl ?_)
    refine TL_alloc Zs.h rfl rfl ?_
    intro w15 g17 e15 hg17 hz15 hb17
    skip
    refine TL_storeAgg rfl rfl Sz.h hone0 hb17 rfl ?_
    clear hb17
    intro w16 c16 hz16 hb17
    have e1416 : Ext w14 w16 := Ext.then_iv e15 c16 (by omega)
    have hD16 := hD14.ext e1416
    have hb616 := hb614.ext e1416
    have hoe16 := hoe14.ext e1416
    have E16 := E14.ext e1416
    have hb8x := hD16.blk
    have hvl : vl.oneCell' = true := by obtain ⟨A, c, rfl, _⟩ := hoe16; rfl
    repeat' (first | apply Jbq | apply Jbr)
    refine TC_join (ι := Value) (fun _ => [(6, .pointer (some ⟨g6, 0, none⟩)), (8, .pointer (some ⟨g8, 0, none⟩)), (17, .pointer (some ⟨g17, 0, none⟩))]) (fun sl w' => Ch (Iv g17 (g17 + 1)) w16 w' ∧ Blk w' g17 66 (stoC (pOpen d k z).1 sn14 sk14 st14 sl) ∧ (sl = vl ∧ (pOpen d k z).1.list = (pScan b).1 ∨ sl = .slice none 0 0 ∧ (pOpen d k z).1.list = [])) ?_ ?_
    · repeat' (first | apply Jbq | apply Jbr | apply Jbs | apply Jbt | (apply Jcg; (first | exact Jak rfl rfl | (apply Jbl; exact Us.h; exact rfl; exact Sz.h; exact rfl)); exact rfl) | refine Jcg (Pu_load Fl.h rfl (fun _ e => by rw [e]; exact hb8x.ld rfl)) rfl ?_)
      refine Jcx rfl (fun h0 => ?_) (fun h0 => ?_)
      · repeat' (first | apply Jbt | (apply Jcg; (first | exact Jaa rfl | (apply Jbl; exact Us.h; exact rfl; exact Sz.h; exact rfl)); exact rfl))
        refine TL_store rfl rfl Sz.h hvl hb17 rfl ?_
        intro w17 c17 hz17 hb177
        repeat' ((apply Jcg; (apply Jbl; exact Us.h; exact rfl; exact Sz.h; exact rfl); exact rfl))
        refine TL_store rfl rfl Sz.h rfl hb177 rfl ?_
        intro w18 c18 hz18 hb178
        repeat' (apply Jbq)
        refine TN_join vl (subEnv_cons rfl (subEnv_cons rfl (subEnv_cons rfl (subEnv_nil _)))) ⟨c17.then c18, ?_, .inl ⟨rfl, by rw [hP]; simp only [if_pos h0]⟩⟩
        rw [hP]
        simp only [if_pos h0]
        exact hb178
      · repeat' (apply Jbz)
        refine TN_join (.slice none 0 0) (subEnv_cons rfl (subEnv_cons rfl (subEnv_cons rfl (subEnv_nil _)))) ⟨Ch.refl _ _, ?_, .inr ⟨rfl, by rw [hP]; simp only [if_neg h0]⟩⟩
        rw [hP]
        simp only [if_neg h0]
        exact hb17
    rintro sl w17 ⟨c17, hb177, hsl⟩
    have hs17 := c17.size
    have hlt17 := hb177.lt
    have hd8 := hD16.own.ch c17 (by intro k _ _; simp only [Iv]; have := hD14.own.1; omega)
    have hb617 := hb616.ch c17 (by simp only [Iv]; omega)
    have hoe17 := hoe16.ch c17 (by intro k _ _; simp only [Iv]; omega)
    have hb817 := hb8x.ch c17 (by simp only [Iv]; omega)
    have E17 : Ext w w17 := Ext.then_iv E16 c17 (by have := E14.size; omega)
    have hdk : (pOpen d k z).1.disk = y.1 := by rw [hP]
    have hcd : (pOpen d k z).2 = y.2 := by rw [hP]
    obtain ⟨S, hS⟩ : ∃ S, S = (pOpen d k z).1 := ⟨_, rfl⟩
    rw [← hS] at hb177 hsl hdk ⊢
    rw [hcd]
    rw [← hdk] at hd8
    have hO : ∀ w', Ch (Iv g6 (g6 + 1)) w17 w' → OSt w' w.heap.size w'.heap.size S sn14 sk14 st14 sl := fun w' c => by
      have hcs := c.size
      have hd1 := hD14.own.1
      have h1 := hd8.ch c (by intro k _ _; simp only [Iv]; omega)
      rcases hsl with ⟨rfl, hsl⟩ | ⟨rfl, hsl⟩
      · refine ⟨lo14, hi14, w10.heap.size, w11.heap.size, h1, by rw [hsl]; exact hoe17.ch c (by intro k _ _; simp only [Iv]; omega), by omega, by omega, by omega, by omega, by omega, Nat.le_refl _⟩
      · have hEs := E17.size
        refine ⟨lo14, hi14, w.heap.size, w.heap.size, h1, by rw [hsl]; exact ⟨none, 0, rfl, Own.nil _ _ _ _ _ (by omega)⟩, .inr (by omega), by omega, Nat.le_refl _, by omega, by omega, Nat.le_refl _⟩
    have honeS : (stoC S sn14 sk14 st14 sl).all (·.oneCell') = true := (hO w17 (Ch.refl _ _)).one
    repeat' (apply Jbs)
    refine TC_anyS (fun w' => Ch (Iv g6 (g6 + 1)) w17 w') mixed rfl (Ch.refl _ _).drew ?_
    intro w18 e18 hz18 hE
    (refine Jco 0 rfl (by kernel_rfl) (by kernel_rfl) (by kernel_rfl) (fun _ _ _ h => h) hE (by exact Pu_loadAgg (cs := stoC S sn14 sk14 st14 sl) Us.h rfl Sz.h rfl (fun _ e j u hu => Ch.cell e (by rw [add0, hb177.cell]; exact hu) (by rw [block_of_add]; simp only [Iv]; omega))) rfl ?_; refine Jco 1 rfl (by kernel_rfl) (by kernel_rfl) (by kernel_rfl) (fun _ _ _ h => h) hE (by (apply Jbl; exact Us.h; exact rfl; exact Sz.h; exact rfl)) rfl ?_; refine Jco 2 rfl (by kernel_rfl) (by kernel_rfl) (by kernel_rfl) (fun _ _ _ h => h) hE (by exact Pu_load Fl.h rfl (fun _ e => Ch.cell e (hb817.ld rfl) (by rw [block_of_add]; simp only [Iv]; omega))) rfl ?_)
    refine TA_one 3 (by kernel_rfl) rfl ?_
    have hb618 := hb617.ext e18
    refine TL_storeAgg rfl rfl Sz.h honeS hb618 rfl ?_
    intro w19 c19 hz19 hb19
    replace hE := hE.then c19
    refine Jbq (TN_any hE ?_)
    (refine Jco 4 rfl (by kernel_rfl) (by kernel_rfl) (by kernel_rfl) (fun _ _ _ h => h) hE (by exact Jab rfl) rfl ?_)
    refine TA_done (by kernel_rfl) ?_
    repeat' (first | apply Jbr | apply Jbu)
    exact TR_of (resA1 rfl rfl rfl hb19 Us.h rfl Sz.h) ⟨sn14, sk14, st14, sl, rfl, Ext.then_iv (E17.ext e18) c19 (by omega), hO w19 ((Ch.mono e18 (fun _ t => t.elim)).then c19)⟩
end Go.Proofs.YtggaghghclomkaaGreat

/- What the laws of stores need: entries held against each other, a store with another fuse. No condition. -/
namespace Go.Proofs.YtggaghghclomkaaGreat
open Go.RowKit
section
variable {C : World → Prop} {n : Nat} {l : Env} {dd : Option Nat} {ty : TypeId} {pos : String} {af : Array Edge} {x y : Operand} {t' : TypeId}
theorem Pu_eqlE {e : Ent} (hx : ev l x = some (.agg (entC e).toArray)) (hy : ev l y = some (.agg (entC e).toArray)) : Pu Tryz.prog C n l ⟨dd, .binOp .eql 82 x y t', ty, pos, af, none⟩ (.bool true) := by
  unfold Pu
  intro s hs w _
  have g : (eqGuard .eql 82 x y (.agg (entC e).toArray) (.agg (entC e).toArray)).run Tryz.prog w = .ok () w := by
    have h0 : Tryz.prog.eqGuardType Tryz.prog.depth 82 = false := by kernel_rfl
    simp [eqGuard, h0]
  have b : (binOp .eql 82 (.agg (entC e).toArray) (.agg (entC e).toArray)).run Tryz.prog w = .ok (.bool true) w := by
    show (do pure (.bool (← Op.equal 82 (.agg (entC e).toArray) (.agg (entC e).toArray))) : Sem Value).run Tryz.prog w = _
    rw [Sem.run_bind, run_eqE]; rfl
  simp only [execOp, hs.eval hx, hs.eval hy, Sem.run_bind, Sem.run_pure, Result.andThen_ok, g, b]
variable {P : Program} {k : IntKind} {a b : Int} {t : TypeId}
theorem Pu_eqlY (hx : ev l x = some (.int k a)) (hy : ev l y = some (.int k b)) (h : a = b) : Pu P C n l ⟨dd, .binOp .eql t x y t', ty, pos, af, none⟩ (.bool true) := by
  have := Jak (P := P) (C := C) (n := n) (dd := dd) (ty := ty) (pos := pos) (af := af) (t := t) (t' := t') hx hy
  rwa [decide_eq_true h] at this
theorem Pu_neqY (hx : ev l x = some (.int k a)) (hy : ev l y = some (.int k b)) (h : a ≠ b) : Pu P C n l ⟨dd, .binOp .neq t x y t', ty, pos, af, none⟩ (.bool true) := by
  have := Jal (P := P) (C := C) (n := n) (dd := dd) (ty := ty) (pos := pos) (af := af) (t := t) (t' := t') hx hy
  rwa [decide_eq_false h] at this
end
theorem RE.eq {w : World} {lo hi : Nat} {v : Value} {l l' : List Ent} (h : RE w lo hi v l) (e : l = l') : RE w lo hi v l' := e ▸ h
theorem RE_take {w : World} {lo hi c k : Nat} {A : Option Addr} {b : List Ent} (h : Rd w lo hi 2 A b.length (ents b)) (hk : k ≤ b.length) (hc : b.length ≤ c) : RE w lo hi (.slice (cutA A c 0 2) k c) (b.take k) := by
  have h2 := h.cut (a := 0) (b := k) (c := c) (by omega) hk hc
  simp only [Nat.sub_zero, Nat.zero_mul, List.drop_zero] at h2
  have hl : (b.take k).length = k := by rw [List.length_take, Nat.min_eq_left hk]
  refine ⟨_, c, by rw [hl], by omega, ?_⟩
  rw [hl, show ents (b.take k) = (ents b).take (k * 2) from (cellsL_take entC_len b k).symm]
  exact h2
/-- A live store with another fuse. -/
theorem Live.fused {s : StoreP} (h : Live s) {f : Int} (hf : -1 ≤ f ∧ f ≤ 1000) : SOk { s with disk := withFuse s.disk f } := by
  obtain ⟨p, H, h1, h2⟩ := h.hist
  have hl := h.ok.list
  have hd' : DOk (withFuse s.disk f) := h.ok.disk.withF hf
  have H' : Has (withFuse s.disk f) histT p := H
  have hb := h.ok.disk.bodyLe H.mem
  have hlog : pLog s.list = (s.list.flatMap frame, true) := by unfold pLog; rw [if_pos ⟨hl, by rw [← h1]; omega⟩]
  refine ⟨hd', h.ok.range, hl, .inr ⟨?_, ?_, ?_, ?_, ?_⟩⟩
  · simp only; rw [H'.read hd']
  · simp only; rw [hlog]
  · simp only; rw [H'.read hd', hlog]; exact h1
  · simp only; rw [hlog]; exact h.len
  · simp only; rw [read_none (d := withFuse s.disk f) h.temp]
theorem Live.fusedFits {s : StoreP} (h : Live s) {f : Int} (hf : -1 ≤ f ∧ f ≤ 1000) : StoreP.fits { s with disk := withFuse s.disk f } := ⟨(h.ok.disk.withF hf).fitsD, h.fitsS.2⟩
theorem Live.fusedTot {s : StoreP} (h : Live s) (f : Int) : totS { s with disk := withFuse s.disk f } ≤ 1048576 := h.tot
/-- Opening what a loss of power has left. -/
theorem open_crash {d : DiskP} {k z : Int} {tn : Int} {cuts : List Int} (hd : DOk (crashD d tn cuts)) (hh : dHas (pDir (crashD d tn cuts)) histT = true) (hr : rangeK k z) :
    (pOpen (crashD d tn cuts) k z).2 = 0 ∧ Live (pOpen (crashD d tn cuts) k z).1 ∧ (pOpen (crashD d tn cuts) k z).1.list = (pScan (pRead (crashD d tn cuts) histT).1).1 := by
  rcases open_law hd rfl hr with ⟨h1, h2, _, _, h3, _⟩ | ⟨_, _, h3, _⟩
  · exact ⟨h1, h2, h3⟩
  · rw [hh] at h3; cases h3
attribute [local irreducible] TL TC TN TX TR TQ TA Pu Ret
set_option maxHeartbeats 1000000 in
theorem sameEntries_l {w : World} {lo hi lo2 hi2 : Nat} {v v2 : Value} {t t2 : List Ent} (h : RE w lo hi v t) (h2 : RE w lo2 hi2 v2 t2) (hl : t.length ≠ t2.length) :
    Ret Tryz.prog 38 #[v, v2] w fun v' w' => v' = .bool false ∧ Ext w w' := by
  obtain ⟨A, c, rfl, _, hr⟩ := h
  obtain ⟨A2, c2, rfl, _, hr2⟩ := h2
  refine Ret_enter Tryz.func38 rfl rfl rfl ?_
  repeat' (first | apply Jbq | apply Jbr | apply Jbs | apply Jbt | (apply Jcg; (first | exact Jaa rfl | exact Jab rfl | exact Jac Us.h rfl | exact Jal rfl rfl); exact rfl))
  refine Jcy rfl (fun hb => ?_) (fun hb => absurd (by omega) hl)
  repeat' (first | apply Jbq | apply Jbr | apply Jbs | apply Jbt | apply Jbu | apply Jbv | (apply Jcg; exact Jab rfl; exact rfl))
  exact TR_of (res1 rfl rfl) ⟨rfl, Ch.refl _ _⟩
end Go.Proofs.YtggaghghclomkaaGreat
