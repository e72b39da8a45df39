/- Texts of this proof laid together, in the order in which they build; what each proves stands ahead of it. No condition but those told there. -/
import Derived.Test.YtggaghghclomkaaGreatQFT8j

/- Contracts: an operation on a disk is carried out, by the program. -/
namespace Go.Proofs.YtggaghghclomkaaGreat
open Go.RowKit
attribute [local irreducible] TL TC TN TX TR TQ TA Pu Ret
set_option maxRecDepth 100000 in
set_option maxHeartbeats 16000000 in
theorem implDiskDo_c {w : World} {lo hi lo2 hi2 : Nat} {d : DiskP} {sn sk st vo : Value} {o : OpD} (h : RDk w lo hi d sn sk st) (hf : d.fits) (hl : totD d ≤ 1048576) (ho : RB w lo2 hi2 vo o.data) (hof : o.fits) :
    Ret Tryz.prog 24 #[.agg (dskC d sn sk st).toArray, .agg (opC o vo).toArray] w fun v' w' => ∃ sn' sk' st', v' = .tuple #[.agg (dskC (pDo d o).1 sn' sk' st').toArray, I (pDo d o).2] ∧ Ext w w' ∧ ODk w' w.heap.size w'.heap.size (pDo d o).1 sn' sk' st' := by
  have hh := h
  obtain ⟨ft1, ft2⟩ := fits_tk hf
  have ho0 := ho
  obtain ⟨kind, name, to, size, data⟩ := o
  obtain ⟨Ad, cd, rfl, hcd, hrd⟩ := ho
  simp only at hcd hrd ho0
  refine Ret_enter Tryz.func24 rfl rfl rfl ?_
  repeat' (first | apply Jbs | apply Jbt)
  refine TL_box (cs := dskC d sn sk st) rfl rfl ?_
  intro w1 g2 e1 hg2 hz1 hb2
  skip
  refine TL_box (cs := opC ⟨kind, name, to, size, data⟩ (.slice Ad data.length cd)) rfl rfl ?_
  intro w2 g3 e2 hg3 hz2 hb3
  replace hb2 := hb2.ext e2
  skip
  refine TL_alloc Zs.h rfl rfl ?_
  intro w3 g4 e3 hg4 hz3 hb4
  replace hb2 := hb2.ext e3
  replace hb3 := hb3.ext e3
  have E3 : Ext w w3 := (e1.ext e2).ext e3
  repeat' (first | apply Jbq | apply Jbr | apply Jbs | apply Jbt | (apply Jcg; exact Jab rfl; exact rfl) | refine Jcg (Pu_loadAgg (cs := dskC d sn sk st) Us.h rfl Sz.h rfl (fun _ e j u hu => by rw [e, add0, hb2.cell]; exact hu)) rfl ?_)
  refine TL_call rfl en65 (implDiskOk_c (hh.ext E3) hf hl) rfl rfl ?_
  rintro _ w4 ⟨rfl, e4⟩
  replace hb2 := hb2.ext e4
  replace hb3 := hb3.ext e4
  replace hb4 := hb4.ext e4
  have hs4 := e4.size
  have E4 := E3.ext e4
  cases hp : pDOk d with
  | false =>
    rw [pDo_no (fun h => by rw [pDOk_yes h.1] at hp; cases hp)]
    repeat' (first | apply Jbq | apply Jbr | apply Jbs | apply Jbt | (refine Jce rfl ?_) | (apply Jcg; (first | exact Jaa rfl | exact Jah rfl rfl | exact Jaj rfl); exact rfl) | refine Jci rfl rfl rfl rfl rfl ?_ | refine Jcg (Pu_build (cs := dskC noDk (.slice none 0 0) (.slice none 0 0) (.slice none 0 0)) rfl (by kernel_rfl)) rfl ?_)
    refine TL_storeAgg rfl rfl Sz.h rfl hb4 rfl ?_
    intro w8 c8 hz8 hb8
    have E8 : Ext w w8 := Ext.then_iv E4 c8 (by omega)
    repeat' (first | apply Jbq | apply Jbr | apply Jbu | apply Jbv | (apply Jcg; exact Jab rfl; exact rfl))
    exact TR_of (resA1 rfl rfl rfl hb8 Us.h rfl Sz.h) ⟨_, _, _, rfl, E8, ODk.nil (Nat.le_refl _)⟩
  | true =>
    have hD := pDOk_of hp
    repeat' (first | (apply Jcg; (first | exact Jaa rfl | exact Jaj rfl); exact rfl) | refine Jch rfl rfl rfl ?_ | refine Jcg (Pu_loadAgg (cs := opC ⟨kind, name, to, size, data⟩ (.slice Ad data.length cd)) Us.h rfl Sz.h rfl (fun _ e j u hu => by rw [e, add0, hb3.cell]; exact hu)) rfl ?_)
    refine TL_call rfl en92 (implOpOk_c (o := ⟨kind, name, to, size, data⟩) (ho0.ext E4) hof) rfl rfl ?_
    rintro _ w5 ⟨rfl, e5⟩
    replace hb2 := hb2.ext e5
    replace hb3 := hb3.ext e5
    replace hb4 := hb4.ext e5
    have hs5 := e5.size
    have E5 := E4.ext e5
    cases hq : pOp ⟨kind, name, to, size, data⟩ with
    | false =>
      rw [pDo_no (fun h => by rw [h.2] at hq; cases hq)]
      repeat' (first | apply Jbq | apply Jbr | apply Jbs | apply Jbt | (refine Jce rfl ?_) | (apply Jcg; (first | exact Jai rfl rfl | exact Jaj rfl); exact rfl) | refine Jch rfl rfl rfl ?_ | refine Jcg (Pu_build (cs := dskC noDk (.slice none 0 0) (.slice none 0 0) (.slice none 0 0)) rfl (by kernel_rfl)) rfl ?_)
      refine TL_storeAgg rfl rfl Sz.h rfl hb4 rfl ?_
      intro w8 c8 hz8 hb8
      have E8 : Ext w w8 := Ext.then_iv E5 c8 (by omega)
      repeat' (first | apply Jbq | apply Jbr | apply Jbu | apply Jbv | (apply Jcg; exact Jab rfl; exact rfl))
      exact TR_of (resA1 rfl rfl rfl hb8 Us.h rfl Sz.h) ⟨_, _, _, rfl, E8, ODk.nil (Nat.le_refl _)⟩
    | true =>
      have hB := hD.base
      unfold dBase at hB
      obtain ⟨p1, p2, p3, p4, p5, p6, p7, p8, p9⟩ := pOp_parts hq
      simp only at p1 p2 p3 p4 p5 p6 p7 p8 p9
      have hs : name.length ≤ 9223372036854775807 := by
        by_cases h7 : kind = 7
        · rw [p2 h7]; simp
        · have := pName_len (p3 h7); omega
      repeat' (first | apply Jbq | apply Jbr | apply Jbs | apply Jbt | apply Jbz | (refine Jcf rfl ?_) | (apply Jcg; (first | exact Jai rfl rfl | exact Jaj rfl); exact rfl) | refine Jch rfl rfl rfl ?_ | refine Jcg (Pu_loadAgg (cs := dskC d sn sk st) Us.h rfl Sz.h rfl (fun _ e j u hu => by rw [e, add0, hb2.cell]; exact hu)) rfl ?_)
      refine TL_call rfl en66 (implcopyDisk_c (hh.ext E5) hl) rfl rfl ?_
      rintro _ w6 ⟨sn1, sk1, st1, rfl, e6, hx⟩
      replace hb2 := hb2.ext e6
      replace hb3 := hb3.ext e6
      replace hb4 := hb4.ext e6
      have hs6 := e6.size
      have E6 := E5.ext e6
      have hone := hx.one
      skip
      refine TL_alloc Zs.h rfl rfl ?_
      intro w6a g6 e6a hg6 hz6a hb6
      skip
      refine TL_storeAgg rfl rfl Sz.h hone hb6 rfl ?_
      clear hb6
      intro w6b c6b hz6b hb6
      replace hb2 := (hb2.ext e6a).ch c6b (by simp only [Iv]; omega)
      replace hb3 := (hb3.ext e6a).ch c6b (by simp only [Iv]; omega)
      replace hb4 := (hb4.ext e6a).ch c6b (by simp only [Iv]; omega)
      replace hx := (hx.ext e6a).ch c6b (by intro k _ _; simp only [Iv]; omega)
      replace E6 : Ext w w6b := Ext.then_iv (E6.ext e6a) c6b (by have := E5.size; omega)
      repeat' (first | apply Jbq | apply Jbr | apply Jbs | apply Jbt | refine Jcg (Pu_loadAgg (cs := dskC d sn sk st) Us.h rfl Sz.h rfl (fun _ e j u hu => by rw [e, add0, hb2.cell]; exact hu)) rfl ?_ | refine Jcg (Pu_loadAgg (cs := opC ⟨kind, name, to, size, data⟩ (.slice Ad data.length cd)) Us.h rfl Sz.h rfl (fun _ e j u hu => by rw [e, add0, hb3.cell]; exact hu)) rfl ?_)
      refine TL_call rfl en93 (opCode_c (hh.ext E6) hf hl hD hq) rfl rfl ?_
      rintro _ w7 ⟨rfl, e7⟩
      replace hb2 := hb2.ext e7
      replace hb3 := hb3.ext e7
      replace hb4 := hb4.ext e7
      replace hb6 := hb6.ext e7
      replace hx := hx.ext e7
      have hs7 := e7.size
      have E7 := E6.ext e7
      by_cases hc : pCode d ⟨kind, name, to, size, data⟩ = 0
      case neg =>
        rw [pDo_code hD hq hc]
        repeat' (first | apply Jbq | apply Jbr | apply Jbs | apply Jbt | (apply Jcg; (first | exact Jaa rfl | exact Jab rfl | exact Jal rfl rfl); exact rfl))
        refine Jcy rfl (fun _ => ?_) (fun hb => absurd hb hc)
        repeat' (first | apply Jbs | apply Jbt | (apply Jcg; exact Jaa rfl; exact rfl) | refine Jcg (Pu_loadAgg (cs := dskC d sn1 sk1 st1) Us.h rfl Sz.h rfl (fun _ e j u hu => by rw [e, add0, hb6.cell]; exact hu)) rfl ?_)
        refine TL_storeAgg rfl rfl Sz.h hone hb4 rfl ?_
        intro w8 c8 hz8 hb8
        repeat' (first | apply Jbq | apply Jbr | apply Jbu | apply Jbv | (apply Jcg; exact Jab rfl; exact rfl))
        exact TR_of (resA1 rfl rfl rfl hb8 Us.h rfl Sz.h) ⟨sn1, sk1, st1, rfl, Ext.then_iv E7 c8 (by omega), (hx.ch c8 (by intro k _ _; simp only [Iv]; omega)).wide (by omega) (by omega) (Nat.le_refl _)⟩
      rw [pDo_yes hD hq hc, hc]
      obtain ⟨es, hmap, hN, hK, hT, q1, q2, q3⟩ := hx.parts
      clear hx
      obtain ⟨hfu, hch, hc1, hct, hc4, hc5⟩ := pCode_has hc
      simp only at hch hc1 hct hc4 hc5
      repeat' (first | apply Jbq | apply Jbr | (apply Jcg; exact Jab rfl; exact rfl))
      apply Jbs
      repeat' (first | apply Jbq | apply Jbr | apply Jbt | apply Jbz | (refine Jcf rfl ?_) | (apply Jcg; (first | exact Jaa rfl | exact Jal rfl rfl); exact rfl))
      refine TC_join (ι := Unit) (fun _ => [(2, .pointer (some ⟨g2, 0, none⟩)), (3, .pointer (some ⟨g3, 0, none⟩)), (4, .pointer (some ⟨g4, 0, none⟩)), (6, .pointer (some ⟨g6, 0, none⟩))]) (fun _ w' => Ch (Iv g6 (g6 + 1)) w7 w' ∧ w'.heap.size = w7.heap.size ∧ Blk w' g6 33 [I d.room, I (fuseOf d), I d.next, sn1, sk1, st1]) ?_ ?_
      · repeat' (first | apply Jbq | apply Jbr | apply Jbs | apply Jbt | (apply Jcg; (first | exact Jam rfl rfl | (apply Jbl; exact Us.h; exact rfl; exact Sz.h; exact rfl)); exact rfl) | refine Jcg (Pu_load Fl.h rfl (fun _ e => by rw [e]; exact hb6.ld rfl)) rfl ?_)
        refine Jcx rfl (fun hfp => ?_) (fun hfp => ?_)
        · repeat' (first | apply Jbt | (apply Jcg; (first | exact Jap rfl rfl (by omega) | (apply Jbl; exact Us.h; exact rfl; exact Sz.h; exact rfl)); exact rfl) | refine Jcg (Pu_load Fl.h rfl (fun _ e => by rw [e]; exact hb6.ld rfl)) rfl ?_)
          refine TL_store rfl rfl Sz.h rfl hb6 rfl ?_
          intro w8 c8 hz8 hb8
          repeat' (apply Jbq)
          refine TN_join () (subEnv_cons rfl (subEnv_cons rfl (subEnv_cons rfl (subEnv_cons rfl (subEnv_nil _))))) ⟨c8, hz8, ?_⟩
          rw [show fuseOf d = d.fuse - 1 from if_pos hfp]
          exact hb8
        · repeat' (apply Jbz)
          refine TN_join () (subEnv_cons rfl (subEnv_cons rfl (subEnv_cons rfl (subEnv_cons rfl (subEnv_nil _))))) ⟨Ch.refl _ _, rfl, ?_⟩
          rw [show fuseOf d = d.fuse from if_neg hfp]
          exact hb6
      rintro _ w8 ⟨c8, hz8, hb68⟩
      clear hb6
      replace hb2 := hb2.ch c8 (by simp only [Iv]; omega)
      replace hb3 := hb3.ch c8 (by simp only [Iv]; omega)
      replace hb4 := hb4.ch c8 (by simp only [Iv]; omega)
      replace hN := hN.ch c8 (fun b hb => by have := q1 b hb; simp only [Iv]; omega)
      replace hK := hK.ch c8 (fun b hb => by have := q2 b hb; simp only [Iv]; omega)
      replace hT := hT.ch c8 (fun b hb => by have := q3 b hb; simp only [Iv]; omega)
      have E8 : Ext w w8 := Ext.then_iv E7 c8 (by have := E5.size; omega)
      repeat' (first | apply Jbs | apply Jbt | (apply Jcg; (apply Jbl; exact Us.h; exact rfl; exact Sz.h; exact rfl); exact rfl) | refine Jcg (Pu_load Fl.h rfl (fun _ e => by rw [e]; exact hb2.ld rfl)) rfl ?_)
      refine TL_call rfl en67 (dirOf_c (hh.2.1.ext E8) (hh.2.2.ext E8) (kept_asc ((dok_iff d).1 hD).link) (by omega) (by omega) ft1 ft2) rfl rfl ?_
      rintro _ w9 ⟨e9, hdq⟩
      rcases hdq with ⟨_, b, kb, rfl, hbw, _, hM⟩ | ⟨hA, _⟩
      case inr => exact absurd ((dok_iff d).1 hD).turn hA
      rw [show runT d.kept d.turns = pDir d from rfl] at hM
      replace hb2 := hb2.ext e9
      replace hb3 := hb3.ext e9
      replace hb4 := hb4.ext e9
      replace hb6 := hb68.ext e9
      clear hb68
      replace hN := hN.ext e9
      replace hK := hK.ext e9
      replace hT := hT.ext e9
      have hs9 := e9.size
      have E9 := E8.ext e9
      repeat' (first | apply Jbq | apply Jbr | apply Jbs | apply Jbt | (apply Jcg; (first | exact Jaa rfl | exact Jab rfl | exact Jae rfl rfl | (apply Jbl; exact Us.h; exact rfl; exact Sz.h; exact rfl)); exact rfl) | refine Jcg (Pu_loadAgg (cs := dskC d sn sk st) Us.h rfl Sz.h rfl (fun _ e j u hu => by rw [e, add0, hb2.cell]; exact hu)) rfl ?_ | refine Jcg (Pu_load Fl.h rfl (fun _ e => by rw [e]; exact hb3.ld rfl)) rfl ?_ | refine Jcg (Pu_dirLook1 rfl rfl hs (fun w' e => ⟨kb, by rw [e]; exact hM⟩)) rfl ?_)
      have hln : d.nodes.length ≤ 1048576 := by omega
      refine TL_call rfl en94 (implnodeAt_c (hh.ext E9) hln) rfl rfl ?_
      rintro _ w10 ⟨rfl, e10⟩
      replace hb2 := hb2.ext e10
      replace hb3 := hb3.ext e10
      replace hb4 := hb4.ext e10
      replace hb6 := hb6.ext e10
      replace hN := hN.ext e10
      replace hK := hK.ext e10
      replace hT := hT.ext e10
      replace hM := hM.ext e10
      have hs10 := e10.size
      have E10 := E9.ext e10
      have hw5 : w.heap.size ≤ g2 ∧ g2 < g3 ∧ g3 < g4 ∧ g4 < w5.heap.size ∧ w5.heap.size ≤ w6.heap.size ∧ w6.heap.size = g6 ∧ g6 < w7.heap.size ∧ w7.heap.size ≤ w8.heap.size ∧ w8.heap.size ≤ w9.heap.size ∧ w9.heap.size ≤ w10.heap.size := by
        have := E3.size
        omega
      -- kinds
      by_cases hk17 : kind = 1 ∨ kind = 7
      · have hhas : dHas (pDir d) name = false := by
          rcases hk17 with rfl | rfl
          · simpa using hch (by decide)
          · rw [p2 rfl]; exact hD.noName
        have hat : nAt d.nodes (dFind (pDir d) name) = -1 := by rw [dFind_none hhas]; exact hD.at0
        rw [hat]
        repeat' (first | apply Jbq | apply Jbr | (apply Jcg; exact Jab rfl; exact rfl))
        apply Jbs
        repeat' (first | apply Jbq | apply Jbr | apply Jbt | apply Jbz | (refine Jcf rfl ?_) | (apply Jcg; (first | exact Jaa rfl | exact Jao rfl rfl); exact rfl))
        refine TC_join (ι := Unit) (fun _ => [(4, .pointer (some ⟨g4, 0, none⟩)), (6, .pointer (some ⟨g6, 0, none⟩))]) (fun _ w' => Ext w w' ∧ w10.heap.size ≤ w'.heap.size ∧ Blk w' g4 33 (dskC noDk (.slice none 0 0) (.slice none 0 0) (.slice none 0 0)) ∧ doC d ⟨kind, name, to, size, data⟩ = 0 ∧ ∃ sn' sk' st', Blk w' g6 33 (dskC (doD d ⟨kind, name, to, size, data⟩) sn' sk' st') ∧ ODk w' w5.heap.size w'.heap.size (doD d ⟨kind, name, to, size, data⟩) sn' sk' st') ?_ ?_
        · rcases hk17 with rfl | rfl
          · obtain ⟨hc11, hc12⟩ := hc1 rfl
            have hct' := hct (.inl rfl)
            have hto := p5 (by decide)
            repeat' (first | apply Jbq | apply Jbr | apply Jbs | apply Jbt | apply Jby | (refine Jce rfl ?_) | (apply Jcg; (first | exact Jab rfl | exact Jak rfl rfl | (apply Jbl; exact Us.h; exact rfl; exact Sz.h; exact rfl)); exact rfl) | refine Jcg (Pu_load Fl.h rfl (fun _ e => by rw [e]; exact hb6.ld rfl)) rfl ?_ | refine Jcg (Pu_load Fl.h rfl (fun _ e => by rw [e]; exact hb3.ld rfl)) rfl ?_ | refine Jcg (Pu_build (cs := TnC ⟨1, name, [], d.next⟩) rfl (by kernel_rfl)) rfl ?_)
            refine TL_buildSlice Us.h Zi.h rfl rfl rfl rfl (fillT ⟨1, name, [], d.next⟩) rfl rfl ?_
            intro w11 g11 e11 hg11 hz11 hown11
            skip
            refine TL_appendOx Us.h Inf.h rfl rfl rfl TnC_one rfl rfl (hT.ext e11) (RowO.new (l := [(⟨1, name, [], d.next⟩ : TnD)]) rfl hown11 hg11 hz11).rd (by simp only [List.length_cons, List.length_nil]; omega) rfl ?_
            intro w12 st2 c12 loc12 hT12
            have hs11 := e11.size
            have hs12 := c12.size
            have hst2 : ∀ b ∈ blk st2, (w5.heap.size ≤ b ∧ b < w6.heap.size ∧ b ∈ blk st1) ∨ (w11.heap.size ≤ b ∧ b < w12.heap.size) := fun b hb => by
              rcases loc12 with h | ⟨h, h2⟩
              · rw [h] at hb; have := q3 b hb; exact .inl ⟨this.1, this.2, hb⟩
              · rw [h] at hb; rw [List.mem_singleton.1 hb]; exact .inr ⟨Nat.le_refl _, h2⟩
            have hN12 := (hN.ext e11).ch c12 (fun b hb => (q1 b hb).2.2.2)
            have hK12 := (hK.ext e11).ch c12 (fun b hb => (q2 b hb).2.2)
            have hb612 := (hb6.ext e11).ch c12 (fun hb => by have := q3 g6 hb; omega)
            have hb412 := (hb4.ext e11).ch c12 (fun hb => by have := q3 g4 hb; omega)
            have hb212 := (hb2.ext e11).ch c12 (fun hb => by have := q3 g2 hb; omega)
            have hb312 := (hb3.ext e11).ch c12 (fun hb => by have := q3 g3 hb; omega)
            have E12 : Ext w w12 := (E10.ext e11).trans c12 (fun _ _ t => t) (fun j hj t => by have := q3 j t; omega)
            repeat' ((apply Jcg; (apply Jbl; exact Us.h; exact rfl; exact Sz.h; exact rfl); exact rfl))
            refine TL_store rfl rfl Sz.h hT12.one hb612 rfl ?_
            intro w13 c13 hz13 hb613
            have hN13 := hN12.ch c13 (fun b hb => by have := q1 b hb; simp only [Iv]; omega)
            have hK13 := hK12.ch c13 (fun b hb => by have := q2 b hb; simp only [Iv]; omega)
            have hT13 := hT12.ch c13 (fun b hb => by have := hst2 b hb; simp only [Iv]; omega)
            have hb413 := hb412.ch c13 (by simp only [Iv]; omega)
            have E13 : Ext w w13 := Ext.then_iv E12 c13 (by omega)
            have hb213 := hb212.ch c13 (by simp only [Iv]; omega)
            repeat' (first | apply Jbq | apply Jbr | apply Jbs | apply Jbt | (apply Jcg; (apply Jbl; exact Us.h; exact rfl; exact Sz.h; exact rfl); exact rfl) | refine Jcg (Pu_load Fl.h rfl (fun _ e => by rw [e]; exact hb613.ld rfl)) rfl ?_ | refine Jcg (Pu_build (cs := [I d.next, .slice none 0 0, .slice none 0 0]) rfl (by kernel_rfl)) rfl ?_)
            refine TL_buildSlice Us.h Zi.h rfl rfl rfl rfl (fillN d.next none none 0 0 0 0) rfl rfl ?_
            intro w14 g14 e14 hg14 hz14 hown14
            have hnew := nd_new (d := ⟨d.next, [], [], .slice none 0 0, .slice none 0 0⟩) hown14 rfl rfl hg14 hz14
            have hs14 := e14.size
            have hbz : bkd (⟨d.next, [], [], .slice none 0 0, .slice none 0 0⟩ : Nd) = [] := rfl
            have hel : es.length = d.nodes.length := by rw [← hmap, List.length_map]
            skip
            refine TL_appendN Us.h rfl rfl (hN13.ext e14) hnew.rd (OB.x (OB.nil _ 0 (Nat.zero_le _))) (OB.x (OB.nil _ 0 (Nat.zero_le _))) (by rw [hbz, List.append_nil]; exact hN13.nd) (by rw [hbz, List.append_nil]; exact fun b hb => by have := q1 b hb; omega) (by omega) rfl ?_
            intro w15 sn2 c15 loc15 hN15
            have hs15 := c15.size
            have hsn1 : ∀ b ∈ blk sn1, b ∈ bksN sn1 es := fun b hb => List.mem_append.2 (.inl hb)
            have hsn2 : ∀ b ∈ blk sn2, b ∈ blk sn1 ∨ (w14.heap.size ≤ b ∧ b < w15.heap.size) := fun b hb => by
              rcases loc15 with h | ⟨h, h2⟩
              · rw [h] at hb; exact .inl hb
              · rw [h] at hb; rw [List.mem_singleton.1 hb]; exact .inr ⟨Nat.le_refl _, h2⟩
            have hK15 := (hK13.ext e14).ch c15 (fun b hb hm => (q1 b (hsn1 b hm)).2.2.1 hb)
            have hT15 := (hT13.ext e14).ch c15 (fun b hb hm => by
              have h1 := q1 b (hsn1 b hm)
              rcases hst2 b hb with h2 | h2
              · exact h1.2.2.2 h2.2.2
              · omega)
            have hb615 := (hb613.ext e14).ch c15 (fun hm => by have := q1 g6 (hsn1 _ hm); omega)
            have hb415 := (hb413.ext e14).ch c15 (fun hm => by have := q1 g4 (hsn1 _ hm); omega)
            have E15 : Ext w w15 := (E13.ext e14).trans c15 (fun _ _ t => t) (fun j hj t => by have := q1 j (hsn1 j t); omega)
            repeat' ((apply Jcg; (apply Jbl; exact Us.h; exact rfl; exact Sz.h; exact rfl); exact rfl))
            refine TL_store rfl rfl Sz.h hN15.row.one hb615 rfl ?_
            intro w16 c16 hz16 hb616
            have hb416 := hb415.ch c16 (by simp only [Iv]; omega)
            repeat' (first | apply Jbq | apply Jbr | apply Jbt | (apply Jcg; (first | exact Jaf rfl rfl (by omega) | (apply Jbl; exact Us.h; exact rfl; exact Sz.h; exact rfl)); exact rfl) | refine Jcg (Pu_load Fl.h rfl (fun _ e => by rw [e]; exact hb616.ld rfl)) rfl ?_)
            refine TL_store rfl rfl Sz.h rfl hb616 rfl ?_
            intro w17 c17 hz17 hb617
            have hb417 := hb416.ch c17 (by simp only [Iv]; omega)
            have hbN : ∀ b ∈ bksN sn2 (es ++ [(⟨d.next, [], [], .slice none 0 0, .slice none 0 0⟩ : Nd)]), b ∈ bksN sn1 es ∨ (w14.heap.size ≤ b ∧ b < w15.heap.size) := fun b hb => by
              unfold bksN at hb
              rw [List.flatMap_append] at hb
              rcases List.mem_append.1 hb with hb | hb
              · rcases hsn2 b hb with h | h
                · exact .inl (hsn1 b h)
                · exact .inr h
              · rcases List.mem_append.1 hb with hb | hb
                · exact .inl (List.mem_append.2 (.inr hb))
                · simp [hbz] at hb
            have hN17 := (hN15.ch c16 (fun b hb => by rcases hbN b hb with h | h; (have := q1 b h; simp only [Iv]; omega); (simp only [Iv]; omega))).ch c17 (fun b hb => by rcases hbN b hb with h | h; (have := q1 b h; simp only [Iv]; omega); (simp only [Iv]; omega))
            have hK17 := (hK15.ch c16 (fun b hb => by have := q2 b hb; simp only [Iv]; omega)).ch c17 (fun b hb => by have := q2 b hb; simp only [Iv]; omega)
            have hT17 := (hT15.ch c16 (fun b hb => by have := hst2 b hb; simp only [Iv]; omega)).ch c17 (fun b hb => by have := hst2 b hb; simp only [Iv]; omega)
            repeat' (first | apply Jbq | apply Jbx)
            refine TN_join () (subEnv_cons rfl (subEnv_cons rfl (subEnv_nil _))) ⟨Ext.then_iv (Ext.then_iv E15 c16 (by omega)) c17 (by omega), by omega, hb417, rfl, sn2, sk1, st2, hb617, ODk.mk3 (es := es ++ [(⟨d.next, [], [], .slice none 0 0, .slice none 0 0⟩ : Nd)]) (Nat.le_refl _) (by rw [List.map_append, hmap]; rfl) hN17 hK17 hT17 ?_ (fun b hb => by have h1 := q2 b hb; exact ⟨h1.1, by omega, fun h => by rcases hst2 b h with h2 | h2; exact h1.2.2 h2.2.2; omega⟩) (fun b hb => by have h1 := hst2 b hb; omega)⟩
            intro b hb
            rcases hbN b hb with h | h
            · have h1 := q1 b h
              exact ⟨h1.1, by omega, h1.2.2.1, fun h => by rcases hst2 b h with h2 | h2; exact h1.2.2.2 h2.2.2; omega⟩
            · exact ⟨by omega, by omega, fun h2 => by have := q2 b h2; omega, fun h2 => by have := hst2 b h2; omega⟩
          · repeat' (first | apply Jbq | apply Jbr | apply Jbs | apply Jbt | apply Jby | (refine Jce rfl ?_) | (refine Jcf rfl ?_) | (apply Jcg; (first | exact Jaa rfl | exact Jab rfl | exact Jak rfl rfl | (apply Jbl; exact Us.h; exact rfl; exact Sz.h; exact rfl)); exact rfl) | refine Jcg (Pu_load Fl.h rfl (fun _ e => by rw [e]; exact hb3.ld rfl)) rfl ?_)
            have hdir := hD.dirLe d.turns.length (Nat.le_refl _)
            have hids := hD.dirIds d.turns.length (Nat.le_refl _)
            have hasc := hD.asc d.turns.length (Nat.le_refl _)
            rw [List.take_length, show runT d.kept d.turns = pDir d from rfl] at hdir hids hasc
            refine TL_call rfl en69 (links_c hM hasc (by omega)) rfl rfl ?_
            rintro vk w11 ⟨e11, hok⟩
            have hs11 := e11.size
            have hokb := hok.bin
            replace hb6 := hb6.ext e11
            replace hN := hN.ext e11
            have hinN : ∀ b ∈ bksN sn1 es, w5.heap.size ≤ b ∧ b < w6.heap.size := fun b hb => by have := q1 b hb; omega
            obtain ⟨A1, c1, rfl, hc1', hr1⟩ := hN.row.rr (fun b hb => hinN b (List.mem_append.2 (.inl hb))) (by omega)
            have hdl : es.length = d.nodes.length := by rw [← hmap, List.length_map]
            skip
            refine TL_call rfl en68 (only_c (d := { d with fuse := fuseOf d }) hb6 hr1 (fun x hx => by obtain ⟨h1, h2⟩ := hN.ok x hx; obtain ⟨A, c, _, _, h3, _⟩ := h1.sl; obtain ⟨A', c', _, _, h4, _⟩ := h2.sl; exact ⟨⟨A, _, c, h3⟩, ⟨A', _, c', h4⟩⟩) hok.rd (by omega) (by omega) (fun x hx => hD.idB _ (hids x hx))
              (fun x hx => hD.idB _ (by rw [← hmap]; unfold nIds; rw [List.map_map]; exact List.mem_map.2 ⟨x, hx, rfl⟩))) rfl rfl ?_
            rintro _ w12 ⟨rfl, c12, vn, hb612, hon⟩
            have hs12 := c12.size
            have hN12 : ONx w12 vn (only es ((pDir d).map (·.id))) := hN.keep hon c12 (fun b hb => by have := hinN b hb; simp only [Iv]; omega) (fun b hb => by have := hinN b hb; omega)
            have hbk12 : ∀ b ∈ bksN vn (only es ((pDir d).map (·.id))), w5.heap.size ≤ b ∧ b < w12.heap.size ∧ b ∉ blk vk := fun b hb => by
              have h1 := bks_keep hon hinN b hb
              exact ⟨by omega, by omega, fun h => by have := hokb b h; omega⟩
            have hok12 := hok.ch c12 (by intro k _ _; simp only [Iv]; omega)
            have E12 : Ext w w12 := Ext.then_iv (E10.ext e11) c12 (by omega)
            repeat' (first | apply Jbq | apply Jbx)
            exact TN_join () (subEnv_cons rfl (subEnv_cons rfl (subEnv_nil _))) ⟨E12, by omega, (hb4.ext e11).ch c12 (by simp only [Iv]; omega), rfl, vn, vk, .slice none 0 0, hb612, ODk.mk2 (d := doD d ⟨7, name, to, size, data⟩) (Nat.le_refl _) (by rw [only_map, hmap]; rfl) hN12 hok12 rfl hbk12 (by omega) (Nat.le_trans (by omega) hs12)⟩
        rintro _ w20 ⟨E20, hs20, hb420, hC0, sn2, sk2, st2, hb620, hx20⟩
        have hone2 := hx20.one
        repeat' (first | apply Jbs | apply Jbt | refine Jcg (Pu_loadAgg (cs := dskC (doD d ⟨kind, name, to, size, data⟩) sn2 sk2 st2) Us.h rfl Sz.h rfl (fun _ e j u hu => by rw [e, add0, hb620.cell]; exact hu)) rfl ?_)
        refine TL_storeAgg rfl rfl Sz.h hone2 hb420 rfl ?_
        intro w21 c21 hz21 hb21
        repeat' (first | apply Jbq | apply Jbr | apply Jbu | (apply Jcg; exact Jab rfl; exact rfl))
        exact TR_of (resA1 rfl rfl rfl hb21 Us.h rfl Sz.h) ⟨sn2, sk2, st2, by rw [hC0], Ext.then_iv E20 c21 (by omega), (hx20.ch c21 (by intro k _ _; simp only [Iv]; omega)).wide (by omega) (by omega) (Nat.le_refl _)⟩
      · have hhas : dHas (pDir d) name = true := by
          have h1 := hch (fun e => hk17 (.inr e))
          rw [h1]; simp; exact fun e => hk17 (.inl e)
        obtain ⟨i, hi, hat, _⟩ := hD.dirAt hhas
        rw [hat]
        have hel : es.length = d.nodes.length := by rw [← hmap, List.length_map]
        have hie : i < es.length := by omega
        obtain ⟨gN, cN, loN, hiN, rfl, hownN⟩ := hN.open hie
        have hoA : ∀ (k : Int) (n t : List UInt8) (z : Int) (u : List UInt8), n = name → (opAt d ⟨k, n, t, z, u⟩).toNat = i := fun k n t z u e => by unfold opAt; simp only; rw [e, hat]; rfl
        have hoI : ∀ (k : Int) (n t : List UInt8) (z : Int) (u : List UInt8), n = name → opAt d ⟨k, n, t, z, u⟩ = (i : Int) := fun k n t z u e => by unfold opAt; simp only; rw [e, hat]
        have hgN := q1 gN (List.mem_append.2 (.inl (List.mem_singleton.2 rfl)))
        obtain ⟨x, hx⟩ : ∃ x, x = es[i] := ⟨_, rfl⟩
        have hxn : d.nodes[i] = NdP x := by simp only [← hmap, List.getElem_map, hx]
        have hok2 := hN.ok es[i] (List.getElem_mem hie)
        have hbx := bkd_in (v := .slice (some ⟨gN, 0, none⟩) es.length cN) hie
        have hcell : ∀ j u, (NdC x)[j]? = some u → w10.cell? ((⟨gN, 0, none⟩ : Addr).add (i * 3) |>.add j) = some u := fun j u hu => by
          have hj : j < 3 := by have := (List.getElem?_eq_some_iff.1 hu).1; rw [NdC_len] at this; exact this
          rw [add_lit3, hownN.row.cellAt (i * 3 + j) (by omega), cellsL_at NdC_len es i j hie hj, ← hx]; exact hu
        rw [← hx] at hok2 hbx
        obtain ⟨id, body, safe, vb, vs⟩ := x
        obtain ⟨hokB, hokS⟩ := hok2
        simp only at hokB hokS
        obtain ⟨Ab, cb, lob, hib, rfl, hownB⟩ := hokB.sl
        obtain ⟨As, cs, los, his, rfl, hownS⟩ := hokS.sl
        have hx' : es[i] = ⟨id, body, safe, .slice Ab body.length cb, .slice As safe.length cs⟩ := hx.symm
        have hcb : w10.cell? ((⟨gN, 0, none⟩ : Addr).add (i * 3) |>.add 1) = some (.slice Ab body.length cb) := hcell 1 _ rfl
        have hcs : w10.cell? ((⟨gN, 0, none⟩ : Addr).add (i * 3) |>.add 2) = some (.slice As safe.length cs) := hcell 2 _ rfl
        have hbl : body.length ≤ 1048576 ∧ safe.length ≤ 1048576 := by
          have h1 : (id, body, safe) ∈ d.nodes := by
            have h2 := List.getElem_mem hi
            rw [hxn] at h2
            exact h2
          have h3 := totNd_mem h1
          have h4 := (totD_parts hl).1
          unfold NdW at h3
          simp only at h3
          omega
        have hndA : ∀ (k : Int) (n t : List UInt8) (z : Int) (u : List UInt8), n = name → ndAt d ⟨k, n, t, z, u⟩ = (id, body, safe) := fun k n t z u e => by
          unfold ndAt; rw [hoA k n t z u e, List.getD_eq_getElem?_getD, List.getElem?_eq_getElem hi, hxn]; rfl
        replace hb3 : Blk w10 g3 49 [I kind, S name, S to, I size, .slice Ad data.length cd] := hb3
        have hbodyE : bodyAt d (i : Int) = body := by rw [bodyAt_nat hi, hxn]; rfl
        have hndN : (gN :: es.flatMap bkd).Nodup := hN.nd
        have hgx : ∀ b ∈ bkd es[i], b ≠ gN := fun b hb e => (List.nodup_cons.1 hndN).1 (e ▸ List.mem_flatMap.2 ⟨_, List.getElem_mem hie, hb⟩)
        rw [hx'] at hgx
        have hbB : ∀ b ∈ blk (.slice Ab body.length cb), w5.heap.size ≤ b ∧ b < w6.heap.size ∧ b ≠ gN := fun b hb => by
          have h1 := q1 b (hbx b (List.mem_append.2 (.inl hb)))
          exact ⟨h1.1, h1.2.1, hgx b (List.mem_append.2 (.inl hb))⟩
        have hbS : ∀ b ∈ blk (.slice As safe.length cs), w5.heap.size ≤ b ∧ b < w6.heap.size ∧ b ≠ gN := fun b hb => by
          have h1 := q1 b (hbx b (List.mem_append.2 (.inr hb)))
          exact ⟨h1.1, h1.2.1, hgx b (List.mem_append.2 (.inr hb))⟩
        repeat' (first | apply Jbq | apply Jbr | (apply Jcg; exact Jab rfl; exact rfl))
        apply Jbs
        repeat' (first | apply Jbq | apply Jbr | apply Jbt | (refine Jce rfl ?_) | (apply Jcg; (first | exact Jaa rfl | exact Jao rfl rfl | (apply Jbl; exact Us.h; exact rfl; exact Sz.h; exact rfl)); exact rfl))
        repeat' (first | apply Jbq | apply Jbr | (apply Jcg; (first | exact Jaa rfl | exact Jab rfl | exact Jar Us.h Sz.h rfl rfl (by omega)); exact rfl) | refine Jcg (Pu_load Fl.h rfl (fun _ e => by rw [e]; exact hb6.ld rfl)) rfl ?_)
        have hk5 : kind = 2 ∨ kind = 3 ∨ kind = 4 ∨ kind = 5 ∨ kind = 6 := by omega
        refine TC_join (ι := Unit) (fun _ => [(4, .pointer (some ⟨g4, 0, none⟩)), (6, .pointer (some ⟨g6, 0, none⟩))]) (fun _ w' => Ext w w' ∧ w10.heap.size ≤ w'.heap.size ∧ Blk w' g4 33 (dskC noDk (.slice none 0 0) (.slice none 0 0) (.slice none 0 0)) ∧ doC d ⟨kind, name, to, size, data⟩ = 0 ∧ ∃ sn' sk' st', Blk w' g6 33 (dskC (doD d ⟨kind, name, to, size, data⟩) sn' sk' st') ∧ ODk w' w5.heap.size w'.heap.size (doD d ⟨kind, name, to, size, data⟩) sn' sk' st') ?_ ?_
        · rcases hk5 with rfl | rfl | rfl | hk56
          · obtain ⟨k, hkq⟩ : ∃ k, k = fitsN d ⟨2, name, to, size, data⟩ := ⟨_, rfl⟩
            have hkv : min (max (body.length : Int) (safe.length : Int) + d.room - pUsed d.nodes - (body.length : Int)) (data.length : Int) = k := by
              rw [hkq]; unfold fitsN; rw [hndA _ _ _ _ _ rfl]; rfl
            have hu := hD.used
            have hpu := (pUsed_le d.nodes).1
            have hk0 : 0 ≤ k ∧ k ≤ (data.length : Int) := by rw [← hkv]; omega
            have hdo : doD d ⟨2, name, to, size, data⟩ = { d with fuse := fuseOf d, nodes := d.nodes.set i (id, body ++ data.take k.toNat, safe) } := by
              unfold doD
              rw [if_neg (by simp), if_pos rfl]
              unfold ndPut
              rw [hoA _ _ _ _ _ rfl, hndA _ _ _ _ _ rfl, ← hkq]
            have hdc : doC d ⟨2, name, to, size, data⟩ = if k < (data.length : Int) then 5 else 0 := by unfold doC; rw [← hkq]; simp
            skip
            apply Jbs
            repeat' (first | apply Jbq | apply Jbr | apply Jbs | apply Jbt | apply Jby | (refine Jce rfl ?_) | (refine Jcf rfl ?_) | (apply Jcg; (first | exact Jab rfl | exact Jak rfl rfl | (apply Jbl; exact Us.h; exact rfl; exact Sz.h; exact rfl)); exact rfl) | refine Jcg (Pu_load Fl.h rfl (fun _ e => by rw [e]; exact hb3.ld rfl)) rfl ?_)
            refine TC_any mixed rfl ?_
            intro w11 hE hz11
            (refine Jco 0 rfl (by kernel_rfl) (by kernel_rfl) (by kernel_rfl) (fun _ _ _ h => h) hE (by exact Jaa rfl) rfl ?_; refine Jco 1 rfl (by kernel_rfl) (by kernel_rfl) (by kernel_rfl) (fun _ _ _ h => h) hE (by exact Jba rfl) rfl ?_; refine Jco 2 rfl (by kernel_rfl) (by kernel_rfl) (by kernel_rfl) (fun _ _ _ h => h) hE (by (apply Jbl; exact Us.h; exact rfl; exact Sz.h; exact rfl)) rfl ?_; refine Jco 3 rfl (by kernel_rfl) (by kernel_rfl) (by kernel_rfl) (fun _ _ _ h => h) hE (by exact Pu_load Fl.h rfl (fun _ e => Ext.cell e hcb)) rfl ?_; refine Jco 4 rfl (by kernel_rfl) (by kernel_rfl) (by kernel_rfl) (fun _ _ _ h => h) hE (by exact Jac Us.h rfl) rfl ?_; refine Jco 5 rfl (by kernel_rfl) (by kernel_rfl) (by kernel_rfl) (fun _ _ _ h => h) hE (by exact Jaa rfl) rfl ?_; refine Jco 6 rfl (by kernel_rfl) (by kernel_rfl) (by kernel_rfl) (fun _ _ _ h => h) hE (by exact Jba rfl) rfl ?_; refine Jco 7 rfl (by kernel_rfl) (by kernel_rfl) (by kernel_rfl) (fun _ _ _ h => h) hE (by (apply Jbl; exact Us.h; exact rfl; exact Sz.h; exact rfl)) rfl ?_; refine Jco 8 rfl (by kernel_rfl) (by kernel_rfl) (by kernel_rfl) (fun _ _ _ h => h) hE (by exact Pu_load Fl.h rfl (fun _ e => Ext.cell e hcs)) rfl ?_; refine Jco 9 rfl (by kernel_rfl) (by kernel_rfl) (by kernel_rfl) (fun _ _ _ h => h) hE (by exact Jac Us.h rfl) rfl ?_; refine Jco 10 rfl (by kernel_rfl) (by kernel_rfl) (by kernel_rfl) (fun _ _ _ h => h) hE (by exact Jaz rfl rfl) rfl ?_; refine Jco 11 rfl (by kernel_rfl) (by kernel_rfl) (by kernel_rfl) (fun _ _ _ h => h) hE (by (apply Jbl; exact Us.h; exact rfl; exact Sz.h; exact rfl)) rfl ?_; refine Jco 12 rfl (by kernel_rfl) (by kernel_rfl) (by kernel_rfl) (fun _ _ _ h => h) hE (by exact Pu_load Fl.h rfl (fun _ e => Ext.cell e (hb2.ld rfl))) rfl ?_; refine Jco 13 rfl (by kernel_rfl) (by kernel_rfl) (by kernel_rfl) (fun _ _ _ h => h) hE (by exact Jaf rfl rfl (by omega)) rfl ?_; refine Jco 14 rfl (by kernel_rfl) (by kernel_rfl) (by kernel_rfl) (fun _ _ _ h => h) hE (by exact Pu_loadAgg (cs := dskC d sn sk st) Us.h rfl Sz.h rfl (fun _ e j u hu => by rw [add0]; exact Ext.cell e ((hb2.cell j).trans hu))) rfl ?_; refine Jco 17 rfl (by kernel_rfl) (by kernel_rfl) (by kernel_rfl) (fun _ _ _ h => h) hE (by exact Jaa rfl) rfl ?_; refine Jco 18 rfl (by kernel_rfl) (by kernel_rfl) (by kernel_rfl) (fun _ _ _ h => h) hE (by exact Jba rfl) rfl ?_; refine Jco 19 rfl (by kernel_rfl) (by kernel_rfl) (by kernel_rfl) (fun _ _ _ h => h) hE (by (apply Jbl; exact Us.h; exact rfl; exact Sz.h; exact rfl)) rfl ?_; refine Jco 20 rfl (by kernel_rfl) (by kernel_rfl) (by kernel_rfl) (fun _ _ _ h => h) hE (by exact Pu_load Fl.h rfl (fun _ e => Ext.cell e hcb)) rfl ?_; refine Jco 21 rfl (by kernel_rfl) (by kernel_rfl) (by kernel_rfl) (fun _ _ _ h => h) hE (by exact Jac Us.h rfl) rfl ?_)
            refine TA_one 15 (by kernel_rfl) rfl ?_
            refine TL_call rfl en95 (implDiskUsed_c (hh.ext (E10.ext hE)) hl) rfl rfl ?_
            rintro _ w12 ⟨rfl, e12⟩
            have e1012 := hE.ext e12
            have hs12 := e1012.size
            clear hE
            have hE := e1012
            refine Jbq (TN_any hE ?_)
            (refine Jco 16 rfl (by kernel_rfl) (by kernel_rfl) (by kernel_rfl) (fun _ _ _ h => h) hE (by exact Jap rfl rfl (by omega)) rfl ?_; refine Jco 22 rfl (by kernel_rfl) (by kernel_rfl) (by kernel_rfl) (fun _ _ _ h => h) hE (by exact Jap rfl rfl (by omega)) rfl ?_; refine Jco 23 rfl (by kernel_rfl) (by kernel_rfl) (by kernel_rfl) (fun _ _ _ h => h) hE (by exact Jab rfl) rfl ?_)
            refine TA_done (by kernel_rfl) ?_
            have hb312 := hb3.ext hE
            repeat' (first | apply Jbq | apply Jbr | apply Jbs | apply Jbt | (apply Jcg; (first | exact Jaa rfl | exact Jab rfl | exact Jac Us.h rfl | exact Jay rfl rfl | (apply Jbl; exact Us.h; exact rfl; exact Sz.h; exact rfl)); exact rfl) | refine Jcg (Pu_load Fl.h rfl (fun _ e => by rw [e]; exact hb312.ld rfl)) rfl ?_)
            rw [hkv]
            obtain ⟨Ak, ck, hvk, hck, hrk⟩ := RB.to (k := k) hrd hk0 hcd
            obtain ⟨lo3, hi3, hown3, hin3⟩ := hownN.narrow
            have hg3A : ¬ (g3 ∈ blk (.slice Ab body.length cb) ∨ g3 = gN) := fun h => by rcases h with h | h; (have := hbB g3 h; omega); omega
            have hgnb : gN ∉ blk (.slice Ab body.length cb) := fun h => (hbB gN h).2.2 rfl
            refine TC_anyB (fun w' => Ch (fun j => j ∈ blk (.slice Ab body.length cb) ∨ j = gN) w12 w') (fun w' => w'.cell? (((⟨gN, 0, none⟩ : Addr).add (i * 3)).add 1) = some (.slice Ab body.length cb)) 12 mixed rfl (Ch.refl _ _).drew (Ext.cell (Ch.refl _ _).drew (Ext.cell hE hcb)) ?_
            intro w13 e13 hz13 hA hB
            (refine TB_take 0 rfl rfl rfl (by kernel_rfl) (by kernel_rfl) (by kernel_rfl) (fun _ _ _ h => h) ⟨hA, fun _ => hB⟩ (by exact Jaa rfl) rfl ?_; refine TB_take 1 rfl rfl rfl (by kernel_rfl) (by kernel_rfl) (by kernel_rfl) (fun _ _ _ h => h) ⟨hA, fun _ => hB⟩ (by exact Jaa rfl) rfl ?_; refine TB_take 2 rfl rfl rfl (by kernel_rfl) (by kernel_rfl) (by kernel_rfl) (fun _ _ _ h => h) ⟨hA, fun _ => hB⟩ (by exact Jba rfl) rfl ?_; refine TB_take 3 rfl rfl rfl (by kernel_rfl) (by kernel_rfl) (by kernel_rfl) (fun _ _ _ h => h) ⟨hA, fun _ => hB⟩ (by (apply Jbl; exact Us.h; exact rfl; exact Sz.h; exact rfl)) rfl ?_; refine TB_take 5 rfl rfl rfl (by kernel_rfl) (by kernel_rfl) (by kernel_rfl) (fun _ _ _ h => h) ⟨hA, fun _ => hB⟩ (by (apply Jbl; exact Us.h; exact rfl; exact Sz.h; exact rfl)) rfl ?_; refine TB_take 6 rfl rfl rfl (by kernel_rfl) (by kernel_rfl) (by kernel_rfl) (fun _ _ _ h => h) ⟨hA, fun _ => hB⟩ (by exact Pu_load Fl.h rfl (fun _ e => Ch.cell e (hb312.ld rfl) (by rw [block_of_add]; exact hg3A))) rfl ?_; refine TB_take 7 rfl rfl rfl (by kernel_rfl) (by kernel_rfl) (by kernel_rfl) (fun _ _ _ h => h) ⟨hA, fun _ => hB⟩ (by exact Jaa rfl) rfl ?_)
            (refine TB_takeB 4 rfl rfl rfl (by kernel_rfl) rfl (by kernel_rfl) (by kernel_rfl) (by kernel_rfl) (fun _ _ _ h => h) ⟨hA, fun _ => hB⟩ (by exact Pu_load Fl.h rfl (fun _ e => e.2)) rfl ?_)
            (refine TB_take 8 rfl rfl rfl (by kernel_rfl) (by kernel_rfl) (by kernel_rfl) (fun _ _ _ h => h) ⟨hA, fun _ => hB⟩ (by exact Jbe Us.h Sz.h rfl rfl (by omega)) rfl ?_)
            rw [hvk]
            refine TB_one 9 (by kernel_rfl) rfl ?_
            have e1013 := hE.ext e13
            refine TL_appendBx Us.h rfl rfl (hokB.ext e1013) ⟨_, _, rfl, hck, hrk.ext (E10.ext e1013)⟩ (by rw [List.length_take]; omega) rfl ?_
            intro w14 A4 c4 c14 loc14 ho14
            have hs13 := e13.size
            have hs14 := c14.size
            replace hA := (hA.then (c14.mono (fun j hj => .inl hj)))
            replace hB := Ch.cell c14 hB (by rw [block_of_add, block_of_add]; exact hgnb)
            refine Jbq (TN_anyB ⟨hA, fun _ => hB⟩ ?_)
            (refine TB_take 10 rfl rfl rfl (by kernel_rfl) (by kernel_rfl) (by kernel_rfl) (fun _ _ _ h => h) ⟨hA, fun _ => hB⟩ (by exact Jba rfl) rfl ?_; refine TB_take 11 rfl rfl rfl (by kernel_rfl) (by kernel_rfl) (by kernel_rfl) (fun _ _ _ h => h) ⟨hA, fun _ => hB⟩ (by (apply Jbl; exact Us.h; exact rfl; exact Sz.h; exact rfl)) rfl ?_)
            refine TB_one 12 (by kernel_rfl) rfl ?_
            have hown14 := (hown3.ext e1013).ch c14 (fun j h1 h2 h3 => hgnb (by have := hin3 j h1 h2; rw [show blk (.slice (some ⟨gN, 0, none⟩) es.length cN) = [gN] from rfl, List.mem_singleton] at this; rw [← this]; exact h3))
            refine TL_storeOwn rfl (add_lit3 gN (i * 3) 1) rfl Sz.h rfl hown14 (by omega) ?_
            intro w15 c15 hz15 hown15
            refine Jbq (TN_anyB ⟨hA.then (c15.mono (fun j hj => .inr (by have := hj.1; have := hj.2; omega))), fun h => nomatch (show true = false from h)⟩ ?_)
            refine TB_done (by kernel_rfl) ?_
            obtain ⟨nb, hnb⟩ : ∃ nb, nb = body ++ data.take k.toNat := ⟨_, rfl⟩
            rw [← hnb] at ho14 loc14 hown15 hdo
            rw [cells_body (s := nb) hie hx'] at hown15
            have hch : Ch (fun j => j ∈ blk (.slice Ab body.length cb) ∨ j = gN) w13 w15 := (c14.mono (fun j hj => .inl hj)).then (c15.mono (fun j hj => .inr (by have := hj.1; have := hj.2; omega)))
            have hlset : (es.set i ⟨id, nb, safe, .slice A4 nb.length c4, .slice As safe.length cs⟩).length = es.length := List.length_set
            have hv4 : ∀ b ∈ blk (.slice A4 nb.length c4), (b ∈ blk (.slice Ab body.length cb)) ∨ (w13.heap.size ≤ b ∧ b < w14.heap.size) := fun b hb => by
              rcases loc14 with h | ⟨h, h2⟩
              · rw [h] at hb; exact .inl hb
              · rw [h] at hb; rw [List.mem_singleton.1 hb]; exact .inr ⟨Nat.le_refl _, h2⟩
            have hndx : ∀ b ∈ blk (.slice Ab body.length cb), b ∉ blk (.slice As safe.length cs) := fun b h1 h2 => by
              have h3 := (List.nodup_cons.1 hndN).2
              rw [nodes_self hie, List.flatMap_append, List.flatMap_cons, hx'] at h3
              have h4 := (List.nodup_append.1 (List.nodup_append.1 h3).2.1).1
              exact (List.nodup_append.1 (show (blk (.slice Ab body.length cb) ++ blk (.slice As safe.length cs)).Nodup from h4)).2.2 b h1 b h2 rfl
            have E15 : Ext w w15 := (E10.ext e1013).trans hch (fun _ _ t => t) (fun j hj t => by rcases t with t | t; (have := hbB j t; omega); omega)
            have hx15 := ODk.put (x' := ⟨id, nb, safe, .slice A4 nb.length c4, .slice As safe.length cs⟩) (lo := w5.heap.size) (hi := w6.heap.size) (hi' := w15.heap.size) (d' := doD d ⟨2, name, to, size, data⟩) (Nat.le_refl _) (by omega) hmap (hN.ext e1013) (hK.ext e1013) (hT.ext e1013) q1 q2 q3 hie hch (fun j hj => by
                rcases hj with h | h
                · right; rw [hx']; exact List.mem_append.2 (.inl h)
                · exact .inl h) ⟨_, _, by rw [hlset], by rw [hlset]; exact hown15⟩
              ⟨ho14.ch c15 (fun b hb => by simp only [Iv]; rcases hv4 b hb with h | h; (have := hbB b h; omega); omega), (hokS.ext e1013).ch hch (fun b hb h => by rcases h with h | h; exact hndx b h hb; exact (hbS b hb).2.2 h)⟩
              (by
                show (blk _ ++ blk _).Nodup
                rw [List.nodup_append]
                exact ⟨blk_nodup _, blk_nodup _, fun x hx y hy e => by
                  have h1 := hbS y hy
                  rcases hv4 x hx with h | h
                  · exact hndx x h (e ▸ hy)
                  · omega⟩)
              (fun b hb => by
                rcases List.mem_append.1 hb with hb | hb
                · rcases hv4 b hb with h | h
                  · left; rw [hx']; exact List.mem_append.2 (.inl h)
                  · right; omega
                · left; rw [hx']; exact List.mem_append.2 (.inr hb)) (by omega) (by rw [hdo]; rfl) (by rw [hdo]) (by rw [hdo])
            have hb615 : Blk w15 g6 33 (dskC (doD d ⟨2, name, to, size, data⟩) (.slice (some ⟨gN, 0, none⟩) es.length cN) sk1 st1) := by
              rw [hdo]
              exact (hb6.ext e1013).ch hch (fun h => by rcases h with h | h; (have := hbB g6 h; omega); omega)
            have hb415 := (hb4.ext e1013).ch hch (fun h => by rcases h with h | h; (have := hbB g4 h; omega); omega)
            have hb315 := (hb3.ext e1013).ch hch (fun h => by rcases h with h | h; (have := hbB g3 h; omega); omega)
            repeat' (first | apply Jbq | apply Jbr | apply Jbs | apply Jbt | (apply Jcg; (first | exact Jaa rfl | exact Jac Us.h rfl | exact Jad rfl rfl | (apply Jbl; exact Us.h; exact rfl; exact Sz.h; exact rfl)); exact rfl) | refine Jcg (Pu_load Fl.h rfl (fun _ e => by rw [e]; exact hb315.ld rfl)) rfl ?_)
            refine Jcx rfl (fun hlt => ?_) (fun hge => ?_)
            · have hone2 := hx15.one
              repeat' (first | apply Jbs | apply Jbt | refine Jcg (Pu_loadAgg (cs := dskC (doD d ⟨2, name, to, size, data⟩) (.slice (some ⟨gN, 0, none⟩) es.length cN) sk1 st1) Us.h rfl Sz.h rfl (fun _ e j u hu => by rw [e, add0, hb615.cell]; exact hu)) rfl ?_)
              refine TL_storeAgg rfl rfl Sz.h hone2 hb415 rfl ?_
              intro w21 c21 hz21 hb21
              repeat' (first | apply Jbq | apply Jbr | apply Jbu | apply Jbv | apply Jbw | (apply Jcg; exact Jab rfl; exact rfl))
              exact TR_of (resA1 rfl rfl rfl hb21 Us.h rfl Sz.h) ⟨_, sk1, st1, by rw [hdc, if_pos hlt], Ext.then_iv E15 c21 (by omega), (hx15.ch c21 (by intro k _ _; simp only [Iv]; omega)).wide (by omega) (by omega) (Nat.le_refl _)⟩
            · repeat' (first | apply Jbx | apply Jbz)
              exact TN_join () (subEnv_cons rfl (subEnv_cons rfl (subEnv_nil _))) ⟨E15, by omega, hb415, by rw [hdc, if_neg hge], _, sk1, st1, hb615, hx15⟩
          · have hdo : doD d ⟨3, name, to, size, data⟩ = { d with fuse := fuseOf d, nodes := d.nodes.set i (id, body, body) } := by
              unfold doD
              rw [if_neg (by simp), if_neg (by simp), if_pos rfl]
              unfold ndPut
              rw [hoA _ _ _ _ _ rfl, hndA _ _ _ _ _ rfl]
            repeat' (first | apply Jbq | apply Jbr | apply Jbs | apply Jbt | apply Jby | (refine Jce rfl ?_) | (refine Jcf rfl ?_) | (apply Jcg; (first | exact Jaa rfl | exact Jab rfl | exact Jak rfl rfl | exact Jba rfl | (apply Jbl; exact Us.h; exact rfl; exact Sz.h; exact rfl)); exact rfl) | refine Jcg (Pu_load Fl.h rfl (fun _ e => by rw [e]; exact hb3.ld rfl)) rfl ?_ | refine Jcg (Pu_load Fl.h rfl (fun _ e => by rw [e]; exact hcb)) rfl ?_)
            refine TL_call rfl en71 (copyBytes_c hownB.rd (by omega)) rfl rfl ?_
            rintro _ w11 ⟨A2, c2, rfl, e11, ho2⟩
            have hs11 := e11.size
            repeat' ((apply Jcg; (first | exact Jba rfl | (apply Jbl; exact Us.h; exact rfl; exact Sz.h; exact rfl)); exact rfl))
            refine TL_storeOwn rfl (add_lit3 gN (i * 3) 2) rfl Sz.h rfl (hownN.ext e11) (by omega) ?_
            intro w12 c12 hz12 hown12
            rw [cells_safe (s := body) hie hx'] at hown12
            have hbn2 : ∀ x ∈ blk (.slice A2 body.length c2), w10.heap.size ≤ x ∧ x < w11.heap.size := OB.bin ⟨A2, c2, rfl, ho2⟩
            have hlset : (es.set i ⟨id, body, body, .slice Ab body.length cb, .slice A2 body.length c2⟩).length = es.length := List.length_set
            have E12 : Ext w w12 := Ext.then_iv (E10.ext e11) c12 (by omega)
            have hx12 := ODk.put (x' := ⟨id, body, body, .slice Ab body.length cb, .slice A2 body.length c2⟩) (lo := w5.heap.size) (hi := w6.heap.size) (hi' := w12.heap.size) (d' := doD d ⟨3, name, to, size, data⟩) (Nat.le_refl _) (by omega) hmap (hN.ext e11) (hK.ext e11) (hT.ext e11) q1 q2 q3 hie c12 (fun j hj => .inl (by have := hj.1; have := hj.2; omega)) ⟨_, _, by rw [hlset], by rw [hlset]; exact hown12⟩
              ⟨(hokB.ext e11).ch c12 (fun b hb => by have := hbB b hb; simp only [Iv]; omega), (OB.x ⟨A2, c2, rfl, ho2⟩).ch c12 (fun b hb => by have := hbn2 b hb; simp only [Iv]; omega)⟩
              (by
                show (blk _ ++ blk _).Nodup
                rw [List.nodup_append]
                exact ⟨blk_nodup _, blk_nodup _, fun x hx y hy e => by
                  have h1 := q1 x (hbx x (List.mem_append.2 (.inl hx)))
                  have h2 := hbn2 y hy
                  omega⟩)
              (fun b hb => by
                rcases List.mem_append.1 hb with hb | hb
                · left; rw [hx']; exact List.mem_append.2 (.inl hb)
                · right; have := hbn2 b hb; omega) (by omega) (by rw [hdo]; rfl) (by rw [hdo]) (by rw [hdo])
            repeat' (first | apply Jbq | apply Jbx)
            refine TN_join () (subEnv_cons rfl (subEnv_cons rfl (subEnv_nil _))) ⟨E12, by omega, (hb4.ext e11).ch c12 (by simp only [Iv]; omega), rfl, _, sk1, st1, ?_, hx12⟩
            have hb612 := (hb6.ext e11).ch c12 (by simp only [Iv]; omega)
            rw [hdo]
            exact hb612
          · obtain ⟨hz0, hz1⟩ := p6 rfl
            have hc4' : size ≤ (body.length : Int) := by
              have h1 := hc4 rfl
              rw [hoI _ _ _ _ _ rfl, hbodyE] at h1
              exact h1
            have hdo : doD d ⟨4, name, to, size, data⟩ = { d with fuse := fuseOf d, nodes := d.nodes.set i (id, body.take size.toNat, safe) } := by
              unfold doD
              rw [if_neg (by simp), if_neg (by simp), if_neg (by simp), if_pos rfl]
              unfold ndPut
              rw [hoA _ _ _ _ _ rfl, hndA _ _ _ _ _ rfl]
            have hcapB := hownB.cap.1
            obtain ⟨A1, c1, hv1, hc1', hr1⟩ := RB.to (k := size) hownB.rd ⟨hz0, hc4'⟩ hcapB
            repeat' (first | apply Jbq | apply Jbr | apply Jbs | apply Jbt | apply Jby | (refine Jce rfl ?_) | (refine Jcf rfl ?_) | (apply Jcg; (first | exact Jab rfl | exact Jak rfl rfl | (apply Jbl; exact Us.h; exact rfl; exact Sz.h; exact rfl)); exact rfl) | refine Jcg (Pu_load Fl.h rfl (fun _ e => by rw [e]; exact hb3.ld rfl)) rfl ?_)
            refine TC_anyB (fun w' => Ch (Iv gN (gN + 1)) w10 w') (fun w' => Ext w10 w') 11 mixed rfl (Ch.refl _ _).drew (Ch.refl _ _).drew ?_
            intro w11 e11 hz11 hA hB
            (refine TB_take 0 rfl rfl rfl (by kernel_rfl) (by kernel_rfl) (by kernel_rfl) (fun _ _ _ h => h) ⟨hA, fun _ => hB⟩ (by exact Jaa rfl) rfl ?_; refine TB_take 1 rfl rfl rfl (by kernel_rfl) (by kernel_rfl) (by kernel_rfl) (fun _ _ _ h => h) ⟨hA, fun _ => hB⟩ (by exact Jaa rfl) rfl ?_; refine TB_take 2 rfl rfl rfl (by kernel_rfl) (by kernel_rfl) (by kernel_rfl) (fun _ _ _ h => h) ⟨hA, fun _ => hB⟩ (by exact Jba rfl) rfl ?_; refine TB_take 3 rfl rfl rfl (by kernel_rfl) (by kernel_rfl) (by kernel_rfl) (fun _ _ _ h => h) ⟨hA, fun _ => hB⟩ (by (apply Jbl; exact Us.h; exact rfl; exact Sz.h; exact rfl)) rfl ?_; refine TB_take 5 rfl rfl rfl (by kernel_rfl) (by kernel_rfl) (by kernel_rfl) (fun _ _ _ h => h) ⟨hA, fun _ => hB⟩ (by (apply Jbl; exact Us.h; exact rfl; exact Sz.h; exact rfl)) rfl ?_; refine TB_take 6 rfl rfl rfl (by kernel_rfl) (by kernel_rfl) (by kernel_rfl) (fun _ _ _ h => h) ⟨hA, fun _ => hB⟩ (by exact Pu_load Fl.h rfl (fun _ e => Ch.cell e (hb3.ld rfl) (by rw [block_of_add]; simp only [Iv]; omega))) rfl ?_)
            (refine TB_takeB 4 rfl rfl rfl (by kernel_rfl) rfl (by kernel_rfl) (by kernel_rfl) (by kernel_rfl) (fun _ _ _ h => h) ⟨hA, fun _ => hB⟩ (by exact Pu_load Fl.h rfl (fun _ e => Ext.cell e.2 hcb)) rfl ?_)
            (refine TB_take 7 rfl rfl rfl (by kernel_rfl) (by kernel_rfl) (by kernel_rfl) (fun _ _ _ h => h) ⟨hA, fun _ => hB⟩ (by exact Jbe Us.h Sz.h rfl rfl (by omega)) rfl ?_)
            rw [hv1]
            refine TB_one 8 (by kernel_rfl) rfl ?_
            refine TL_call rfl en71 (copyBytes_c (hr1.ext e11) (by rw [List.length_take]; omega)) rfl rfl ?_
            rintro _ w12 ⟨A2, c2, rfl, e12, ho2⟩
            have e1012 := e11.ext e12
            replace hA := hA.ext e12
            replace hB := hB.ext e12
            refine Jbq (TN_anyB ⟨hA, fun _ => hB⟩ ?_)
            (refine TB_take 9 rfl rfl rfl (by kernel_rfl) (by kernel_rfl) (by kernel_rfl) (fun _ _ _ h => h) ⟨hA, fun _ => hB⟩ (by exact Jba rfl) rfl ?_; refine TB_take 10 rfl rfl rfl (by kernel_rfl) (by kernel_rfl) (by kernel_rfl) (fun _ _ _ h => h) ⟨hA, fun _ => hB⟩ (by (apply Jbl; exact Us.h; exact rfl; exact Sz.h; exact rfl)) rfl ?_)
            refine TB_one 11 (by kernel_rfl) rfl ?_
            refine TL_storeOwn rfl (add_lit3 gN (i * 3) 1) rfl Sz.h rfl (hownN.ext e1012) (by omega) ?_
            intro w13 c13 hz13 hown13
            refine Jbq (TN_anyB ⟨hA.then c13, fun h => nomatch (show true = false from h)⟩ ?_)
            refine TB_done (by kernel_rfl) ?_
            have hs11 := e11.size
            have hs12 := e12.size
            rw [cells_body (s := body.take size.toNat) hie hx'] at hown13
            have hbn2 : ∀ x ∈ blk (.slice A2 (body.take size.toNat).length c2), w11.heap.size ≤ x ∧ x < w12.heap.size := OB.bin ⟨A2, c2, rfl, ho2⟩
            have hlset : (es.set i ⟨id, body.take size.toNat, safe, .slice A2 (body.take size.toNat).length c2, .slice As safe.length cs⟩).length = es.length := List.length_set
            have E13 : Ext w w13 := Ext.then_iv (E10.ext e1012) c13 (by omega)
            have hx13 := ODk.put (x' := ⟨id, body.take size.toNat, safe, .slice A2 (body.take size.toNat).length c2, .slice As safe.length cs⟩) (lo := w5.heap.size) (hi := w6.heap.size) (hi' := w13.heap.size) (d' := doD d ⟨4, name, to, size, data⟩) (Nat.le_refl _) (by omega) hmap (hN.ext e1012) (hK.ext e1012) (hT.ext e1012) q1 q2 q3 hie c13 (fun j hj => .inl (by have := hj.1; have := hj.2; omega)) ⟨_, _, by rw [hlset], by rw [hlset]; exact hown13⟩
              ⟨(OB.x ⟨A2, c2, rfl, ho2⟩).ch c13 (fun b hb => by have := hbn2 b hb; simp only [Iv]; omega), (hokS.ext e1012).ch c13 (fun b hb => by have := hbS b hb; simp only [Iv]; omega)⟩
              (by
                show (blk _ ++ blk _).Nodup
                rw [List.nodup_append]
                exact ⟨blk_nodup _, blk_nodup _, fun x hx y hy e => by
                  have h1 := hbS y hy
                  have h2 := hbn2 x hx
                  omega⟩)
              (fun b hb => by
                rcases List.mem_append.1 hb with hb | hb
                · right; have := hbn2 b hb; omega
                · left; rw [hx']; exact List.mem_append.2 (.inr hb)) (by omega) (by rw [hdo]; rfl) (by rw [hdo]) (by rw [hdo])
            repeat' (apply Jbx)
            refine TN_join () (subEnv_cons rfl (subEnv_cons rfl (subEnv_nil _))) ⟨E13, by omega, (hb4.ext e1012).ch c13 (by simp only [Iv]; omega), rfl, _, sk1, st1, ?_, hx13⟩
            have hb613 := (hb6.ext e1012).ch c13 (by simp only [Iv]; omega)
            rw [hdo]
            exact hb613
          · have hdo : doD d ⟨kind, name, to, size, data⟩ = { d with fuse := fuseOf d, turns := d.turns ++ [⟨kind, name, to, 0⟩] } := by
              unfold doD
              rw [if_neg (by simp only; omega), if_neg (by simp only; omega), if_neg (by simp only; omega), if_neg (by simp only; omega), if_neg (by simp only; omega)]
            have hct' := hct (.inr hk56)
            have hC0 : doC d ⟨kind, name, to, size, data⟩ = 0 := by unfold doC; rw [if_neg (by simp only; omega)]
            have key : ∀ w11 g11, Ext w10 w11 → g11 = w10.heap.size → w11.heap.size = g11 + 1 → ∀ w12 st2, Ch (fun j => j ∈ blk st1) w11 w12 → (blk st2 = blk st1 ∨ (blk st2 = [w11.heap.size] ∧ w11.heap.size < w12.heap.size)) → RowOx TnC 121 4 w12 st2 (d.turns ++ [⟨kind, name, to, 0⟩]) → ∀ w13, Ch (Iv g6 (g6 + 1)) w12 w13 → w13.heap.size = w12.heap.size →
                Blk w13 g6 33 [I d.room, I (fuseOf d), I d.next, .slice (some ⟨gN, 0, none⟩) es.length cN, sk1, st2] →
                (Ext w w13 ∧ w10.heap.size ≤ w13.heap.size ∧ Blk w13 g4 33 (dskC noDk (.slice none 0 0) (.slice none 0 0) (.slice none 0 0)) ∧ doC d ⟨kind, name, to, size, data⟩ = 0 ∧ ∃ sn' sk' st', Blk w13 g6 33 (dskC (doD d ⟨kind, name, to, size, data⟩) sn' sk' st') ∧ ODk w13 w5.heap.size w13.heap.size (doD d ⟨kind, name, to, size, data⟩) sn' sk' st') := by
              intro w11 g11 e11 hg11 hz11 w12 st2 c12 loc12 hT12 w13 c13 hz13 hb613
              have hs12 := c12.size
              have hst2 : ∀ b ∈ blk st2, (w5.heap.size ≤ b ∧ b < w6.heap.size ∧ b ∈ blk st1) ∨ (w11.heap.size ≤ b ∧ b < w12.heap.size) := fun b hb => by
                rcases loc12 with h | ⟨h, h2⟩
                · rw [h] at hb; have := q3 b hb; exact .inl ⟨this.1, this.2, hb⟩
                · rw [h] at hb; rw [List.mem_singleton.1 hb]; exact .inr ⟨Nat.le_refl _, h2⟩
              have hN13 := ((hN.ext e11).ch c12 (fun b hb => (q1 b hb).2.2.2)).ch c13 (fun b hb => by have := q1 b hb; simp only [Iv]; omega)
              have hK13 := ((hK.ext e11).ch c12 (fun b hb => (q2 b hb).2.2)).ch c13 (fun b hb => by have := q2 b hb; simp only [Iv]; omega)
              have hT13 := hT12.ch c13 (fun b hb => by have := hst2 b hb; simp only [Iv]; omega)
              have hb413 := ((hb4.ext e11).ch c12 (fun hb => by have := q3 g4 hb; omega)).ch c13 (by simp only [Iv]; omega)
              have E12 : Ext w w12 := (E10.ext e11).trans c12 (fun _ _ t => t) (fun j hj t => by have := q3 j t; omega)
              refine ⟨Ext.then_iv E12 c13 (by omega), by omega, hb413, hC0, _, sk1, st2, by rw [hdo]; exact hb613, ODk.mk3 (es := es) (Nat.le_refl _) (by rw [hdo]; exact hmap) hN13 (by rw [hdo]; exact hK13) (by rw [hdo]; exact hT13) (fun b hb => ?_) (fun b hb => by have h1 := q2 b hb; exact ⟨h1.1, by omega, fun h => by rcases hst2 b h with h2 | h2; exact h1.2.2 h2.2.2; omega⟩) (fun b hb => by have h1 := hst2 b hb; omega)⟩
              have h1 := q1 b hb
              exact ⟨h1.1, by omega, h1.2.2.1, fun h => by rcases hst2 b h with h2 | h2; exact h1.2.2.2 h2.2.2; omega⟩
            have hg6 : ∀ b ∈ blk st1, b ≠ g6 := fun b hb => by have := q3 b hb; omega
            rcases hk56 with rfl | rfl
            · repeat' (first | apply Jbq | apply Jbr | apply Jbs | apply Jbt | apply Jby | apply Jbz | (refine Jce rfl ?_) | (refine Jcf rfl ?_) | (apply Jcg; (first | exact Jab rfl | exact Jak rfl rfl | (apply Jbl; exact Us.h; exact rfl; exact Sz.h; exact rfl)); exact rfl) | refine Jcg (Pu_load Fl.h rfl (fun _ e => by rw [e]; exact hb6.ld rfl)) rfl ?_ | refine Jcg (Pu_load Fl.h rfl (fun _ e => by rw [e]; exact hb3.ld rfl)) rfl ?_ | refine Jcg (Pu_build (cs := TnC ⟨5, name, to, 0⟩) rfl (by kernel_rfl)) rfl ?_)
              refine TL_buildSlice Us.h Zi.h rfl rfl rfl rfl (fillT ⟨5, name, to, 0⟩) rfl rfl ?_
              intro w11 g11 e11 hg11 hz11 hown11
              skip
              refine TL_appendOx Us.h Inf.h rfl rfl rfl TnC_one rfl rfl (hT.ext e11) (RowO.new (l := [(⟨5, name, to, 0⟩ : TnD)]) rfl hown11 hg11 hz11).rd (by simp only [List.length_cons, List.length_nil]; omega) rfl ?_
              intro w12 st2 c12 loc12 hT12
              repeat' ((apply Jcg; (apply Jbl; exact Us.h; exact rfl; exact Sz.h; exact rfl); exact rfl))
              refine TL_store rfl rfl Sz.h hT12.one ((hb6.ext e11).ch c12 (fun hb => hg6 g6 hb rfl)) rfl ?_
              intro w13 c13 hz13 hb613
              repeat' (first | apply Jbq | apply Jbx)
              exact TN_join () (subEnv_cons rfl (subEnv_cons rfl (subEnv_nil _))) (key w11 g11 e11 hg11 hz11 w12 st2 c12 loc12 hT12 w13 c13 hz13 hb613)
            · repeat' (first | apply Jbq | apply Jbr | apply Jbs | apply Jbt | apply Jby | (refine Jce rfl ?_) | (refine Jcf rfl ?_) | (apply Jcg; (first | exact Jab rfl | exact Jak rfl rfl | (apply Jbl; exact Us.h; exact rfl; exact Sz.h; exact rfl)); exact rfl) | refine Jcg (Pu_load Fl.h rfl (fun _ e => by rw [e]; exact hb6.ld rfl)) rfl ?_ | refine Jcg (Pu_load Fl.h rfl (fun _ e => by rw [e]; exact hb3.ld rfl)) rfl ?_ | refine Jcg (Pu_build (cs := TnC ⟨6, name, to, 0⟩) rfl (by kernel_rfl)) rfl ?_)
              refine TL_buildSlice Us.h Zi.h rfl rfl rfl rfl (fillT ⟨6, name, to, 0⟩) rfl rfl ?_
              intro w11 g11 e11 hg11 hz11 hown11
              skip
              refine TL_appendOx Us.h Inf.h rfl rfl rfl TnC_one rfl rfl (hT.ext e11) (RowO.new (l := [(⟨6, name, to, 0⟩ : TnD)]) rfl hown11 hg11 hz11).rd (by simp only [List.length_cons, List.length_nil]; omega) rfl ?_
              intro w12 st2 c12 loc12 hT12
              repeat' ((apply Jcg; (apply Jbl; exact Us.h; exact rfl; exact Sz.h; exact rfl); exact rfl))
              refine TL_store rfl rfl Sz.h hT12.one ((hb6.ext e11).ch c12 (fun hb => hg6 g6 hb rfl)) rfl ?_
              intro w13 c13 hz13 hb613
              repeat' (first | apply Jbq | apply Jbx)
              exact TN_join () (subEnv_cons rfl (subEnv_cons rfl (subEnv_nil _))) (key w11 g11 e11 hg11 hz11 w12 st2 c12 loc12 hT12 w13 c13 hz13 hb613)
        rintro _ w20 ⟨E20, hs20, hb420, hC0, sn2, sk2, st2, hb620, hx20⟩
        have hone2 := hx20.one
        repeat' (first | apply Jbs | apply Jbt | refine Jcg (Pu_loadAgg (cs := dskC (doD d ⟨kind, name, to, size, data⟩) sn2 sk2 st2) Us.h rfl Sz.h rfl (fun _ e j u hu => by rw [e, add0, hb620.cell]; exact hu)) rfl ?_)
        refine TL_storeAgg rfl rfl Sz.h hone2 hb420 rfl ?_
        intro w21 c21 hz21 hb21
        repeat' (first | apply Jbq | apply Jbr | apply Jbu | (apply Jcg; exact Jab rfl; exact rfl))
        exact TR_of (resA1 rfl rfl rfl hb21 Us.h rfl Sz.h) ⟨sn2, sk2, st2, by rw [hC0], Ext.then_iv E20 c21 (by omega), (hx20.ch c21 (by intro k _ _; simp only [Iv]; omega)).wide (by omega) (by omega) (Nat.le_refl _)⟩
end Go.Proofs.YtggaghghclomkaaGreat

/- Contracts: one operation on the disk of a doer, and of a store. -/
namespace Go.Proofs.YtggaghghclomkaaGreat
open Go.RowKit
theorem rbn (w : World) : RB w 0 w.heap.size (.slice none 0 0) [] := ⟨none, 0, rfl, Nat.le_refl _, ⟨rfl, Nat.le_refl _, fun h => absurd h (by simp)⟩⟩
theorem stepD_fits {x : DiskP × Int} {o : OpD} (h : x.1.fits) : (stepD x o).1.fits := by unfold stepD; split; exact pDo_fits _ _; exact h
theorem stepD_tot {x : DiskP × Int} {o : OpD} (h : totD x.1 ≤ 1048576) : totD (stepD x o).1 ≤ 1048576 := by unfold stepD; split; exact pDo_tot _ _; exact h
/-- A disk and a code, as they lie in a doer. -/
def drC (d : DiskP) (sn sk st : Value) (c : Int) : List Value := [I d.room, I d.fuse, I d.next, sn, sk, st, I c]
theorem drC_disk {d : DiskP} {sn sk st : Value} {c : Int} {j : Nat} {u : Value} (h : (dskC d sn sk st)[j]? = some u) : (drC d sn sk st c)[j]? = some u := by
  have hl : j < (dskC d sn sk st).length := (List.getElem?_eq_some_iff.1 h).1
  rw [show drC d sn sk st c = dskC d sn sk st ++ [I c] from rfl, List.getElem?_append_left hl, h]
structure DrX (w : World) (g : Nat) (x : DiskP × Int) (sn sk st : Value) (lo hi : Nat) : Prop where
  blk : Blk w g 133 (drC x.1 sn sk st x.2)
  own : ODk w lo hi x.1 sn sk st
  apart : hi ≤ g ∨ g < lo
  fits : x.1.fits
  tot : totD x.1 ≤ 1048576
theorem DrX.ch {w w' : World} {g : Nat} {x : DiskP × Int} {sn sk st : Value} {lo hi : Nat} {T : Nat → Prop} (h : DrX w g x sn sk st lo hi) (c : Ch T w w') (h1 : ¬ T g) (h2 : ∀ k, lo ≤ k → k < hi → ¬ T k) : DrX w' g x sn sk st lo hi := ⟨h.blk.ch c h1, h.own.ch c h2, h.apart, h.fits, h.tot⟩
theorem DrX.ext {w w' : World} {g : Nat} {x : DiskP × Int} {sn sk st : Value} {lo hi : Nat} (h : DrX w g x sn sk st lo hi) (c : Ext w w') : DrX w' g x sn sk st lo hi := h.ch c (fun t => t) (fun _ _ _ t => t)
theorem DrX.ld {w : World} {g : Nat} {x : DiskP × Int} {sn sk st : Value} {lo hi : Nat} (h : DrX w g x sn sk st lo hi) : ∀ j u, (dskC x.1 sn sk st)[j]? = some u → w.cell? (((⟨g, 0, none⟩ : Addr).add 0).add j) = some u := fun j u hu => by
  rw [add_of_add, add0, Nat.zero_add, h.blk.cell]; exact drC_disk hu
attribute [local irreducible] TL TC TN TX TR TQ TA Pu Ret
set_option maxRecDepth 100000 in
set_option maxHeartbeats 4000000 in
theorem do_c {w : World} {g lo hi lo2 hi2 : Nat} {x : DiskP × Int} {sn sk st vo : Value} {o : OpD} (h : DrX w g x sn sk st lo hi) (ho : RB w lo2 hi2 vo o.data) (hof : o.fits) :
    Ret Tryz.prog 102 #[.pointer (some ⟨g, 0, none⟩), .agg (opC o vo).toArray] w fun v w' => v = .tuple #[] ∧ Ch (Iv g (g + 1)) w w' ∧ ∃ sn' sk' st' lo' hi', DrX w' g (stepD x o) sn' sk' st' lo' hi' ∧ ((lo' = lo ∧ hi' = hi) ∨ (w.heap.size ≤ lo' ∧ hi' ≤ w'.heap.size)) := by
  have hg := h.blk.lt
  refine Ret_enter Tryz.func102 rfl rfl rfl ?_
  repeat' (first | apply Jbs | apply Jbt)
  refine TL_box (cs := opC o vo) rfl rfl ?_
  intro w1 g3 e1 hg3 hz1 hb3
  have h1 := h.ext e1
  have hb1 := h1.blk
  repeat' (first | apply Jbq | apply Jbr | apply Jbs | apply Jbt | (apply Jcg; (first | exact Jaa rfl | exact Jak rfl rfl | exact Jba rfl | (apply Jbl; exact Us.h; exact rfl; exact Sz.h; exact rfl)); exact rfl) | refine Jcg (Pu_load Fl.h rfl (fun _ e => by rw [e]; exact hb1.ld rfl)) rfl ?_)
  refine Jcx rfl (fun h0 => ?_) (fun h0 => ?_)
  · have hld := h1.ld
    skip
    refine TC_anyB (fun w' => Ch (Iv g (g + 1)) w1 w') (fun w' => ∀ j u, (dskC x.1 sn sk st)[j]? = some u → w'.cell? (((⟨g, 0, none⟩ : Addr).add 0).add j) = some u) 13 mixed rfl (Ch.refl _ _).drew (fun j u hu => Ext.cell (Ch.refl _ _).drew (hld j u hu)) ?_
    intro w2 e2 hz2 hA hB
    (refine TB_take 0 rfl rfl rfl (by kernel_rfl) (by kernel_rfl) (by kernel_rfl) (fun _ _ _ h => h) ⟨hA, fun _ => hB⟩ (by exact Jaa rfl) rfl ?_; refine TB_take 1 rfl rfl rfl (by kernel_rfl) (by kernel_rfl) (by kernel_rfl) (fun _ _ _ h => h) ⟨hA, fun _ => hB⟩ (by exact Jaa rfl) rfl ?_; refine TB_take 2 rfl rfl rfl (by kernel_rfl) (by kernel_rfl) (by kernel_rfl) (fun _ _ _ h => h) ⟨hA, fun _ => hB⟩ (by exact Jaa rfl) rfl ?_; refine TB_take 3 rfl rfl rfl (by kernel_rfl) (by kernel_rfl) (by kernel_rfl) (fun _ _ _ h => h) ⟨hA, fun _ => hB⟩ (by exact Jba rfl) rfl ?_; refine TB_take 4 rfl rfl rfl (by kernel_rfl) (by kernel_rfl) (by kernel_rfl) (fun _ _ _ h => h) ⟨hA, fun _ => hB⟩ (by (apply Jbl; exact Us.h; exact rfl; exact Sz.h; exact rfl)) rfl ?_; refine TB_take 6 rfl rfl rfl (by kernel_rfl) (by kernel_rfl) (by kernel_rfl) (fun _ _ _ h => h) ⟨hA, fun _ => hB⟩ (by exact Pu_loadAgg (cs := opC o vo) Us.h rfl Sz.h rfl (fun _ e j u hu => Ch.cell e (by rw [add0, hb3.cell]; exact hu) (by rw [block_of_add]; simp only [Iv]; omega))) rfl ?_)
    (refine TB_takeB 5 rfl rfl rfl (by kernel_rfl) rfl (by kernel_rfl) (by kernel_rfl) (by kernel_rfl) (fun _ _ _ h => h) ⟨hA, fun _ => hB⟩ (by exact Pu_loadAgg (cs := dskC x.1 sn sk st) Us.h rfl Sz.h rfl (fun _ e => e.2)) rfl ?_)
    refine TB_one 7 (by kernel_rfl) rfl ?_
    have h2 := h1.ext e2
    refine TL_call rfl en24 (implDiskDo_c h2.own.rd h2.fits h2.tot (ho.ext (e1.ext e2)) hof) rfl rfl ?_
    rintro _ w3 ⟨sn3, sk3, st3, rfl, e3, hx3⟩
    have hs2 := e2.size
    have hs3 := e3.size
    have hone := hx3.one
    replace hA := hA.ext e3
    replace hB := fun j u hu => Ext.cell e3 (hB j u hu)
    refine Jbq (TN_anyB ⟨hA, fun _ => hB⟩ ?_)
    (refine TB_take 8 rfl rfl rfl (by kernel_rfl) (by kernel_rfl) (by kernel_rfl) (fun _ _ _ h => h) ⟨hA, fun _ => hB⟩ (by exact Jaa rfl) rfl ?_; refine TB_take 9 rfl rfl rfl (by kernel_rfl) (by kernel_rfl) (by kernel_rfl) (fun _ _ _ h => h) ⟨hA, fun _ => hB⟩ (by exact Jae rfl rfl) rfl ?_; refine TB_take 10 rfl rfl rfl (by kernel_rfl) (by kernel_rfl) (by kernel_rfl) (fun _ _ _ h => h) ⟨hA, fun _ => hB⟩ (by exact Jae rfl rfl) rfl ?_; refine TB_take 11 rfl rfl rfl (by kernel_rfl) (by kernel_rfl) (by kernel_rfl) (fun _ _ _ h => h) ⟨hA, fun _ => hB⟩ (by exact Jba rfl) rfl ?_; refine TB_take 12 rfl rfl rfl (by kernel_rfl) (by kernel_rfl) (by kernel_rfl) (fun _ _ _ h => h) ⟨hA, fun _ => hB⟩ (by (apply Jbl; exact Us.h; exact rfl; exact Sz.h; exact rfl)) rfl ?_)
    refine TB_one 13 (by kernel_rfl) rfl ?_
    have hb13 := (h2.ext e3).blk
    refine TL_storeBlk rfl (add0 g 0) rfl Sz.h hone hb13 (by show 0 + 6 ≤ 7; omega) ?_
    intro w4 c4 hz4 hb4
    have hS : setL (drC x.1 sn sk st x.2) 0 (dskC (pDo x.1 o).1 sn3 sk3 st3) = drC (pDo x.1 o).1 sn3 sk3 st3 x.2 := rfl
    rw [hS] at hb4
    refine Jbq (TN_anyB ⟨hA.then c4, fun h => nomatch (show true = false from h)⟩ ?_)
    replace hA := hA.then c4
    (refine TB_take 14 rfl rfl rfl (by kernel_rfl) (by kernel_rfl) (by kernel_rfl) (fun _ _ _ h => h) ⟨hA, fun h => nomatch (show true = false from h)⟩ (by exact Jba rfl) rfl ?_; refine TB_take 15 rfl rfl rfl (by kernel_rfl) (by kernel_rfl) (by kernel_rfl) (fun _ _ _ h => h) ⟨hA, fun h => nomatch (show true = false from h)⟩ (by (apply Jbl; exact Us.h; exact rfl; exact Sz.h; exact rfl)) rfl ?_)
    refine TB_one 16 (by kernel_rfl) rfl ?_
    refine TL_store rfl rfl Sz.h rfl hb4 rfl ?_
    intro w5 c5 hz5 hb5
    refine Jbq (TN_anyB ⟨hA.then c5, fun h => nomatch (show true = false from h)⟩ ?_)
    refine TB_done (by kernel_rfl) ?_
    skip
    have hst : stepD x o = pDo x.1 o := by unfold stepD; rw [if_pos h0]
    refine TN_of (res0 rfl) ⟨rfl, ((((Ch.mono e1 (fun _ t => t.elim)).ext e2).ext e3).then c4).then c5, sn3, sk3, st3, w2.heap.size, w3.heap.size, ⟨?_, ?_, ?_, stepD_fits h.fits, stepD_tot h.tot⟩, .inr ⟨?_, ?_⟩⟩
    · rw [hst]; exact hb5
    · rw [hst]; exact (hx3.ch c4 (by intro k _ _; simp only [Iv]; omega)).ch c5 (by intro k _ _; simp only [Iv]; omega)
    · right; omega
    · omega
    · omega
  · repeat' (apply Jbz)
    have hst : stepD x o = x := by unfold stepD; rw [if_neg h0]
    exact TN_of (res0 rfl) ⟨rfl, Ch.mono e1 (fun _ t => t.elim), sn, sk, st, lo, hi, by rw [hst]; exact h1, .inl ⟨rfl, rfl⟩⟩
/-- A store of which the disk is being worked on. -/
structure StX (w : World) (g : Nat) (s : StoreP) (sn sk st sl : Value) (lo hi : Nat) : Prop where
  blk : Blk w g 66 (stoC s sn sk st sl)
  own : ODk w lo hi s.disk sn sk st
  apart : hi ≤ g ∨ g < lo
  fits : s.disk.fits
  tot : totD s.disk ≤ 1048576
theorem StX.ch {w w' : World} {g : Nat} {s : StoreP} {sn sk st sl : Value} {lo hi : Nat} {T : Nat → Prop} (h : StX w g s sn sk st sl lo hi) (c : Ch T w w') (h1 : ¬ T g) (h2 : ∀ k, lo ≤ k → k < hi → ¬ T k) : StX w' g s sn sk st sl lo hi := ⟨h.blk.ch c h1, h.own.ch c h2, h.apart, h.fits, h.tot⟩
theorem StX.ext {w w' : World} {g : Nat} {s : StoreP} {sn sk st sl : Value} {lo hi : Nat} (h : StX w g s sn sk st sl lo hi) (c : Ext w w') : StX w' g s sn sk st sl lo hi := h.ch c (fun t => t) (fun _ _ _ t => t)
theorem StX.ld {w : World} {g : Nat} {s : StoreP} {sn sk st sl : Value} {lo hi : Nat} (h : StX w g s sn sk st sl lo hi) : ∀ j u, (dskC s.disk sn sk st)[j]? = some u → w.cell? (((⟨g, 0, none⟩ : Addr).add 0).add j) = some u := fun j u hu => by
  rw [add_of_add, add0, Nat.zero_add, h.blk.cell]; exact stoC_disk hu
def opOf (kind : Int) (s : List UInt8) : OpD := ⟨kind, s, if kind = 5 then histT else [], 0, []⟩
set_option maxRecDepth 100000 in
set_option maxHeartbeats 4000000 in
theorem l06Do_c {w : World} {g lo hi : Nat} {s : StoreP} {sn sk st sl : Value} {kind : Int} {name : List UInt8} (h : StX w g s sn sk st sl lo hi) (hof : (opOf kind name).fits) :
    Ret Tryz.prog 105 #[.pointer (some ⟨g, 0, none⟩), I kind, S name] w fun v w' => v = I (pDo s.disk (opOf kind name)).2 ∧ Ch (Iv g (g + 1)) w w' ∧ ∃ sn' sk' st' lo' hi', StX w' g { s with disk := (pDo s.disk (opOf kind name)).1 } sn' sk' st' sl lo' hi' ∧ w.heap.size ≤ lo' ∧ hi' ≤ w'.heap.size := by
  have hg := h.blk.lt
  refine Ret_enter Tryz.func105 rfl rfl rfl ?_
  repeat' (first | apply Jbq | apply Jbr | apply Jbs | apply Jbt | (apply Jcg; (first | exact Jaa rfl | exact Jab rfl); exact rfl) | refine Jcg (Pu_build (cs := opC ⟨kind, name, [], 0, []⟩ (.slice none 0 0)) rfl (by kernel_rfl)) rfl ?_)
  refine TL_alloc Zs.h rfl rfl ?_
  intro w1 g7 e1 hg7 hz1 hb7
  skip
  refine TL_storeAgg rfl rfl Sz.h rfl hb7 rfl ?_
  clear hb7
  intro w2 c2 hz2 hb7
  have E2 : Ext w w2 := Ext.then_iv e1 c2 (by omega)
  repeat' (first | apply Jbq | apply Jbr)
  refine TC_join (ι := Unit) (fun _ => [(0, .pointer (some ⟨g, 0, none⟩)), (7, .pointer (some ⟨g7, 0, none⟩))]) (fun _ w' => Ext w w' ∧ w'.heap.size = w2.heap.size ∧ Blk w' g7 49 (opC (opOf kind name) (.slice none 0 0))) ?_ ?_
  · repeat' (first | apply Jbq | apply Jbr | apply Jbs | apply Jbt | (apply Jcg; (first | exact Jaa rfl | exact Jak rfl rfl); exact rfl))
    refine Jcx rfl (fun h5 => ?_) (fun h5 => ?_)
    · repeat' (first | apply Jbt | (apply Jcg; (apply Jbl; exact Us.h; exact rfl; exact Sz.h; exact rfl); exact rfl))
      refine TL_store rfl rfl Sz.h rfl hb7 rfl ?_
      intro w3 c3 hz3 hb73
      repeat' (apply Jbq)
      refine TN_join () (subEnv_cons rfl (subEnv_cons rfl (subEnv_nil _))) ⟨Ext.then_iv E2 c3 (by omega), by omega, ?_⟩
      unfold opOf
      rw [if_pos h5]
      exact hb73
    · repeat' (apply Jbz)
      refine TN_join () (subEnv_cons rfl (subEnv_cons rfl (subEnv_nil _))) ⟨E2, rfl, ?_⟩
      unfold opOf
      rw [if_neg h5]
      exact hb7
  clear hb7 E2 c2 e1
  rintro _ w3 ⟨E3, hz3, hb7⟩
  have h3 := h.ext E3
  have hld := h3.ld
  obtain ⟨o, hoq⟩ : ∃ o, o = opOf kind name := ⟨_, rfl⟩
  have hdat : o.data = [] := by rw [hoq]; rfl
  rw [← hoq] at hb7 hof ⊢
  have hrb : ∀ w', RB w' 0 w'.heap.size (.slice none 0 0) o.data := fun w' => by rw [hdat]; exact rbn w'
  skip
  refine TC_join (ι := Value × Value × Value × Nat × Nat × Nat) (fun x => [(0, .pointer (some ⟨g, 0, none⟩)), (8, .pointer (some ⟨x.2.2.2.1, 0, none⟩)), (9, I (pDo s.disk o).2)]) (fun x w' => Ext w3 w' ∧ Blk w' x.2.2.2.1 33 (dskC (pDo s.disk o).1 x.1 x.2.1 x.2.2.1) ∧ ODk w' x.2.2.2.2.1 x.2.2.2.2.2 (pDo s.disk o).1 x.1 x.2.1 x.2.2.1 ∧ w3.heap.size ≤ x.2.2.2.2.1 ∧ x.2.2.2.2.2 ≤ w'.heap.size) ?_ ?_
  · skip
    refine TC_any mixed rfl ?_
    intro w4 hE hz4
    have hs4 := hE.size
    (refine Jco 0 rfl (by kernel_rfl) (by kernel_rfl) (by kernel_rfl) (fun _ _ _ h => h) hE (by exact Jaa rfl) rfl ?_; refine Jco 1 rfl (by kernel_rfl) (by kernel_rfl) (by kernel_rfl) (fun _ _ _ h => h) hE (by exact Jba rfl) rfl ?_; refine Jco 2 rfl (by kernel_rfl) (by kernel_rfl) (by kernel_rfl) (fun _ _ _ h => h) hE (by (apply Jbl; exact Us.h; exact rfl; exact Sz.h; exact rfl)) rfl ?_; refine Jco 3 rfl (by kernel_rfl) (by kernel_rfl) (by kernel_rfl) (fun _ _ _ h => h) hE (by exact Pu_loadAgg (cs := dskC s.disk sn sk st) Us.h rfl Sz.h rfl (fun _ e j u hu => Ext.cell e (hld j u hu))) rfl ?_; refine Jco 4 rfl (by kernel_rfl) (by kernel_rfl) (by kernel_rfl) (fun _ _ _ h => h) hE (by exact Pu_loadAgg (cs := opC o (.slice none 0 0)) Us.h rfl Sz.h rfl (fun _ e j u hu => Ext.cell e (by rw [add0, hb7.cell]; exact hu))) rfl ?_)
    refine TA_two 5 9 (by kernel_rfl) rfl rfl ?_ ?_
    · refine TL_call rfl en22 (specDiskDo_c (h3.own.rd.ext hE) h3.fits h3.tot (hrb _) hof) rfl rfl ?_
      rintro _ w5 ⟨sn5, sk5, st5, rfl, e5, hx5⟩
      have hs5 := e5.size
      have hone := hx5.one
      have hE5 := hE.ext e5
      clear hE
      have hE := hE5
      refine Jbq (TN_any hE ?_)
      (refine Jco 6 rfl (by kernel_rfl) (by kernel_rfl) (by kernel_rfl) (fun _ _ _ h => h) hE (by exact Jaa rfl) rfl ?_; refine Jco 7 rfl (by kernel_rfl) (by kernel_rfl) (by kernel_rfl) (fun _ _ _ h => h) hE (by exact Jae rfl rfl) rfl ?_; refine Jco 8 rfl (by kernel_rfl) (by kernel_rfl) (by kernel_rfl) (fun _ _ _ h => h) hE (by exact Jae rfl rfl) rfl ?_)
      refine TA_one 9 (by kernel_rfl) rfl ?_
      refine TL_alloc Zs.h rfl rfl ?_
      intro w6 g8 e6 hg8 hz6 hb8
      have hE6 := hE.ext e6
      clear hE hE5
      have hE := hE6
      replace hx5 := hx5.ext e6
      refine Jbq (TN_any hE ?_)
      refine TA_one 10 (by kernel_rfl) rfl ?_
      refine TL_storeAgg rfl rfl Sz.h hone hb8 rfl ?_
      clear hb8
      intro w7 c7 hz7 hb8
      have hE7 := Ext.then_iv hE c7 (by omega)
      clear hE hE6
      have hE := hE7
      refine Jbq (TN_any hE ?_)
      (refine Jco 11 rfl (by kernel_rfl) (by kernel_rfl) (by kernel_rfl) (fun _ _ _ h => h) hE (by exact Jab rfl) rfl ?_)
      refine TA_done (by kernel_rfl) ?_
      exact TN_join (sn5, sk5, st5, g8, w4.heap.size, w5.heap.size) (subEnv_cons rfl (subEnv_cons rfl (subEnv_cons rfl (subEnv_nil _)))) ⟨hE, hb8, hx5.ch c7 (by intro k _ _; simp only [Iv]; omega), by simp only; omega, by simp only; omega⟩
    · refine TL_alloc Zs.h rfl rfl ?_
      intro w6 g8 e6 hg8 hz6 hb8
      have hE6 := hE.ext e6
      clear hE
      have hE := hE6
      refine Jbq (TN_any hE ?_)
      refine TA_one 5 (by kernel_rfl) rfl ?_
      refine TL_call rfl en22 (specDiskDo_c (h3.own.rd.ext hE) h3.fits h3.tot (hrb _) hof) rfl rfl ?_
      rintro _ w5 ⟨sn5, sk5, st5, rfl, e5, hx5⟩
      have hs5 := e5.size
      have hone := hx5.one
      have hE5 := hE.ext e5
      clear hE hE6
      have hE := hE5
      replace hb8 := hb8.ext e5
      refine Jbq (TN_any hE ?_)
      (refine Jco 6 rfl (by kernel_rfl) (by kernel_rfl) (by kernel_rfl) (fun _ _ _ h => h) hE (by exact Jaa rfl) rfl ?_; refine Jco 7 rfl (by kernel_rfl) (by kernel_rfl) (by kernel_rfl) (fun _ _ _ h => h) hE (by exact Jae rfl rfl) rfl ?_; refine Jco 8 rfl (by kernel_rfl) (by kernel_rfl) (by kernel_rfl) (fun _ _ _ h => h) hE (by exact Jae rfl rfl) rfl ?_)
      refine TA_one 10 (by kernel_rfl) rfl ?_
      refine TL_storeAgg rfl rfl Sz.h hone hb8 rfl ?_
      clear hb8
      intro w7 c7 hz7 hb8
      have hE7 := Ext.then_iv hE c7 (by omega)
      clear hE hE5
      have hE := hE7
      refine Jbq (TN_any hE ?_)
      (refine Jco 11 rfl (by kernel_rfl) (by kernel_rfl) (by kernel_rfl) (fun _ _ _ h => h) hE (by exact Jab rfl) rfl ?_)
      refine TA_done (by kernel_rfl) ?_
      exact TN_join (sn5, sk5, st5, g8, w6.heap.size, w5.heap.size) (subEnv_cons rfl (subEnv_cons rfl (subEnv_cons rfl (subEnv_nil _)))) ⟨hE, hb8, hx5.ch c7 (by intro k _ _; simp only [Iv]; omega), by simp only; omega, by simp only; omega⟩
  rintro ⟨sn5, sk5, st5, g8, lo5, hi5⟩ w4 ⟨e4, hb8, hx4, hlo, hhi⟩
  simp only at hb8 hx4 hlo hhi
  have hs3 := E3.size
  have h4 := h3.ext e4
  have hone := hx4.one
  have hb4 := h4.blk
  repeat' (first | apply Jbs | apply Jbt | (apply Jcg; (first | exact Jaa rfl | exact Jba rfl | (apply Jbl; exact Us.h; exact rfl; exact Sz.h; exact rfl)); exact rfl) | refine Jcg (Pu_loadAgg (cs := dskC (pDo s.disk o).1 sn5 sk5 st5) Us.h rfl Sz.h rfl (fun _ e j u hu => by rw [e, add0, hb8.cell]; exact hu)) rfl ?_)
  refine TL_storeBlk rfl (add0 g 0) rfl Sz.h hone hb4 (by show 0 + 6 ≤ 10; omega) ?_
  intro w5 c5 hz5 hb5
  have hS : setL (stoC s sn sk st sl) 0 (dskC (pDo s.disk o).1 sn5 sk5 st5) = stoC { s with disk := (pDo s.disk o).1 } sn5 sk5 st5 sl := rfl
  rw [hS] at hb5
  repeat' (first | apply Jbq | apply Jbr | apply Jbs | apply Jbt | apply Jbu | (apply Jcg; (first | exact Jaa rfl | exact Jab rfl); exact rfl))
  exact TR_of (res1 rfl rfl) ⟨rfl, (Ch.mono (E3.ext e4) (fun _ t => t.elim)).then c5, sn5, sk5, st5, lo5, hi5, ⟨hb5, hx4.ch c5 (by intro k _ _; simp only [Iv]; omega), .inr (by omega), pDo_fits _ _, pDo_tot _ _⟩, by omega, by omega⟩
set_option maxRecDepth 100000 in
set_option maxHeartbeats 4000000 in
theorem l06Cut_c {w : World} {g lo hi : Nat} {s : StoreP} {sn sk st sl : Value} {n : Int} (h : StX w g s sn sk st sl lo hi) (hof : (oCut histT n).fits) :
    Ret Tryz.prog 108 #[.pointer (some ⟨g, 0, none⟩), I n] w fun v w' => v = I (pDo s.disk (oCut histT n)).2 ∧ Ch (Iv g (g + 1)) w w' ∧ ∃ sn' sk' st' lo' hi', StX w' g { s with disk := (pDo s.disk (oCut histT n)).1 } sn' sk' st' sl lo' hi' ∧ w.heap.size ≤ lo' ∧ hi' ≤ w'.heap.size := by
  have hg := h.blk.lt
  have hld := h.ld
  refine Ret_enter Tryz.func108 rfl rfl rfl ?_
  repeat' (first | apply Jbq | apply Jbr | apply Jbs | apply Jbt | (apply Jcg; (first | exact Jaa rfl | exact Jab rfl | exact Jba rfl | (apply Jbl; exact Us.h; exact rfl; exact Sz.h; exact rfl)); exact rfl) | refine Jcg (Pu_loadAgg (cs := dskC s.disk sn sk st) Us.h rfl Sz.h rfl (fun _ e j u hu => by rw [e]; exact hld j u hu)) rfl ?_ | refine Jcg (Pu_build (cs := opC (oCut histT n) (.slice none 0 0)) rfl (by kernel_rfl)) rfl ?_)
  refine TL_call rfl en22 (specDiskDo_c (o := oCut histT n) h.own.rd h.fits h.tot (rbn w) hof) rfl rfl ?_
  rintro _ w1 ⟨sn1, sk1, st1, rfl, e1, hx1⟩
  have hs1 := e1.size
  have hone := hx1.one
  repeat' ((apply Jcg; (first | exact Jaa rfl | exact Jae rfl rfl); exact rfl))
  refine TL_alloc Zs.h rfl rfl ?_
  intro w2 g5 e2 hg5 hz2 hb5
  replace hx1 := hx1.ext e2
  skip
  refine TL_storeAgg rfl rfl Sz.h hone hb5 rfl ?_
  clear hb5
  intro w3 c3 hz3 hb5
  replace hx1 := hx1.ch c3 (by intro k _ _; simp only [Iv]; omega)
  have E3 : Ext w w3 := Ext.then_iv (e1.ext e2) c3 (by omega)
  have hb4 := (h.ext E3).blk
  repeat' (first | apply Jbq | apply Jbr | apply Jbs | apply Jbt | (apply Jcg; (first | exact Jaa rfl | exact Jab rfl | exact Jba rfl | (apply Jbl; exact Us.h; exact rfl; exact Sz.h; exact rfl)); exact rfl) | refine Jcg (Pu_loadAgg (cs := dskC (pDo s.disk (oCut histT n)).1 sn1 sk1 st1) Us.h rfl Sz.h rfl (fun _ e j u hu => by rw [e, add0, hb5.cell]; exact hu)) rfl ?_)
  refine TL_storeBlk rfl (add0 g 0) rfl Sz.h hone hb4 (by show 0 + 6 ≤ 10; omega) ?_
  intro w5 c5 hz5 hb6
  have hS : setL (stoC s sn sk st sl) 0 (dskC (pDo s.disk (oCut histT n)).1 sn1 sk1 st1) = stoC { s with disk := (pDo s.disk (oCut histT n)).1 } sn1 sk1 st1 sl := rfl
  rw [hS] at hb6
  repeat' (first | apply Jbq | apply Jbr | apply Jbs | apply Jbt | apply Jbu | (apply Jcg; (first | exact Jaa rfl | exact Jab rfl); exact rfl))
  exact TR_of (res1 rfl rfl) ⟨rfl, (Ch.mono E3 (fun _ t => t.elim)).then c5, sn1, sk1, st1, _, _, ⟨hb6, hx1.ch c5 (by intro k _ _; simp only [Iv]; omega), .inr (by omega), pDo_fits _ _, pDo_tot _ _⟩, by omega, by omega⟩
end Go.Proofs.YtggaghghclomkaaGreat

/- A store that a call owns; it is marked and found marked. Conditions: sizes. -/
namespace Go.Proofs.YtggaghghclomkaaGreat
open Go.RowKit
/-- A store that a call owns. -/
def OSt (w : World) (lo hi : Nat) (s : StoreP) (sn sk st sl : Value) : Prop := ∃ l1 h1 l2 h2, ODk w l1 h1 s.disk sn sk st ∧ OE w l2 h2 sl s.list ∧ (h1 ≤ l2 ∨ h2 ≤ l1) ∧ lo ≤ l1 ∧ lo ≤ l2 ∧ h1 ≤ hi ∧ h2 ≤ hi ∧ hi ≤ w.heap.size
theorem OSt.ch {w w' : World} {lo hi : Nat} {s : StoreP} {sn sk st sl : Value} {T : Nat → Prop} (h : OSt w lo hi s sn sk st sl) (c : Ch T w w') (hd : ∀ k, lo ≤ k → k < hi → ¬ T k) : OSt w' lo hi s sn sk st sl := by
  obtain ⟨l1, h1, l2, h2, a, b, q1, q2, q3, q4, q5, q6⟩ := h
  exact ⟨l1, h1, l2, h2, a.ch c (fun k _ _ => hd k (by omega) (by omega)), b.ch c (fun k _ _ => hd k (by omega) (by omega)), q1, q2, q3, q4, q5, by have := c.size; omega⟩
theorem OSt.ext {w w' : World} {lo hi : Nat} {s : StoreP} {sn sk st sl : Value} (h : OSt w lo hi s sn sk st sl) (c : Ext w w') : OSt w' lo hi s sn sk st sl := h.ch c (fun _ _ _ t => t)
theorem OSt.wide {w : World} {lo hi lo' hi' : Nat} {s : StoreP} {sn sk st sl : Value} (h : OSt w lo hi s sn sk st sl) (a1 : lo' ≤ lo) (a2 : hi ≤ hi') (a3 : hi' ≤ w.heap.size) : OSt w lo' hi' s sn sk st sl := by
  obtain ⟨l1, h1, l2, h2, a, b, q1, q2, q3, q4, q5, q6⟩ := h
  exact ⟨l1, h1, l2, h2, a, b, q1, by omega, by omega, by omega, by omega, a3⟩
theorem OSt.rd {w : World} {lo hi : Nat} {s : StoreP} {sn sk st sl : Value} (h : OSt w lo hi s sn sk st sl) : RSt w lo hi s sn sk st sl := by
  obtain ⟨l1, h1, l2, h2, a, b, q1, q2, q3, q4, q5, q6⟩ := h
  exact ⟨a.rd.wide q2 q4 q6, b.rd.wide q3 q5 q6⟩
theorem OSt.one {w : World} {lo hi : Nat} {s : StoreP} {sn sk st sl : Value} (h : OSt w lo hi s sn sk st sl) : (stoC s sn sk st sl).all (·.oneCell') = true := h.rd.one
theorem OSt.nil {w : World} {lo hi : Nat} (h1 : lo ≤ hi) (h : hi ≤ w.heap.size) : OSt w lo hi noSt (.slice none 0 0) (.slice none 0 0) (.slice none 0 0) (.slice none 0 0) :=
  ⟨lo, lo, lo, lo, ODk.nil (by omega), ⟨none, 0, rfl, Own.nil _ _ _ _ _ (by omega)⟩, .inl (Nat.le_refl _), Nat.le_refl _, Nat.le_refl _, h1, h1, h⟩
attribute [local irreducible] TL TC TN TX TR TQ TA Pu Ret
end Go.Proofs.YtggaghghclomkaaGreat

/- Contracts: operations of a store's disk, said step by step; what opening makes. No condition. -/
namespace Go.Proofs.YtggaghghclomkaaGreat
open Go.RowKit
theorem fits_op (k : Int) (s t : List UInt8) (z : Int) (hk : 0 ≤ k ∧ k ≤ 7) (hz : 0 ≤ z ∧ z ≤ 1048576) (hs : s.length ≤ 100) (ht : t.length ≤ 100) : (⟨k, s, t, z, []⟩ : OpD).fits := ⟨⟨by simp only; omega, by simp only; omega⟩, ⟨by simp only; omega, by simp only; omega⟩, by simp only; omega, by simp only; omega⟩
theorem pOpen_is {d : DiskP} {k z : Int} (h : DOk d) (hr : rangeK k z) {x y : DiskP × Int} {b : List UInt8} (hx : x = opC' (opB (opA d))) (hy : y = opEnd (opCutx x)) (hb : b = (pRead x.1 histT).1) :
    pOpen d k z = (⟨y.1, k, z, if y.2 = 0 then (pScan b).1 else [], if y.2 = 0 then ((pScan b).2 : Int) else 0⟩, y.2) := by
  unfold pOpen
  rw [if_pos ⟨h, hr⟩]
  subst hb hy hx
  rfl
attribute [local irreducible] TL TC TN TX TR TQ TA Pu Ret
theorem l06Do_y {w : World} {g lo hi : Nat} {d : DiskP} {kp z n : Int} {l : List Ent} {sn sk st sl : Value} {kind : Int} {name : List UInt8} {o : OpD} {y : DiskP × Int} (h : StX w g ⟨d, kp, z, l, n⟩ sn sk st sl lo hi) (ho : opOf kind name = o) (hof : o.fits) (hy : pDo d o = y) :
    Ret Tryz.prog 105 #[.pointer (some ⟨g, 0, none⟩), I kind, S name] w fun v w' => v = I y.2 ∧ Ch (Iv g (g + 1)) w w' ∧ ∃ sn' sk' st' lo' hi', StX w' g ⟨y.1, kp, z, l, n⟩ sn' sk' st' sl lo' hi' ∧ w.heap.size ≤ lo' ∧ hi' ≤ w'.heap.size := by
  subst ho hy
  exact l06Do_c h hof
theorem l06Cut_y {w : World} {g lo hi : Nat} {d : DiskP} {kp z n m : Int} {l : List Ent} {sn sk st sl : Value} {y : DiskP × Int} (h : StX w g ⟨d, kp, z, l, n⟩ sn sk st sl lo hi) (hof : (oCut histT m).fits) (hy : pDo d (oCut histT m) = y) :
    Ret Tryz.prog 108 #[.pointer (some ⟨g, 0, none⟩), I m] w fun v w' => v = I y.2 ∧ Ch (Iv g (g + 1)) w w' ∧ ∃ sn' sk' st' lo' hi', StX w' g ⟨y.1, kp, z, l, n⟩ sn' sk' st' sl lo' hi' ∧ w.heap.size ≤ lo' ∧ hi' ≤ w'.heap.size := by
  subst hy
  exact l06Cut_c h hof
theorem opOf_dir : opOf 7 [] = oDir := by unfold opOf; rw [if_neg (by decide)]
theorem opOf_rm : opOf 6 tempT = oRm tempT := by unfold opOf; rw [if_neg (by decide)]
theorem opOf_mk (s : List UInt8) : opOf 1 s = oMk s := by unfold opOf; rw [if_neg (by decide)]
theorem opOf_sync (s : List UInt8) : opOf 3 s = oSync s := by unfold opOf; rw [if_neg (by decide)]
theorem opOf_ren : opOf 5 tempT = oRen tempT histT := by unfold opOf; rw [if_pos rfl]
theorem stepD_ok {x : DiskP × Int} {o : OpD} (h : x.2 = 0) : pDo x.1 o = stepD x o := by unfold stepD; rw [if_pos h]
theorem stepD_no {x : DiskP × Int} {o : OpD} (h : ¬ x.2 = 0) : stepD x o = x := by unfold stepD; rw [if_neg h]
end Go.Proofs.YtggaghghclomkaaGreat

/- Contracts: the next number of a store. -/
namespace Go.Proofs.YtggaghghclomkaaGreat
open Go.RowKit
attribute [local irreducible] TL TC TN TX TR TQ TA Pu Ret

def pNext (l : List Ent) : Int := match l.getLast? with
  | none => 1
  | some e => if e.1 < 1 ∨ 1000000000 < e.1 then 0 else e.1 + 1
theorem pNext_nil {l : List Ent} (h : l.length = 0) : pNext l = 1 := by rw [List.eq_nil_of_length_eq_zero h]; rfl
theorem pNext_last {l : List Ent} (h : 0 < l.length) : pNext l = if (l[l.length - 1]'(by omega)).1 < 1 ∨ 1000000000 < (l[l.length - 1]'(by omega)).1 then 0 else (l[l.length - 1]'(by omega)).1 + 1 := by
  unfold pNext
  rw [List.getLast?_eq_getElem?, List.getElem?_eq_getElem (by omega)]
set_option maxHeartbeats 2000000 in
theorem specNextNum_c {w : World} {lo hi : Nat} {s : StoreP} {sn sk st sl : Value} (h : RSt w lo hi s sn sk st sl) (hl : totS s ≤ 1048576) :
    Ret Tryz.prog 120 #[.agg (stoC s sn sk st sl).toArray] w fun v' w' => v' = I (pNext s.list) ∧ Ext w w' := by
  obtain ⟨l1, l2⟩ := totS_parts hl
  obtain ⟨A, c, rfl, hc, hr⟩ := h.2
  refine Ret_enter Tryz.func120 rfl rfl rfl ?_
  repeat' (first | apply Jbs | apply Jbt)
  refine TL_box (cs := stoC s sn sk st (.slice A s.list.length c)) rfl rfl ?_
  intro w1 g E hg hz hbk
  clear hg hz
  by_cases h0 : s.list.length = 0
  · rw [pNext_nil h0]
    repeat' (first | apply Jbq | apply Jbr | apply Jbs | apply Jbt | apply Jbu | apply Jbv | (apply Jcg; (first | exact Jab rfl | exact Jac Us.h rfl | exact Jak rfl rfl | (apply Jbl; exact Us.h; exact rfl; exact Sz.h; exact rfl)); exact rfl) | refine Jcg (Pu_load Fl.h rfl (fun _ e => by rw [e]; exact hbk.ld rfl)) rfl ?_ | (refine Jcx rfl (fun hb => ?_) (fun hb => ?_) <;> (try (exfalso; omega))))
    all_goals exact TR_of (res1 rfl rfl) ⟨rfl, E⟩
  · have hlt : s.list.length - 1 < s.list.length := by omega
    obtain ⟨ad, rfl, hcell⟩ := Rd.elem entC_len (hr.ext E) hlt
    obtain ⟨x, hx⟩ : ∃ x, x = (s.list[s.list.length - 1]).1 := ⟨_, rfl⟩
    have hc1 : w1.cell? ((ad.add (((s.list.length : Int) - 1).toNat * 2)).add 0) = some (I x) := by
      rw [show ((s.list.length : Int) - 1).toNat = s.list.length - 1 by omega, hx]; exact hcell 0 _ rfl
    rw [pNext_last (by omega), ← hx]
    by_cases hb : x < 1 ∨ 1000000000 < x
    · rw [if_pos hb]
      repeat' (first | apply Jbq | apply Jbr | apply Jbs | apply Jbt | apply Jbu | apply Jbv | apply Jbz | (refine Jce rfl ?_) | (apply Jcg; (first | exact Jaa rfl | exact Jab rfl | exact Jac Us.h rfl | exact Jad rfl rfl | exact Jah rfl rfl | exact Jai rfl rfl | exact Jak rfl rfl | exact Jam rfl rfl | exact Jap rfl rfl (by omega) | exact Jar Us.h Sz.h rfl rfl (by omega) | (apply Jbl; exact Us.h; exact rfl; exact Sz.h; exact rfl)); exact rfl) | refine Jch rfl rfl rfl ?_ | refine Jci rfl rfl rfl rfl rfl ?_ | refine Jcg (Pu_load Fl.h rfl (fun _ e => by rw [e]; exact hbk.ld rfl)) rfl ?_ | refine Jcg (Pu_load Fl.h rfl (fun _ e => by rw [e]; exact hc1)) rfl ?_ | (refine Jcs rfl rfl (fun hb => ?_) (fun hb => ?_) <;> (try (exfalso; omega))) | (refine Jcx rfl (fun hb => ?_) (fun hb => ?_) <;> (try (exfalso; omega))))
      all_goals exact TR_of (res1 rfl rfl) ⟨rfl, E⟩
    · rw [if_neg hb]
      repeat' (first | apply Jbq | apply Jbr | apply Jbs | apply Jbt | apply Jbu | apply Jbz | (apply Jcg; (first | exact Jaa rfl | exact Jab rfl | exact Jac Us.h rfl | exact Jad rfl rfl | exact Jaf rfl rfl (by omega) | exact Jai rfl rfl | exact Jak rfl rfl | exact Jam rfl rfl | exact Jap rfl rfl (by omega) | exact Jar Us.h Sz.h rfl rfl (by omega) | (apply Jbl; exact Us.h; exact rfl; exact Sz.h; exact rfl)); exact rfl) | refine Jch rfl rfl rfl ?_ | refine Jcg (Pu_load Fl.h rfl (fun _ e => by rw [e]; exact hbk.ld rfl)) rfl ?_ | refine Jcg (Pu_load Fl.h rfl (fun _ e => by rw [e]; exact hc1)) rfl ?_ | (refine Jcs rfl rfl (fun hb => ?_) (fun hb => ?_) <;> (try (exfalso; omega))) | (refine Jcx rfl (fun hb => ?_) (fun hb => ?_) <;> (try (exfalso; omega))))
      all_goals exact TR_of (res1 rfl rfl) ⟨rfl, E⟩
end Go.Proofs.YtggaghghclomkaaGreat

/- Contracts: a disk's room and fuse are set. -/
namespace Go.Proofs.YtggaghghclomkaaGreat
open Go.RowKit
abbrev withFuse (d : DiskP) (f : Int) : DiskP := { d with fuse := f }
theorem withFuse_fits {d : DiskP} {f : Int} (h : d.fits) (hf : -9223372036854775808 ≤ f ∧ f ≤ 9223372036854775807) : (withFuse d f).fits := ⟨h.1, hf, h.2.2⟩
open Classical in
noncomputable def pIf (b : Bool) (d : DiskP) : DiskP × Bool := if b = true ∧ DOk d then (d, true) else (noDk, false)
open Classical in
theorem pIf_yes {b : Bool} {d : DiskP} (hb : b = true) (h : pDOk d = true) : pIf b d = (d, true) := by unfold pIf; exact if_pos ⟨hb, pDOk_of h⟩
open Classical in
theorem pIf_no {b : Bool} {d : DiskP} (h : b = false ∨ pDOk d = false) : pIf b d = (noDk, false) := by
  unfold pIf
  refine if_neg (fun q => ?_)
  rcases h with h | h
  · rw [q.1] at h; cases h
  · rw [pDOk_yes q.2] at h; cases h
attribute [local irreducible] TL TC TN TX TR TQ TA Pu Ret
set_option maxRecDepth 100000 in
set_option maxHeartbeats 4000000 in
theorem implDiskFuse_c {w : World} {lo hi : Nat} {d : DiskP} {sn sk st : Value} {f : Int} (h : RDk w lo hi d sn sk st) (hf : d.fits) (hl : totD d ≤ 1048576) (hi : -9223372036854775808 ≤ f ∧ f ≤ 9223372036854775807) :
    Ret Tryz.prog 46 #[.agg (dskC d sn sk st).toArray, I f] w fun v' w' => ∃ sn' sk' st', v' = .tuple #[.agg (dskC (pIf (pDOk d) (withFuse d f)).1 sn' sk' st').toArray, .bool (pIf (pDOk d) (withFuse d f)).2] ∧ Ext w w' ∧ ODk w' w.heap.size w'.heap.size (pIf (pDOk d) (withFuse d f)).1 sn' sk' st' := by
  refine Ret_enter Tryz.func46 rfl rfl rfl ?_
  repeat' (first | apply Jbs | apply Jbt)
  refine TL_box (cs := dskC d sn sk st) rfl rfl ?_
  intro w1 g1 e1 hg1 hz1 hb1
  skip
  refine TL_alloc Zs.h rfl rfl ?_
  intro w2 g2 e2 hg2 hz2 hb2
  replace hb1 := hb1.ext e2
  have E2 : Ext w w2 := e1.ext e2
  repeat' (first | apply Jbq | apply Jbr | apply Jbs | apply Jbt | (apply Jcg; exact Jab rfl; exact rfl) | refine Jcg (Pu_loadAgg (cs := dskC d sn sk st) Us.h rfl Sz.h rfl (fun _ e j u hu => by rw [e, add0, hb1.cell]; exact hu)) rfl ?_)
  refine TL_call rfl en66 (implcopyDisk_c (h.ext E2) hl) rfl rfl ?_
  rintro _ w3 ⟨sn1, sk1, st1, rfl, e3, hx⟩
  replace hb1 := hb1.ext e3
  replace hb2 := hb2.ext e3
  have hs3 := e3.size
  have E3 := E2.ext e3
  have hone := hx.one
  skip
  refine TL_alloc Zs.h rfl rfl ?_
  intro w4 g4 e4 hg4 hz4 hb4
  replace hb1 := hb1.ext e4
  replace hb2 := hb2.ext e4
  replace hx := hx.ext e4
  have E4 := E3.ext e4
  skip
  refine TL_storeAgg rfl rfl Sz.h hone hb4 rfl ?_
  clear hb4
  intro w5 c5 hz5 hb4
  replace hb1 := hb1.ch c5 (by simp only [Iv]; omega)
  replace hb2 := hb2.ch c5 (by simp only [Iv]; omega)
  replace hx := hx.ch c5 (by intro k _ _; simp only [Iv]; omega)
  have E5 : Ext w w5 := Ext.then_iv E4 c5 (by have := E3.size; omega)
  repeat' (first | apply Jbq | apply Jbr | apply Jbs | apply Jbt | (apply Jcg; (first | exact Jaa rfl | (apply Jbl; exact Us.h; exact rfl; exact Sz.h; exact rfl)); exact rfl))
  refine TL_store rfl rfl Sz.h rfl hb4 rfl ?_
  clear hb4
  intro w6 c6 hz6 hb4
  replace hb4 : Blk w6 g4 33 (dskC (withFuse d f) sn1 sk1 st1) := hb4
  replace hb1 := hb1.ch c6 (by simp only [Iv]; omega)
  replace hb2 := hb2.ch c6 (by simp only [Iv]; omega)
  replace hx := hx.ch c6 (by intro k _ _; simp only [Iv]; omega)
  have E6 : Ext w w6 := Ext.then_iv E5 c6 (by have := E3.size; omega)
  have hgg : w.heap.size ≤ g1 ∧ g1 < g2 ∧ g2 + 1 = w2.heap.size ∧ g4 = w3.heap.size := by omega
  clear hg1 hg2 hg4 e1 e2 e3 e4 c5 c6
  repeat' (first | apply Jbq | apply Jbr | apply Jbs | apply Jbt | refine Jcg (Pu_loadAgg (cs := dskC d sn sk st) Us.h rfl Sz.h rfl (fun _ e j u hu => by rw [e, add0, hb1.cell]; exact hu)) rfl ?_)
  refine TL_call rfl en65 (implDiskOk_c (h.ext E6) hf hl) rfl rfl ?_
  rintro _ w7 ⟨rfl, e7⟩
  replace hb2 := hb2.ext e7
  replace hb4 := hb4.ext e7
  replace hx := hx.ext e7
  have hs7 := e7.size
  have E7 := E6.ext e7
  cases hp : pDOk d with
  | false =>
    rw [pIf_no (.inl rfl)]
    repeat' (first | apply Jbq | apply Jbr | apply Jbs | apply Jbt | (refine Jce rfl ?_) | (apply Jcg; (first | exact Jaa rfl | exact Jah rfl rfl | exact Jaj rfl); exact rfl) | refine Jci rfl rfl rfl rfl rfl ?_ | refine Jcg (Pu_build (cs := dskC noDk (.slice none 0 0) (.slice none 0 0) (.slice none 0 0)) rfl (by kernel_rfl)) rfl ?_)
    refine TL_storeAgg rfl rfl Sz.h rfl hb2 rfl ?_
    intro w8 c8 hz8 hb8
    have E8 : Ext w w8 := Ext.then_iv E7 c8 (by omega)
    repeat' (first | apply Jbq | apply Jbr | apply Jbu | apply Jbv | (apply Jcg; exact Jab rfl; exact rfl))
    exact TR_of (resA1 rfl rfl rfl hb8 Us.h rfl Sz.h) ⟨_, _, _, rfl, E8, ODk.nil (Nat.le_refl _)⟩
  | true =>
    repeat' (first | (apply Jcg; (first | exact Jaa rfl | exact Jaj rfl); exact rfl) | refine Jch rfl rfl rfl ?_ | refine Jcg (Pu_loadAgg (cs := dskC (withFuse d f) sn1 sk1 st1) Us.h rfl Sz.h rfl (fun _ e j u hu => by rw [e, add0, hb4.cell]; exact hu)) rfl ?_)
    refine TL_call rfl en65 (implDiskOk_c (d := withFuse d f) hx.rd (withFuse_fits hf hi) hl) rfl rfl ?_
    rintro _ w8 ⟨rfl, e8⟩
    replace hb2 := hb2.ext e8
    replace hb4 := hb4.ext e8
    replace hx := hx.ext e8
    have hs8 := e8.size
    have E8 := E7.ext e8
    cases hq : pDOk (withFuse d f) with
    | false =>
      rw [pIf_no (.inr hq)]
      repeat' (first | apply Jbq | apply Jbr | apply Jbs | apply Jbt | (refine Jce rfl ?_) | (apply Jcg; (first | exact Jai rfl rfl | exact Jaj rfl); exact rfl) | refine Jch rfl rfl rfl ?_ | refine Jcg (Pu_build (cs := dskC noDk (.slice none 0 0) (.slice none 0 0) (.slice none 0 0)) rfl (by kernel_rfl)) rfl ?_)
      refine TL_storeAgg rfl rfl Sz.h rfl hb2 rfl ?_
      intro w9 c9 hz9 hb9
      have E9 : Ext w w9 := Ext.then_iv E8 c9 (by omega)
      repeat' (first | apply Jbq | apply Jbr | apply Jbu | apply Jbv | (apply Jcg; exact Jab rfl; exact rfl))
      exact TR_of (resA1 rfl rfl rfl hb9 Us.h rfl Sz.h) ⟨_, _, _, rfl, E9, ODk.nil (Nat.le_refl _)⟩
    | true =>
      rw [pIf_yes rfl hq]
      repeat' (first | apply Jbq | apply Jbr | apply Jbs | apply Jbt | apply Jbz | (refine Jcf rfl ?_) | (apply Jcg; (first | exact Jai rfl rfl | exact Jaj rfl); exact rfl) | refine Jch rfl rfl rfl ?_ | refine Jcg (Pu_loadAgg (cs := dskC (withFuse d f) sn1 sk1 st1) Us.h rfl Sz.h rfl (fun _ e j u hu => by rw [e, add0, hb4.cell]; exact hu)) rfl ?_)
      refine TL_storeAgg rfl rfl Sz.h hone hb2 rfl ?_
      intro w9 c9 hz9 hb9
      have hx9 : ODk w9 w2.heap.size w3.heap.size d sn1 sk1 st1 := hx.ch c9 (by intro k _ _; simp only [Iv]; omega)
      have E9 : Ext w w9 := Ext.then_iv E8 c9 (by omega)
      repeat' (first | apply Jbq | apply Jbr | apply Jbu | (apply Jcg; exact Jab rfl; exact rfl))
      exact TR_of (resA1 rfl rfl rfl hb9 Us.h rfl Sz.h) ⟨sn1, sk1, st1, rfl, E9, ODk.wide (d := withFuse d f) hx9 (by omega) (by omega) (Nat.le_refl _)⟩
end Go.Proofs.YtggaghghclomkaaGreat
