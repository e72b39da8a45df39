/- Texts of this proof laid together, in the order in which they build; what each proves stands ahead of it. No condition but those told there. -/
import Derived.Test.YtggaghghclomkaaGreatQFEOFT25j

/- Contracts: an operation on a disk is carried out, by the program. -/
namespace Go.Proofs.YtggaghghclomkaaGreat
open Go.RowKit
attribute [local irreducible] TL TC TN TX TR TQ TA Pu Ret
set_option maxRecDepth 100000 in
set_option maxHeartbeats 16000000 in
theorem implDiskDo_c {w : World} {lo hi lo2 hi2 : Nat} {d : DiskP} {sn sk st vo : Value} {o : OpD} (h : RDk w lo hi d sn sk st) (hf : d.fits) (hl : totD d ≤ 1048576) (ho : RB w lo2 hi2 vo o.data) (hof : o.fits) :
    Ret Tryz.prog 24 #[.agg (dskC d sn sk st).toArray, .agg (opC o vo).toArray] w fun v' w' => ∃ sn' sk' st', v' = .tuple #[.agg (dskC (pDo d o).1 sn' sk' st').toArray, I (pDo d o).2] ∧ Ext w w' ∧ ODk w' w.heap.size w'.heap.size (pDo d o).1 sn' sk' st' := by
  have hh := h
  obtain ⟨ft1, ft2⟩ := fits_tk hf
  have ho0 := ho
  obtain ⟨kind, name, to, size, data⟩ := o
  obtain ⟨Ad, cd, rfl, hcd, hrd⟩ := ho
  simp only at hcd hrd ho0
  refine Ret_enter Tryz.func24 rfl rfl rfl ?_
  repeat' (first | apply Jbs | apply Jbt)
  refine TL_box (cs := dskC d sn sk st) rfl rfl ?_
  intro w1 g2 e1 hg2 hz1 hb2
  skip
  refine TL_box (cs := opC ⟨kind, name, to, size, data⟩ (.slice Ad data.length cd)) rfl rfl ?_
  intro w2 g3 e2 hg3 hz2 hb3
  replace hb2 := hb2.ext e2
  skip
  refine TL_alloc Zs.h rfl rfl ?_
  intro w3 g4 e3 hg4 hz3 hb4
  replace hb2 := hb2.ext e3
  replace hb3 := hb3.ext e3
  have E3 : Ext w w3 := (e1.ext e2).ext e3
  repeat' (first | apply Jbq | apply Jbr | apply Jbs | apply Jbt | (apply Jcg; exact Jab rfl; exact rfl) | refine Jcg (Pu_loadAgg (cs := dskC d sn sk st) Us.h rfl Sz.h rfl (fun _ e j u hu => by rw [e, add0, hb2.cell]; exact hu)) rfl ?_)
  refine TL_call rfl en65 (implDiskOk_c (hh.ext E3) hf hl) rfl rfl ?_
  rintro _ w4 ⟨rfl, e4⟩
  replace hb2 := hb2.ext e4
  replace hb3 := hb3.ext e4
  replace hb4 := hb4.ext e4
  have hs4 := e4.size
  have E4 := E3.ext e4
  cases hp : pDOk d with
  | false =>
    rw [pDo_no (fun h => by rw [pDOk_yes h.1] at hp; cases hp)]
    repeat' (first | apply Jbq | apply Jbr | apply Jbs | apply Jbt | (refine Jce rfl ?_) | (apply Jcg; (first | exact Jaa rfl | exact Jah rfl rfl | exact Jaj rfl); exact rfl) | refine Jci rfl rfl rfl rfl rfl ?_ | refine Jcg (Pu_build (cs := dskC noDk (.slice none 0 0) (.slice none 0 0) (.slice none 0 0)) rfl (by kernel_rfl)) rfl ?_)
    refine TL_storeAgg rfl rfl Sz.h rfl hb4 rfl ?_
    intro w8 c8 hz8 hb8
    have E8 : Ext w w8 := Ext.then_iv E4 c8 (by omega)
    repeat' (first | apply Jbq | apply Jbr | apply Jbu | apply Jbv | (apply Jcg; exact Jab rfl; exact rfl))
    exact TR_of (resA1 rfl rfl rfl hb8 Us.h rfl Sz.h) ⟨_, _, _, rfl, E8, ODk.nil (Nat.le_refl _)⟩
  | true =>
    have hD := pDOk_of hp
    repeat' (first | (apply Jcg; (first | exact Jaa rfl | exact Jaj rfl); exact rfl) | refine Jch rfl rfl rfl ?_ | refine Jcg (Pu_loadAgg (cs := opC ⟨kind, name, to, size, data⟩ (.slice Ad data.length cd)) Us.h rfl Sz.h rfl (fun _ e j u hu => by rw [e, add0, hb3.cell]; exact hu)) rfl ?_)
    refine TL_call rfl en92 (implOpOk_c (o := ⟨kind, name, to, size, data⟩) (ho0.ext E4) hof) rfl rfl ?_
    rintro _ w5 ⟨rfl, e5⟩
    replace hb2 := hb2.ext e5
    replace hb3 := hb3.ext e5
    replace hb4 := hb4.ext e5
    have hs5 := e5.size
    have E5 := E4.ext e5
    cases hq : pOp ⟨kind, name, to, size, data⟩ with
    | false =>
      rw [pDo_no (fun h => by rw [h.2] at hq; cases hq)]
      repeat' (first | apply Jbq | apply Jbr | apply Jbs | apply Jbt | (refine Jce rfl ?_) | (apply Jcg; (first | exact Jai rfl rfl | exact Jaj rfl); exact rfl) | refine Jch rfl rfl rfl ?_ | refine Jcg (Pu_build (cs := dskC noDk (.slice none 0 0) (.slice none 0 0) (.slice none 0 0)) rfl (by kernel_rfl)) rfl ?_)
      refine TL_storeAgg rfl rfl Sz.h rfl hb4 rfl ?_
      intro w8 c8 hz8 hb8
      have E8 : Ext w w8 := Ext.then_iv E5 c8 (by omega)
      repeat' (first | apply Jbq | apply Jbr | apply Jbu | apply Jbv | (apply Jcg; exact Jab rfl; exact rfl))
      exact TR_of (resA1 rfl rfl rfl hb8 Us.h rfl Sz.h) ⟨_, _, _, rfl, E8, ODk.nil (Nat.le_refl _)⟩
    | true =>
      have hB := hD.base
      unfold dBase at hB
      obtain ⟨p1, p2, p3, p4, p5, p6, p7, p8, p9⟩ := pOp_parts hq
      simp only at p1 p2 p3 p4 p5 p6 p7 p8 p9
      have hs : name.length ≤ 9223372036854775807 := by
        by_cases h7 : kind = 7
        · rw [p2 h7]; simp
        · have := pName_len (p3 h7); omega
      repeat' (first | apply Jbq | apply Jbr | apply Jbs | apply Jbt | apply Jbz | (refine Jcf rfl ?_) | (apply Jcg; (first | exact Jai rfl rfl | exact Jaj rfl); exact rfl) | refine Jch rfl rfl rfl ?_ | refine Jcg (Pu_loadAgg (cs := dskC d sn sk st) Us.h rfl Sz.h rfl (fun _ e j u hu => by rw [e, add0, hb2.cell]; exact hu)) rfl ?_)
      refine TL_call rfl en66 (implcopyDisk_c (hh.ext E5) hl) rfl rfl ?_
      rintro _ w6 ⟨sn1, sk1, st1, rfl, e6, hx⟩
      replace hb2 := hb2.ext e6
      replace hb3 := hb3.ext e6
      replace hb4 := hb4.ext e6
      have hs6 := e6.size
      have E6 := E5.ext e6
      have hone := hx.one
      skip
      refine TL_alloc Zs.h rfl rfl ?_
      intro w6a g6 e6a hg6 hz6a hb6
      skip
      refine TL_storeAgg rfl rfl Sz.h hone hb6 rfl ?_
      clear hb6
      intro w6b c6b hz6b hb6
      replace hb2 := (hb2.ext e6a).ch c6b (by simp only [Iv]; omega)
      replace hb3 := (hb3.ext e6a).ch c6b (by simp only [Iv]; omega)
      replace hb4 := (hb4.ext e6a).ch c6b (by simp only [Iv]; omega)
      replace hx := (hx.ext e6a).ch c6b (by intro k _ _; simp only [Iv]; omega)
      replace E6 : Ext w w6b := Ext.then_iv (E6.ext e6a) c6b (by have := E5.size; omega)
      repeat' (first | apply Jbq | apply Jbr | apply Jbs | apply Jbt | refine Jcg (Pu_loadAgg (cs := dskC d sn sk st) Us.h rfl Sz.h rfl (fun _ e j u hu => by rw [e, add0, hb2.cell]; exact hu)) rfl ?_ | refine Jcg (Pu_loadAgg (cs := opC ⟨kind, name, to, size, data⟩ (.slice Ad data.length cd)) Us.h rfl Sz.h rfl (fun _ e j u hu => by rw [e, add0, hb3.cell]; exact hu)) rfl ?_)
      refine TL_call rfl en93 (opCode_c (hh.ext E6) hf hl hD hq) rfl rfl ?_
      rintro _ w7 ⟨rfl, e7⟩
      replace hb2 := hb2.ext e7
      replace hb3 := hb3.ext e7
      replace hb4 := hb4.ext e7
      replace hb6 := hb6.ext e7
      replace hx := hx.ext e7
      have hs7 := e7.size
      have E7 := E6.ext e7
      by_cases hc : pCode d ⟨kind, name, to, size, data⟩ = 0
      case neg =>
        rw [pDo_code hD hq hc]
        repeat' (first | apply Jbq | apply Jbr | apply Jbs | apply Jbt | (apply Jcg; (first | exact Jaa rfl | exact Jab rfl | exact Jal rfl rfl); exact rfl))
        refine Jcy rfl (fun _ => ?_) (fun hb => absurd hb hc)
        repeat' (first | apply Jbs | apply Jbt | (apply Jcg; exact Jaa rfl; exact rfl) | refine Jcg (Pu_loadAgg (cs := dskC d sn1 sk1 st1) Us.h rfl Sz.h rfl (fun _ e j u hu => by rw [e, add0, hb6.cell]; exact hu)) rfl ?_)
        refine TL_storeAgg rfl rfl Sz.h hone hb4 rfl ?_
        intro w8 c8 hz8 hb8
        repeat' (first | apply Jbq | apply Jbr | apply Jbu | apply Jbv | (apply Jcg; exact Jab rfl; exact rfl))
        exact TR_of (resA1 rfl rfl rfl hb8 Us.h rfl Sz.h) ⟨sn1, sk1, st1, rfl, Ext.then_iv E7 c8 (by omega), (hx.ch c8 (by intro k _ _; simp only [Iv]; omega)).wide (by omega) (by omega) (Nat.le_refl _)⟩
      rw [pDo_yes hD hq hc, hc]
      obtain ⟨es, hmap, hN, hK, hT, q1, q2, q3⟩ := hx.parts
      clear hx
      obtain ⟨hfu, hch, hc1, hct, hc4, hc5⟩ := pCode_has hc
      simp only at hch hc1 hct hc4 hc5
      repeat' (first | apply Jbq | apply Jbr | (apply Jcg; exact Jab rfl; exact rfl))
      apply Jbs
      repeat' (first | apply Jbq | apply Jbr | apply Jbt | apply Jbz | (refine Jcf rfl ?_) | (apply Jcg; (first | exact Jaa rfl | exact Jal rfl rfl); exact rfl))
      refine TC_join (ι := Unit) (fun _ => [(2, .pointer (some ⟨g2, 0, none⟩)), (3, .pointer (some ⟨g3, 0, none⟩)), (4, .pointer (some ⟨g4, 0, none⟩)), (6, .pointer (some ⟨g6, 0, none⟩))]) (fun _ w' => Ch (Iv g6 (g6 + 1)) w7 w' ∧ w'.heap.size = w7.heap.size ∧ Blk w' g6 33 [I d.room, I (fuseOf d), I d.next, sn1, sk1, st1]) ?_ ?_
      · repeat' (first | apply Jbq | apply Jbr | apply Jbs | apply Jbt | (apply Jcg; (first | exact Jam rfl rfl | (apply Jbl; exact Us.h; exact rfl; exact Sz.h; exact rfl)); exact rfl) | refine Jcg (Pu_load Fl.h rfl (fun _ e => by rw [e]; exact hb6.ld rfl)) rfl ?_)
        refine Jcx rfl (fun hfp => ?_) (fun hfp => ?_)
        · repeat' (first | apply Jbt | (apply Jcg; (first | exact Jap rfl rfl (by omega) | (apply Jbl; exact Us.h; exact rfl; exact Sz.h; exact rfl)); exact rfl) | refine Jcg (Pu_load Fl.h rfl (fun _ e => by rw [e]; exact hb6.ld rfl)) rfl ?_)
          refine TL_store rfl rfl Sz.h rfl hb6 rfl ?_
          intro w8 c8 hz8 hb8
          repeat' (apply Jbq)
          refine TN_join () (subEnv_cons rfl (subEnv_cons rfl (subEnv_cons rfl (subEnv_cons rfl (subEnv_nil _))))) ⟨c8, hz8, ?_⟩
          rw [show fuseOf d = d.fuse - 1 from if_pos hfp]
          exact hb8
        · repeat' (apply Jbz)
          refine TN_join () (subEnv_cons rfl (subEnv_cons rfl (subEnv_cons rfl (subEnv_cons rfl (subEnv_nil _))))) ⟨Ch.refl _ _, rfl, ?_⟩
          rw [show fuseOf d = d.fuse from if_neg hfp]
          exact hb6
      rintro _ w8 ⟨c8, hz8, hb68⟩
      clear hb6
      replace hb2 := hb2.ch c8 (by simp only [Iv]; omega)
      replace hb3 := hb3.ch c8 (by simp only [Iv]; omega)
      replace hb4 := hb4.ch c8 (by simp only [Iv]; omega)
      replace hN := hN.ch c8 (fun b hb => by have := q1 b hb; simp only [Iv]; omega)
      replace hK := hK.ch c8 (fun b hb => by have := q2 b hb; simp only [Iv]; omega)
      replace hT := hT.ch c8 (fun b hb => by have := q3 b hb; simp only [Iv]; omega)
      have E8 : Ext w w8 := Ext.then_iv E7 c8 (by have := E5.size; omega)
      repeat' (first | apply Jbs | apply Jbt | (apply Jcg; (apply Jbl; exact Us.h; exact rfl; exact Sz.h; exact rfl); exact rfl) | refine Jcg (Pu_load Fl.h rfl (fun _ e => by rw [e]; exact hb2.ld rfl)) rfl ?_)
      refine TL_call rfl en67 (dirOf_c (hh.2.1.ext E8) (hh.2.2.ext E8) (kept_asc ((dok_iff d).1 hD).link) (by omega) (by omega) ft1 ft2) rfl rfl ?_
      rintro _ w9 ⟨e9, hdq⟩
      rcases hdq with ⟨_, b, kb, rfl, hbw, _, hM⟩ | ⟨hA, _⟩
      case inr => exact absurd ((dok_iff d).1 hD).turn hA
      rw [show runT d.kept d.turns = pDir d from rfl] at hM
      replace hb2 := hb2.ext e9
      replace hb3 := hb3.ext e9
      replace hb4 := hb4.ext e9
      replace hb6 := hb68.ext e9
      clear hb68
      replace hN := hN.ext e9
      replace hK := hK.ext e9
      replace hT := hT.ext e9
      have hs9 := e9.size
      have E9 := E8.ext e9
      repeat' (first | apply Jbq | apply Jbr | apply Jbs | apply Jbt | (apply Jcg; (first | exact Jaa rfl | exact Jab rfl | exact Jae rfl rfl | (apply Jbl; exact Us.h; exact rfl; exact Sz.h; exact rfl)); exact rfl) | refine Jcg (Pu_loadAgg (cs := dskC d sn sk st) Us.h rfl Sz.h rfl (fun _ e j u hu => by rw [e, add0, hb2.cell]; exact hu)) rfl ?_ | refine Jcg (Pu_load Fl.h rfl (fun _ e => by rw [e]; exact hb3.ld rfl)) rfl ?_ | refine Jcg (Pu_dirLook1 rfl rfl hs (fun w' e => ⟨kb, by rw [e]; exact hM⟩)) rfl ?_)
      have hln : d.nodes.length ≤ 1048576 := by omega
      refine TL_call rfl en94 (implnodeAt_c (hh.ext E9) hln) rfl rfl ?_
      rintro _ w10 ⟨rfl, e10⟩
      replace hb2 := hb2.ext e10
      replace hb3 := hb3.ext e10
      replace hb4 := hb4.ext e10
      replace hb6 := hb6.ext e10
      replace hN := hN.ext e10
      replace hK := hK.ext e10
      replace hT := hT.ext e10
      replace hM := hM.ext e10
      have hs10 := e10.size
      have E10 := E9.ext e10
      have hw5 : w.heap.size ≤ g2 ∧ g2 < g3 ∧ g3 < g4 ∧ g4 < w5.heap.size ∧ w5.heap.size ≤ w6.heap.size ∧ w6.heap.size = g6 ∧ g6 < w7.heap.size ∧ w7.heap.size ≤ w8.heap.size ∧ w8.heap.size ≤ w9.heap.size ∧ w9.heap.size ≤ w10.heap.size := by
        have := E3.size
        omega
      -- kinds
      by_cases hk17 : kind = 1 ∨ kind = 7
      · have hhas : dHas (pDir d) name = false := by
          rcases hk17 with rfl | rfl
          · simpa using hch (by decide)
          · rw [p2 rfl]; exact hD.noName
        have hat : nAt d.nodes (dFind (pDir d) name) = -1 := by rw [dFind_none hhas]; exact hD.at0
        rw [hat]
        repeat' (first | apply Jbq | apply Jbr | (apply Jcg; exact Jab rfl; exact rfl))
        apply Jbs
        repeat' (first | apply Jbq | apply Jbr | apply Jbt | apply Jbz | (refine Jcf rfl ?_) | (apply Jcg; (first | exact Jaa rfl | exact Jao rfl rfl); exact rfl))
        refine TC_join (ι := Unit) (fun _ => [(4, .pointer (some ⟨g4, 0, none⟩)), (6, .pointer (some ⟨g6, 0, none⟩))]) (fun _ w' => Ext w w' ∧ w10.heap.size ≤ w'.heap.size ∧ Blk w' g4 33 (dskC noDk (.slice none 0 0) (.slice none 0 0) (.slice none 0 0)) ∧ doC d ⟨kind, name, to, size, data⟩ = 0 ∧ ∃ sn' sk' st', Blk w' g6 33 (dskC (doD d ⟨kind, name, to, size, data⟩) sn' sk' st') ∧ ODk w' w5.heap.size w'.heap.size (doD d ⟨kind, name, to, size, data⟩) sn' sk' st') ?_ ?_
        · rcases hk17 with rfl | rfl
          · obtain ⟨hc11, hc12⟩ := hc1 rfl
            have hct' := hct (.inl rfl)
            have hto := p5 (by decide)
            repeat' (first | apply Jbq | apply Jbr | apply Jbs | apply Jbt | apply Jby | (refine Jce rfl ?_) | (apply Jcg; (first | exact Jab rfl | exact Jak rfl rfl | (apply Jbl; exact Us.h; exact rfl; exact Sz.h; exact rfl)); exact rfl) | refine Jcg (Pu_load Fl.h rfl (fun _ e => by rw [e]; exact hb6.ld rfl)) rfl ?_ | refine Jcg (Pu_load Fl.h rfl (fun _ e => by rw [e]; exact hb3.ld rfl)) rfl ?_ | refine Jcg (Pu_build (cs := TnC ⟨1, name, [], d.next⟩) rfl (by kernel_rfl)) rfl ?_)
            refine TL_buildSlice Us.h Zi.h rfl rfl rfl rfl (fillT ⟨1, name, [], d.next⟩) rfl rfl ?_
            intro w11 g11 e11 hg11 hz11 hown11
            skip
            refine TL_appendOx Us.h Inf.h rfl rfl rfl TnC_one rfl rfl (hT.ext e11) (RowO.new (l := [(⟨1, name, [], d.next⟩ : TnD)]) rfl hown11 hg11 hz11).rd (by simp only [List.length_cons, List.length_nil]; omega) rfl ?_
            intro w12 st2 c12 loc12 hT12
            have hs11 := e11.size
            have hs12 := c12.size
            have hst2 : ∀ b ∈ blk st2, (w5.heap.size ≤ b ∧ b < w6.heap.size ∧ b ∈ blk st1) ∨ (w11.heap.size ≤ b ∧ b < w12.heap.size) := fun b hb => by
              rcases loc12 with h | ⟨h, h2⟩
              · rw [h] at hb; have := q3 b hb; exact .inl ⟨this.1, this.2, hb⟩
              · rw [h] at hb; rw [List.mem_singleton.1 hb]; exact .inr ⟨Nat.le_refl _, h2⟩
            have hN12 := (hN.ext e11).ch c12 (fun b hb => (q1 b hb).2.2.2)
            have hK12 := (hK.ext e11).ch c12 (fun b hb => (q2 b hb).2.2)
            have hb612 := (hb6.ext e11).ch c12 (fun hb => by have := q3 g6 hb; omega)
            have hb412 := (hb4.ext e11).ch c12 (fun hb => by have := q3 g4 hb; omega)
            have hb212 := (hb2.ext e11).ch c12 (fun hb => by have := q3 g2 hb; omega)
            have hb312 := (hb3.ext e11).ch c12 (fun hb => by have := q3 g3 hb; omega)
            have E12 : Ext w w12 := (E10.ext e11).trans c12 (fun _ _ t => t) (fun j hj t => by have := q3 j t; omega)
            repeat' ((apply Jcg; (apply Jbl; exact Us.h; exact rfl; exact Sz.h; exact rfl); exact rfl))
            refine TL_store rfl rfl Sz.h hT12.one hb612 rfl ?_
            intro w13 c13 hz13 hb613
            have hN13 := hN12.ch c13 (fun b hb => by have := q1 b hb; simp only [Iv]; omega)
            have hK13 := hK12.ch c13 (fun b hb => by have := q2 b hb; simp only [Iv]; omega)
            have hT13 := hT12.ch c13 (fun b hb => by have := hst2 b hb; simp only [Iv]; omega)
            have hb413 := hb412.ch c13 (by simp only [Iv]; omega)
            have E13 : Ext w w13 := Ext.then_iv E12 c13 (by omega)
            have hb213 := hb212.ch c13 (by simp only [Iv]; omega)
            repeat' (first | apply Jbq | apply Jbr | apply Jbs | apply Jbt | (apply Jcg; (apply Jbl; exact Us.h; exact rfl; exact Sz.h; exact rfl); exact rfl) | refine Jcg (Pu_load Fl.h rfl (fun _ e => by rw [e]; exact hb613.ld rfl)) rfl ?_ | refine Jcg (Pu_build (cs := [I d.next, .slice none 0 0, .slice none 0 0]) rfl (by kernel_rfl)) rfl ?_)
            refine TL_buildSlice Us.h Zi.h rfl rfl rfl rfl (fillN d.next none none 0 0 0 0) rfl rfl ?_
            intro w14 g14 e14 hg14 hz14 hown14
            have hnew := nd_new (d := ⟨d.next, [], [], .slice none 0 0, .slice none 0 0⟩) hown14 rfl rfl hg14 hz14
            have hs14 := e14.size
            have hbz : bkd (⟨d.next, [], [], .slice none 0 0, .slice none 0 0⟩ : Nd) = [] := rfl
            have hel : es.length = d.nodes.length := by rw [← hmap, List.length_map]
            skip
            refine TL_appendN Us.h rfl rfl (hN13.ext e14) hnew.rd (OB.x (OB.nil _ 0 (Nat.zero_le _))) (OB.x (OB.nil _ 0 (Nat.zero_le _))) (by rw [hbz, List.append_nil]; exact hN13.nd) (by rw [hbz, List.append_nil]; exact fun b hb => by have := q1 b hb; omega) (by omega) rfl ?_
            intro w15 sn2 c15 loc15 hN15
            have hs15 := c15.size
            have hsn1 : ∀ b ∈ blk sn1, b ∈ bksN sn1 es := fun b hb => List.mem_append.2 (.inl hb)
            have hsn2 : ∀ b ∈ blk sn2, b ∈ blk sn1 ∨ (w14.heap.size ≤ b ∧ b < w15.heap.size) := fun b hb => by
              rcases loc15 with h | ⟨h, h2⟩
              · rw [h] at hb; exact .inl hb
              · rw [h] at hb; rw [List.mem_singleton.1 hb]; exact .inr ⟨Nat.le_refl _, h2⟩
            have hK15 := (hK13.ext e14).ch c15 (fun b hb hm => (q1 b (hsn1 b hm)).2.2.1 hb)
            have hT15 := (hT13.ext e14).ch c15 (fun b hb hm => by
              have h1 := q1 b (hsn1 b hm)
              rcases hst2 b hb with h2 | h2
              · exact h1.2.2.2 h2.2.2
              · omega)
            have hb615 := (hb613.ext e14).ch c15 (fun hm => by have := q1 g6 (hsn1 _ hm); omega)
            have hb415 := (hb413.ext e14).ch c15 (fun hm => by have := q1 g4 (hsn1 _ hm); omega)
            have E15 : Ext w w15 := (E13.ext e14).trans c15 (fun _ _ t => t) (fun j hj t => by have := q1 j (hsn1 j t); omega)
            repeat' ((apply Jcg; (apply Jbl; exact Us.h; exact rfl; exact Sz.h; exact rfl); exact rfl))
            refine TL_store rfl rfl Sz.h hN15.row.one hb615 rfl ?_
            intro w16 c16 hz16 hb616
            have hb416 := hb415.ch c16 (by simp only [Iv]; omega)
            repeat' (first | apply Jbq | apply Jbr | apply Jbt | (apply Jcg; (first | exact Jaf rfl rfl (by omega) | (apply Jbl; exact Us.h; exact rfl; exact Sz.h; exact rfl)); exact rfl) | refine Jcg (Pu_load Fl.h rfl (fun _ e => by rw [e]; exact hb616.ld rfl)) rfl ?_)
            refine TL_store rfl rfl Sz.h rfl hb616 rfl ?_
            intro w17 c17 hz17 hb617
            have hb417 := hb416.ch c17 (by simp only [Iv]; omega)
            have hbN : ∀ b ∈ bksN sn2 (es ++ [(⟨d.next, [], [], .slice none 0 0, .slice none 0 0⟩ : Nd)]), b ∈ bksN sn1 es ∨ (w14.heap.size ≤ b ∧ b < w15.heap.size) := fun b hb => by
              unfold bksN at hb
              rw [List.flatMap_append] at hb
              rcases List.mem_append.1 hb with hb | hb
              · rcases hsn2 b hb with h | h
                · exact .inl (hsn1 b h)
                · exact .inr h
              · rcases List.mem_append.1 hb with hb | hb
                · exact .inl (List.mem_append.2 (.inr hb))
                · simp [hbz] at hb
            have hN17 := (hN15.ch c16 (fun b hb => by rcases hbN b hb with h | h; (have := q1 b h; simp only [Iv]; omega); (simp only [Iv]; omega))).ch c17 (fun b hb => by rcases hbN b hb with h | h; (have := q1 b h; simp only [Iv]; omega); (simp only [Iv]; omega))
            have hK17 := (hK15.ch c16 (fun b hb => by have := q2 b hb; simp only [Iv]; omega)).ch c17 (fun b hb => by have := q2 b hb; simp only [Iv]; omega)
            have hT17 := (hT15.ch c16 (fun b hb => by have := hst2 b hb; simp only [Iv]; omega)).ch c17 (fun b hb => by have := hst2 b hb; simp only [Iv]; omega)
            repeat' (first | apply Jbq | apply Jbx)
            refine TN_join () (subEnv_cons rfl (subEnv_cons rfl (subEnv_nil _))) ⟨Ext.then_iv (Ext.then_iv E15 c16 (by omega)) c17 (by omega), by omega, hb417, rfl, sn2, sk1, st2, hb617, ODk.mk3 (es := es ++ [(⟨d.next, [], [], .slice none 0 0, .slice none 0 0⟩ : Nd)]) (Nat.le_refl _) (by rw [List.map_append, hmap]; rfl) hN17 hK17 hT17 ?_ (fun b hb => by have h1 := q2 b hb; exact ⟨h1.1, by omega, fun h => by rcases hst2 b h with h2 | h2; exact h1.2.2 h2.2.2; omega⟩) (fun b hb => by have h1 := hst2 b hb; omega)⟩
            intro b hb
            rcases hbN b hb with h | h
            · have h1 := q1 b h
              exact ⟨h1.1, by omega, h1.2.2.1, fun h => by rcases hst2 b h with h2 | h2; exact h1.2.2.2 h2.2.2; omega⟩
            · exact ⟨by omega, by omega, fun h2 => by have := q2 b h2; omega, fun h2 => by have := hst2 b h2; omega⟩
          · repeat' (first | apply Jbq | apply Jbr | apply Jbs | apply Jbt | apply Jby | (refine Jce rfl ?_) | (refine Jcf rfl ?_) | (apply Jcg; (first | exact Jaa rfl | exact Jab rfl | exact Jak rfl rfl | (apply Jbl; exact Us.h; exact rfl; exact Sz.h; exact rfl)); exact rfl) | refine Jcg (Pu_load Fl.h rfl (fun _ e => by rw [e]; exact hb3.ld rfl)) rfl ?_)
            have hdir := hD.dirLe d.turns.length (Nat.le_refl _)
            have hids := hD.dirIds d.turns.length (Nat.le_refl _)
            have hasc := hD.asc d.turns.length (Nat.le_refl _)
            rw [List.take_length, show runT d.kept d.turns = pDir d from rfl] at hdir hids hasc
            refine TL_call rfl en69 (links_c hM hasc (by omega)) rfl rfl ?_
            rintro vk w11 ⟨e11, hok⟩
            have hs11 := e11.size
            have hokb := hok.bin
            replace hb6 := hb6.ext e11
            replace hN := hN.ext e11
            have hinN : ∀ b ∈ bksN sn1 es, w5.heap.size ≤ b ∧ b < w6.heap.size := fun b hb => by have := q1 b hb; omega
            obtain ⟨A1, c1, rfl, hc1', hr1⟩ := hN.row.rr (fun b hb => hinN b (List.mem_append.2 (.inl hb))) (by omega)
            have hdl : es.length = d.nodes.length := by rw [← hmap, List.length_map]
            skip
            refine TL_call rfl en68 (only_c (d := { d with fuse := fuseOf d }) hb6 hr1 (fun x hx => by obtain ⟨h1, h2⟩ := hN.ok x hx; obtain ⟨A, c, _, _, h3, _⟩ := h1.sl; obtain ⟨A', c', _, _, h4, _⟩ := h2.sl; exact ⟨⟨A, _, c, h3⟩, ⟨A', _, c', h4⟩⟩) hok.rd (by omega) (by omega) (fun x hx => hD.idB _ (hids x hx))
              (fun x hx => hD.idB _ (by rw [← hmap]; unfold nIds; rw [List.map_map]; exact List.mem_map.2 ⟨x, hx, rfl⟩))) rfl rfl ?_
            rintro _ w12 ⟨rfl, c12, vn, hb612, hon⟩
            have hs12 := c12.size
            have hN12 : ONx w12 vn (only es ((pDir d).map (·.id))) := hN.keep hon c12 (fun b hb => by have := hinN b hb; simp only [Iv]; omega) (fun b hb => by have := hinN b hb; omega)
            have hbk12 : ∀ b ∈ bksN vn (only es ((pDir d).map (·.id))), w5.heap.size ≤ b ∧ b < w12.heap.size ∧ b ∉ blk vk := fun b hb => by
              have h1 := bks_keep hon hinN b hb
              exact ⟨by omega, by omega, fun h => by have := hokb b h; omega⟩
            have hok12 := hok.ch c12 (by intro k _ _; simp only [Iv]; omega)
            have E12 : Ext w w12 := Ext.then_iv (E10.ext e11) c12 (by omega)
            repeat' (first | apply Jbq | apply Jbx)
            exact TN_join () (subEnv_cons rfl (subEnv_cons rfl (subEnv_nil _))) ⟨E12, by omega, (hb4.ext e11).ch c12 (by simp only [Iv]; omega), rfl, vn, vk, .slice none 0 0, hb612, ODk.mk2 (d := doD d ⟨7, name, to, size, data⟩) (Nat.le_refl _) (by rw [only_map, hmap]; rfl) hN12 hok12 rfl hbk12 (by omega) (Nat.le_trans (by omega) hs12)⟩
        rintro _ w20 ⟨E20, hs20, hb420, hC0, sn2, sk2, st2, hb620, hx20⟩
        have hone2 := hx20.one
        repeat' (first | apply Jbs | apply Jbt | refine Jcg (Pu_loadAgg (cs := dskC (doD d ⟨kind, name, to, size, data⟩) sn2 sk2 st2) Us.h rfl Sz.h rfl (fun _ e j u hu => by rw [e, add0, hb620.cell]; exact hu)) rfl ?_)
        refine TL_storeAgg rfl rfl Sz.h hone2 hb420 rfl ?_
        intro w21 c21 hz21 hb21
        repeat' (first | apply Jbq | apply Jbr | apply Jbu | (apply Jcg; exact Jab rfl; exact rfl))
        exact TR_of (resA1 rfl rfl rfl hb21 Us.h rfl Sz.h) ⟨sn2, sk2, st2, by rw [hC0], Ext.then_iv E20 c21 (by omega), (hx20.ch c21 (by intro k _ _; simp only [Iv]; omega)).wide (by omega) (by omega) (Nat.le_refl _)⟩
      · have hhas : dHas (pDir d) name = true := by
          have h1 := hch (fun e => hk17 (.inr e))
          rw [h1]; simp; exact fun e => hk17 (.inl e)
        obtain ⟨i, hi, hat, _⟩ := hD.dirAt hhas
        rw [hat]
        have hel : es.length = d.nodes.length := by rw [← hmap, List.length_map]
        have hie : i < es.length := by omega
        obtain ⟨gN, cN, loN, hiN, rfl, hownN⟩ := hN.open hie
        have hoA : ∀ (k : Int) (n t : List UInt8) (z : Int) (u : List UInt8), n = name → (opAt d ⟨k, n, t, z, u⟩).toNat = i := fun k n t z u e => by unfold opAt; simp only; rw [e, hat]; rfl
        have hoI : ∀ (k : Int) (n t : List UInt8) (z : Int) (u : List UInt8), n = name → opAt d ⟨k, n, t, z, u⟩ = (i : Int) := fun k n t z u e => by unfold opAt; simp only; rw [e, hat]
        have hgN := q1 gN (List.mem_append.2 (.inl (List.mem_singleton.2 rfl)))
        obtain ⟨x, hx⟩ : ∃ x, x = es[i] := ⟨_, rfl⟩
        have hxn : d.nodes[i] = NdP x := by simp only [← hmap, List.getElem_map, hx]
        have hok2 := hN.ok es[i] (List.getElem_mem hie)
        have hbx := bkd_in (v := .slice (some ⟨gN, 0, none⟩) es.length cN) hie
        have hcell : ∀ j u, (NdC x)[j]? = some u → w10.cell? ((⟨gN, 0, none⟩ : Addr).add (i * 3) |>.add j) = some u := fun j u hu => by
          have hj : j < 3 := by have := (List.getElem?_eq_some_iff.1 hu).1; rw [NdC_len] at this; exact this
          rw [add_lit3, hownN.row.cellAt (i * 3 + j) (by omega), cellsL_at NdC_len es i j hie hj, ← hx]; exact hu
        rw [← hx] at hok2 hbx
        obtain ⟨id, body, safe, vb, vs⟩ := x
        obtain ⟨hokB, hokS⟩ := hok2
        simp only at hokB hokS
        obtain ⟨Ab, cb, lob, hib, rfl, hownB⟩ := hokB.sl
        obtain ⟨As, cs, los, his, rfl, hownS⟩ := hokS.sl
        have hx' : es[i] = ⟨id, body, safe, .slice Ab body.length cb, .slice As safe.length cs⟩ := hx.symm
        have hcb : w10.cell? ((⟨gN, 0, none⟩ : Addr).add (i * 3) |>.add 1) = some (.slice Ab body.length cb) := hcell 1 _ rfl
        have hcs : w10.cell? ((⟨gN, 0, none⟩ : Addr).add (i * 3) |>.add 2) = some (.slice As safe.length cs) := hcell 2 _ rfl
        have hbl : body.length ≤ 1048576 ∧ safe.length ≤ 1048576 := by
          have h1 : (id, body, safe) ∈ d.nodes := by
            have h2 := List.getElem_mem hi
            rw [hxn] at h2
            exact h2
          have h3 := totNd_mem h1
          have h4 := (totD_parts hl).1
          unfold NdW at h3
          simp only at h3
          omega
        have hndA : ∀ (k : Int) (n t : List UInt8) (z : Int) (u : List UInt8), n = name → ndAt d ⟨k, n, t, z, u⟩ = (id, body, safe) := fun k n t z u e => by
          unfold ndAt; rw [hoA k n t z u e, List.getD_eq_getElem?_getD, List.getElem?_eq_getElem hi, hxn]; rfl
        replace hb3 : Blk w10 g3 49 [I kind, S name, S to, I size, .slice Ad data.length cd] := hb3
        have hbodyE : bodyAt d (i : Int) = body := by rw [bodyAt_nat hi, hxn]; rfl
        have hndN : (gN :: es.flatMap bkd).Nodup := hN.nd
        have hgx : ∀ b ∈ bkd es[i], b ≠ gN := fun b hb e => (List.nodup_cons.1 hndN).1 (e ▸ List.mem_flatMap.2 ⟨_, List.getElem_mem hie, hb⟩)
        rw [hx'] at hgx
        have hbB : ∀ b ∈ blk (.slice Ab body.length cb), w5.heap.size ≤ b ∧ b < w6.heap.size ∧ b ≠ gN := fun b hb => by
          have h1 := q1 b (hbx b (List.mem_append.2 (.inl hb)))
          exact ⟨h1.1, h1.2.1, hgx b (List.mem_append.2 (.inl hb))⟩
        have hbS : ∀ b ∈ blk (.slice As safe.length cs), w5.heap.size ≤ b ∧ b < w6.heap.size ∧ b ≠ gN := fun b hb => by
          have h1 := q1 b (hbx b (List.mem_append.2 (.inr hb)))
          exact ⟨h1.1, h1.2.1, hgx b (List.mem_append.2 (.inr hb))⟩
        repeat' (first | apply Jbq | apply Jbr | (apply Jcg; exact Jab rfl; exact rfl))
        apply Jbs
        repeat' (first | apply Jbq | apply Jbr | apply Jbt | (refine Jce rfl ?_) | (apply Jcg; (first | exact Jaa rfl | exact Jao rfl rfl | (apply Jbl; exact Us.h; exact rfl; exact Sz.h; exact rfl)); exact rfl))
        repeat' (first | apply Jbq | apply Jbr | (apply Jcg; (first | exact Jaa rfl | exact Jab rfl | exact Jar Us.h Sz.h rfl rfl (by omega)); exact rfl) | refine Jcg (Pu_load Fl.h rfl (fun _ e => by rw [e]; exact hb6.ld rfl)) rfl ?_)
        have hk5 : kind = 2 ∨ kind = 3 ∨ kind = 4 ∨ kind = 5 ∨ kind = 6 := by omega
        refine TC_join (ι := Unit) (fun _ => [(4, .pointer (some ⟨g4, 0, none⟩)), (6, .pointer (some ⟨g6, 0, none⟩))]) (fun _ w' => Ext w w' ∧ w10.heap.size ≤ w'.heap.size ∧ Blk w' g4 33 (dskC noDk (.slice none 0 0) (.slice none 0 0) (.slice none 0 0)) ∧ doC d ⟨kind, name, to, size, data⟩ = 0 ∧ ∃ sn' sk' st', Blk w' g6 33 (dskC (doD d ⟨kind, name, to, size, data⟩) sn' sk' st') ∧ ODk w' w5.heap.size w'.heap.size (doD d ⟨kind, name, to, size, data⟩) sn' sk' st') ?_ ?_
        · rcases hk5 with rfl | rfl | rfl | hk56
          · obtain ⟨k, hkq⟩ : ∃ k, k = fitsN d ⟨2, name, to, size, data⟩ := ⟨_, rfl⟩
            have hkv : min (max (body.length : Int) (safe.length : Int) + d.room - pUsed d.nodes - (body.length : Int)) (data.length : Int) = k := by
              rw [hkq]; unfold fitsN; rw [hndA _ _ _ _ _ rfl]; rfl
            have hu := hD.used
            have hpu := (pUsed_le d.nodes).1
            have hk0 : 0 ≤ k ∧ k ≤ (data.length : Int) := by rw [← hkv]; omega
            have hdo : doD d ⟨2, name, to, size, data⟩ = { d with fuse := fuseOf d, nodes := d.nodes.set i (id, body ++ data.take k.toNat, safe) } := by
              unfold doD
              rw [if_neg (by simp), if_pos rfl]
              unfold ndPut
              rw [hoA _ _ _ _ _ rfl, hndA _ _ _ _ _ rfl, ← hkq]
            have hdc : doC d ⟨2, name, to, size, data⟩ = if k < (data.length : Int) then 5 else 0 := by unfold doC; rw [← hkq]; simp
            skip
            apply Jbs
            repeat' (first | apply Jbq | apply Jbr | apply Jbs | apply Jbt | apply Jby | (refine Jce rfl ?_) | (refine Jcf rfl ?_) | (apply Jcg; (first | exact Jab rfl | exact Jak rfl rfl | (apply Jbl; exact Us.h; exact rfl; exact Sz.h; exact rfl)); exact rfl) | refine Jcg (Pu_load Fl.h rfl (fun _ e => by rw [e]; exact hb3.ld rfl)) rfl ?_)
            refine TC_any mixed rfl ?_
            intro w11 hE hz11
            (refine Jco 0 rfl (by kernel_rfl) (by kernel_rfl) (by kernel_rfl) (fun _ _ _ h => h) hE (by exact Jaa rfl) rfl ?_; refine Jco 1 rfl (by kernel_rfl) (by kernel_rfl) (by kernel_rfl) (fun _ _ _ h => h) hE (by exact Jba rfl) rfl ?_; refine Jco 2 rfl (by kernel_rfl) (by kernel_rfl) (by kernel_rfl) (fun _ _ _ h => h) hE (by (apply Jbl; exact Us.h; exact rfl; exact Sz.h; exact rfl)) rfl ?_; refine Jco 3 rfl (by kernel_rfl) (by kernel_rfl) (by kernel_rfl) (fun _ _ _ h => h) hE (by exact Pu_load Fl.h rfl (fun _ e => Ext.cell e hcb)) rfl ?_; refine Jco 4 rfl (by kernel_rfl) (by kernel_rfl) (by kernel_rfl) (fun _ _ _ h => h) hE (by exact Jac Us.h rfl) rfl ?_; refine Jco 5 rfl (by kernel_rfl) (by kernel_rfl) (by kernel_rfl) (fun _ _ _ h => h) hE (by exact Jaa rfl) rfl ?_; refine Jco 6 rfl (by kernel_rfl) (by kernel_rfl) (by kernel_rfl) (fun _ _ _ h => h) hE (by exact Jba rfl) rfl ?_; refine Jco 7 rfl (by kernel_rfl) (by kernel_rfl) (by kernel_rfl) (fun _ _ _ h => h) hE (by (apply Jbl; exact Us.h; exact rfl; exact Sz.h; exact rfl)) rfl ?_; refine Jco 8 rfl (by kernel_rfl) (by kernel_rfl) (by kernel_rfl) (fun _ _ _ h => h) hE (by exact Pu_load Fl.h rfl (fun _ e => Ext.cell e hcs)) rfl ?_; refine Jco 9 rfl (by kernel_rfl) (by kernel_rfl) (by kernel_rfl) (fun _ _ _ h => h) hE (by exact Jac Us.h rfl) rfl ?_; refine Jco 10 rfl (by kernel_rfl) (by kernel_rfl) (by kernel_rfl) (fun _ _ _ h => h) hE (by exact Jaz rfl rfl) rfl ?_; refine Jco 11 rfl (by kernel_rfl) (by kernel_rfl) (by kernel_rfl) (fun _ _ _ h => h) hE (by (apply Jbl; exact Us.h; exact rfl; exact Sz.h; exact rfl)) rfl ?_; refine Jco 12 rfl (by kernel_rfl) (by kernel_rfl) (by kernel_rfl) (fun _ _ _ h => h) hE (by exact Pu_load Fl.h rfl (fun _ e => Ext.cell e (hb2.ld rfl))) rfl ?_; refine Jco 13 rfl (by kernel_rfl) (by kernel_rfl) (by kernel_rfl) (fun _ _ _ h => h) hE (by exact Jaf rfl rfl (by omega)) rfl ?_; refine Jco 14 rfl (by kernel_rfl) (by kernel_rfl) (by kernel_rfl) (fun _ _ _ h => h) hE (by exact Pu_loadAgg (cs := dskC d sn sk st) Us.h rfl Sz.h rfl (fun _ e j u hu => by rw [add0]; exact Ext.cell e ((hb2.cell j).trans hu))) rfl ?_; refine Jco 17 rfl (by kernel_rfl) (by kernel_rfl) (by kernel_rfl) (fun _ _ _ h => h) hE (by exact Jaa rfl) rfl ?_; refine Jco 18 rfl (by kernel_rfl) (by kernel_rfl) (by kernel_rfl) (fun _ _ _ h => h) hE (by exact Jba rfl) rfl ?_; refine Jco 19 rfl (by kernel_rfl) (by kernel_rfl) (by kernel_rfl) (fun _ _ _ h => h) hE (by (apply Jbl; exact Us.h; exact rfl; exact Sz.h; exact rfl)) rfl ?_; refine Jco 20 rfl (by kernel_rfl) (by kernel_rfl) (by kernel_rfl) (fun _ _ _ h => h) hE (by exact Pu_load Fl.h rfl (fun _ e => Ext.cell e hcb)) rfl ?_; refine Jco 21 rfl (by kernel_rfl) (by kernel_rfl) (by kernel_rfl) (fun _ _ _ h => h) hE (by exact Jac Us.h rfl) rfl ?_)
            refine TA_one 15 (by kernel_rfl) rfl ?_
            refine TL_call rfl en95 (implDiskUsed_c (hh.ext (E10.ext hE)) hl) rfl rfl ?_
            rintro _ w12 ⟨rfl, e12⟩
            have e1012 := hE.ext e12
            have hs12 := e1012.size
            clear hE
            have hE := e1012
            refine Jbq (TN_any hE ?_)
            (refine Jco 16 rfl (by kernel_rfl) (by kernel_rfl) (by kernel_rfl) (fun _ _ _ h => h) hE (by exact Jap rfl rfl (by omega)) rfl ?_; refine Jco 22 rfl (by kernel_rfl) (by kernel_rfl) (by kernel_rfl) (fun _ _ _ h => h) hE (by exact Jap rfl rfl (by omega)) rfl ?_; refine Jco 23 rfl (by kernel_rfl) (by kernel_rfl) (by kernel_rfl) (fun _ _ _ h => h) hE (by exact Jab rfl) rfl ?_)
            refine TA_done (by kernel_rfl) ?_
            have hb312 := hb3.ext hE
            repeat' (first | apply Jbq | apply Jbr | apply Jbs | apply Jbt | (apply Jcg; (first | exact Jaa rfl | exact Jab rfl | exact Jac Us.h rfl | exact Jay rfl rfl | (apply Jbl; exact Us.h; exact rfl; exact Sz.h; exact rfl)); exact rfl) | refine Jcg (Pu_load Fl.h rfl (fun _ e => by rw [e]; exact hb312.ld rfl)) rfl ?_)
            rw [hkv]
            obtain ⟨Ak, ck, hvk, hck, hrk⟩ := RB.to (k := k) hrd hk0 hcd
            obtain ⟨lo3, hi3, hown3, hin3⟩ := hownN.narrow
            have hg3A : ¬ (g3 ∈ blk (.slice Ab body.length cb) ∨ g3 = gN) := fun h => by rcases h with h | h; (have := hbB g3 h; omega); omega
            have hgnb : gN ∉ blk (.slice Ab body.length cb) := fun h => (hbB gN h).2.2 rfl
            refine TC_anyB (fun w' => Ch (fun j => j ∈ blk (.slice Ab body.length cb) ∨ j = gN) w12 w') (fun w' => w'.cell? (((⟨gN, 0, none⟩ : Addr).add (i * 3)).add 1) = some (.slice Ab body.length cb)) 12 mixed rfl (Ch.refl _ _).drew (Ext.cell (Ch.refl _ _).drew (Ext.cell hE hcb)) ?_
            intro w13 e13 hz13 hA hB
            (refine TB_take 0 rfl rfl rfl (by kernel_rfl) (by kernel_rfl) (by kernel_rfl) (fun _ _ _ h => h) ⟨hA, fun _ => hB⟩ (by exact Jaa rfl) rfl ?_; refine TB_take 1 rfl rfl rfl (by kernel_rfl) (by kernel_rfl) (by kernel_rfl) (fun _ _ _ h => h) ⟨hA, fun _ => hB⟩ (by exact Jaa rfl) rfl ?_; refine TB_take 2 rfl rfl rfl (by kernel_rfl) (by kernel_rfl) (by kernel_rfl) (fun _ _ _ h => h) ⟨hA, fun _ => hB⟩ (by exact Jba rfl) rfl ?_; refine TB_take 3 rfl rfl rfl (by kernel_rfl) (by kernel_rfl) (by kernel_rfl) (fun _ _ _ h => h) ⟨hA, fun _ => hB⟩ (by (apply Jbl; exact Us.h; exact rfl; exact Sz.h; exact rfl)) rfl ?_; refine TB_take 5 rfl rfl rfl (by kernel_rfl) (by kernel_rfl) (by kernel_rfl) (fun _ _ _ h => h) ⟨hA, fun _ => hB⟩ (by (apply Jbl; exact Us.h; exact rfl; exact Sz.h; exact rfl)) rfl ?_; refine TB_take 6 rfl rfl rfl (by kernel_rfl) (by kernel_rfl) (by kernel_rfl) (fun _ _ _ h => h) ⟨hA, fun _ => hB⟩ (by exact Pu_load Fl.h rfl (fun _ e => Ch.cell e (hb312.ld rfl) (by rw [block_of_add]; exact hg3A))) rfl ?_; refine TB_take 7 rfl rfl rfl (by kernel_rfl) (by kernel_rfl) (by kernel_rfl) (fun _ _ _ h => h) ⟨hA, fun _ => hB⟩ (by exact Jaa rfl) rfl ?_)
            (refine TB_takeB 4 rfl rfl rfl (by kernel_rfl) rfl (by kernel_rfl) (by kernel_rfl) (by kernel_rfl) (fun _ _ _ h => h) ⟨hA, fun _ => hB⟩ (by exact Pu_load Fl.h rfl (fun _ e => e.2)) rfl ?_)
            (refine TB_take 8 rfl rfl rfl (by kernel_rfl) (by kernel_rfl) (by kernel_rfl) (fun _ _ _ h => h) ⟨hA, fun _ => hB⟩ (by exact Jbe Us.h Sz.h rfl rfl (by omega)) rfl ?_)
            rw [hvk]
            refine TB_one 9 (by kernel_rfl) rfl ?_
            have e1013 := hE.ext e13
            refine TL_appendBx Us.h rfl rfl (hokB.ext e1013) ⟨_, _, rfl, hck, hrk.ext (E10.ext e1013)⟩ (by rw [List.length_take]; omega) rfl ?_
            intro w14 A4 c4 c14 loc14 ho14
            have hs13 := e13.size
            have hs14 := c14.size
            replace hA := (hA.then (c14.mono (fun j hj => .inl hj)))
            replace hB := Ch.cell c14 hB (by rw [block_of_add, block_of_add]; exact hgnb)
            refine Jbq (TN_anyB ⟨hA, fun _ => hB⟩ ?_)
            (refine TB_take 10 rfl rfl rfl (by kernel_rfl) (by kernel_rfl) (by kernel_rfl) (fun _ _ _ h => h) ⟨hA, fun _ => hB⟩ (by exact Jba rfl) rfl ?_; refine TB_take 11 rfl rfl rfl (by kernel_rfl) (by kernel_rfl) (by kernel_rfl) (fun _ _ _ h => h) ⟨hA, fun _ => hB⟩ (by (apply Jbl; exact Us.h; exact rfl; exact Sz.h; exact rfl)) rfl ?_)
            refine TB_one 12 (by kernel_rfl) rfl ?_
            have hown14 := (hown3.ext e1013).ch c14 (fun j h1 h2 h3 => hgnb (by have := hin3 j h1 h2; rw [show blk (.slice (some ⟨gN, 0, none⟩) es.length cN) = [gN] from rfl, List.mem_singleton] at this; rw [← this]; exact h3))
            refine TL_storeOwn rfl (add_lit3 gN (i * 3) 1) rfl Sz.h rfl hown14 (by omega) ?_
            intro w15 c15 hz15 hown15
            refine Jbq (TN_anyB ⟨hA.then (c15.mono (fun j hj => .inr (by have := hj.1; have := hj.2; omega))), fun h => nomatch (show true = false from h)⟩ ?_)
            refine TB_done (by kernel_rfl) ?_
            obtain ⟨nb, hnb⟩ : ∃ nb, nb = body ++ data.take k.toNat := ⟨_, rfl⟩
            rw [← hnb] at ho14 loc14 hown15 hdo
            rw [cells_body (s := nb) hie hx'] at hown15
            have hch : Ch (fun j => j ∈ blk (.slice Ab body.length cb) ∨ j = gN) w13 w15 := (c14.mono (fun j hj => .inl hj)).then (c15.mono (fun j hj => .inr (by have := hj.1; have := hj.2; omega)))
            have hlset : (es.set i ⟨id, nb, safe, .slice A4 nb.length c4, .slice As safe.length cs⟩).length = es.length := List.length_set
            have hv4 : ∀ b ∈ blk (.slice A4 nb.length c4), (b ∈ blk (.slice Ab body.length cb)) ∨ (w13.heap.size ≤ b ∧ b < w14.heap.size) := fun b hb => by
              rcases loc14 with h | ⟨h, h2⟩
              · rw [h] at hb; exact .inl hb
              · rw [h] at hb; rw [List.mem_singleton.1 hb]; exact .inr ⟨Nat.le_refl _, h2⟩
            have hndx : ∀ b ∈ blk (.slice Ab body.length cb), b ∉ blk (.slice As safe.length cs) := fun b h1 h2 => by
              have h3 := (List.nodup_cons.1 hndN).2
              rw [nodes_self hie, List.flatMap_append, List.flatMap_cons, hx'] at h3
              have h4 := (List.nodup_append.1 (List.nodup_append.1 h3).2.1).1
              exact (List.nodup_append.1 (show (blk (.slice Ab body.length cb) ++ blk (.slice As safe.length cs)).Nodup from h4)).2.2 b h1 b h2 rfl
            have E15 : Ext w w15 := (E10.ext e1013).trans hch (fun _ _ t => t) (fun j hj t => by rcases t with t | t; (have := hbB j t; omega); omega)
            have hx15 := ODk.put (x' := ⟨id, nb, safe, .slice A4 nb.length c4, .slice As safe.length cs⟩) (lo := w5.heap.size) (hi := w6.heap.size) (hi' := w15.heap.size) (d' := doD d ⟨2, name, to, size, data⟩) (Nat.le_refl _) (by omega) hmap (hN.ext e1013) (hK.ext e1013) (hT.ext e1013) q1 q2 q3 hie hch (fun j hj => by
                rcases hj with h | h
                · right; rw [hx']; exact List.mem_append.2 (.inl h)
                · exact .inl h) ⟨_, _, by rw [hlset], by rw [hlset]; exact hown15⟩
              ⟨ho14.ch c15 (fun b hb => by simp only [Iv]; rcases hv4 b hb with h | h; (have := hbB b h; omega); omega), (hokS.ext e1013).ch hch (fun b hb h => by rcases h with h | h; exact hndx b h hb; exact (hbS b hb).2.2 h)⟩
              (by
                show (blk _ ++ blk _).Nodup
                rw [List.nodup_append]
                exact ⟨blk_nodup _, blk_nodup _, fun x hx y hy e => by
                  have h1 := hbS y hy
                  rcases hv4 x hx with h | h
                  · exact hndx x h (e ▸ hy)
                  · omega⟩)
              (fun b hb => by
                rcases List.mem_append.1 hb with hb | hb
                · rcases hv4 b hb with h | h
                  · left; rw [hx']; exact List.mem_append.2 (.inl h)
                  · right; omega
                · left; rw [hx']; exact List.mem_append.2 (.inr hb)) (by omega) (by rw [hdo]; rfl) (by rw [hdo]) (by rw [hdo])
            have hb615 : Blk w15 g6 33 (dskC (doD d ⟨2, name, to, size, data⟩) (.slice (some ⟨gN, 0, none⟩) es.length cN) sk1 st1) := by
              rw [hdo]
              exact (hb6.ext e1013).ch hch (fun h => by rcases h with h | h; (have := hbB g6 h; omega); omega)
            have hb415 := (hb4.ext e1013).ch hch (fun h => by rcases h with h | h; (have := hbB g4 h; omega); omega)
            have hb315 := (hb3.ext e1013).ch hch (fun h => by rcases h with h | h; (have := hbB g3 h; omega); omega)
            repeat' (first | apply Jbq | apply Jbr | apply Jbs | apply Jbt | (apply Jcg; (first | exact Jaa rfl | exact Jac Us.h rfl | exact Jad rfl rfl | (apply Jbl; exact Us.h; exact rfl; exact Sz.h; exact rfl)); exact rfl) | refine Jcg (Pu_load Fl.h rfl (fun _ e => by rw [e]; exact hb315.ld rfl)) rfl ?_)
            refine Jcx rfl (fun hlt => ?_) (fun hge => ?_)
            · have hone2 := hx15.one
              repeat' (first | apply Jbs | apply Jbt | refine Jcg (Pu_loadAgg (cs := dskC (doD d ⟨2, name, to, size, data⟩) (.slice (some ⟨gN, 0, none⟩) es.length cN) sk1 st1) Us.h rfl Sz.h rfl (fun _ e j u hu => by rw [e, add0, hb615.cell]; exact hu)) rfl ?_)
              refine TL_storeAgg rfl rfl Sz.h hone2 hb415 rfl ?_
              intro w21 c21 hz21 hb21
              repeat' (first | apply Jbq | apply Jbr | apply Jbu | apply Jbv | apply Jbw | (apply Jcg; exact Jab rfl; exact rfl))
              exact TR_of (resA1 rfl rfl rfl hb21 Us.h rfl Sz.h) ⟨_, sk1, st1, by rw [hdc, if_pos hlt], Ext.then_iv E15 c21 (by omega), (hx15.ch c21 (by intro k _ _; simp only [Iv]; omega)).wide (by omega) (by omega) (Nat.le_refl _)⟩
            · repeat' (first | apply Jbx | apply Jbz)
              exact TN_join () (subEnv_cons rfl (subEnv_cons rfl (subEnv_nil _))) ⟨E15, by omega, hb415, by rw [hdc, if_neg hge], _, sk1, st1, hb615, hx15⟩
          · have hdo : doD d ⟨3, name, to, size, data⟩ = { d with fuse := fuseOf d, nodes := d.nodes.set i (id, body, body) } := by
              unfold doD
              rw [if_neg (by simp), if_neg (by simp), if_pos rfl]
              unfold ndPut
              rw [hoA _ _ _ _ _ rfl, hndA _ _ _ _ _ rfl]
            repeat' (first | apply Jbq | apply Jbr | apply Jbs | apply Jbt | apply Jby | (refine Jce rfl ?_) | (refine Jcf rfl ?_) | (apply Jcg; (first | exact Jaa rfl | exact Jab rfl | exact Jak rfl rfl | exact Jba rfl | (apply Jbl; exact Us.h; exact rfl; exact Sz.h; exact rfl)); exact rfl) | refine Jcg (Pu_load Fl.h rfl (fun _ e => by rw [e]; exact hb3.ld rfl)) rfl ?_ | refine Jcg (Pu_load Fl.h rfl (fun _ e => by rw [e]; exact hcb)) rfl ?_)
            refine TL_call rfl en71 (copyBytes_c hownB.rd (by omega)) rfl rfl ?_
            rintro _ w11 ⟨A2, c2, rfl, e11, ho2⟩
            have hs11 := e11.size
            repeat' ((apply Jcg; (first | exact Jba rfl | (apply Jbl; exact Us.h; exact rfl; exact Sz.h; exact rfl)); exact rfl))
            refine TL_storeOwn rfl (add_lit3 gN (i * 3) 2) rfl Sz.h rfl (hownN.ext e11) (by omega) ?_
            intro w12 c12 hz12 hown12
            rw [cells_safe (s := body) hie hx'] at hown12
            have hbn2 : ∀ x ∈ blk (.slice A2 body.length c2), w10.heap.size ≤ x ∧ x < w11.heap.size := OB.bin ⟨A2, c2, rfl, ho2⟩
            have hlset : (es.set i ⟨id, body, body, .slice Ab body.length cb, .slice A2 body.length c2⟩).length = es.length := List.length_set
            have E12 : Ext w w12 := Ext.then_iv (E10.ext e11) c12 (by omega)
            have hx12 := ODk.put (x' := ⟨id, body, body, .slice Ab body.length cb, .slice A2 body.length c2⟩) (lo := w5.heap.size) (hi := w6.heap.size) (hi' := w12.heap.size) (d' := doD d ⟨3, name, to, size, data⟩) (Nat.le_refl _) (by omega) hmap (hN.ext e11) (hK.ext e11) (hT.ext e11) q1 q2 q3 hie c12 (fun j hj => .inl (by have := hj.1; have := hj.2; omega)) ⟨_, _, by rw [hlset], by rw [hlset]; exact hown12⟩
              ⟨(hokB.ext e11).ch c12 (fun b hb => by have := hbB b hb; simp only [Iv]; omega), (OB.x ⟨A2, c2, rfl, ho2⟩).ch c12 (fun b hb => by have := hbn2 b hb; simp only [Iv]; omega)⟩
              (by
                show (blk _ ++ blk _).Nodup
                rw [List.nodup_append]
                exact ⟨blk_nodup _, blk_nodup _, fun x hx y hy e => by
                  have h1 := q1 x (hbx x (List.mem_append.2 (.inl hx)))
                  have h2 := hbn2 y hy
                  omega⟩)
              (fun b hb => by
                rcases List.mem_append.1 hb with hb | hb
                · left; rw [hx']; exact List.mem_append.2 (.inl hb)
                · right; have := hbn2 b hb; omega) (by omega) (by rw [hdo]; rfl) (by rw [hdo]) (by rw [hdo])
            repeat' (first | apply Jbq | apply Jbx)
            refine TN_join () (subEnv_cons rfl (subEnv_cons rfl (subEnv_nil _))) ⟨E12, by omega, (hb4.ext e11).ch c12 (by simp only [Iv]; omega), rfl, _, sk1, st1, ?_, hx12⟩
            have hb612 := (hb6.ext e11).ch c12 (by simp only [Iv]; omega)
            rw [hdo]
            exact hb612
          · obtain ⟨hz0, hz1⟩ := p6 rfl
            have hc4' : size ≤ (body.length : Int) := by
              have h1 := hc4 rfl
              rw [hoI _ _ _ _ _ rfl, hbodyE] at h1
              exact h1
            have hdo : doD d ⟨4, name, to, size, data⟩ = { d with fuse := fuseOf d, nodes := d.nodes.set i (id, body.take size.toNat, safe) } := by
              unfold doD
              rw [if_neg (by simp), if_neg (by simp), if_neg (by simp), if_pos rfl]
              unfold ndPut
              rw [hoA _ _ _ _ _ rfl, hndA _ _ _ _ _ rfl]
            have hcapB := hownB.cap.1
            obtain ⟨A1, c1, hv1, hc1', hr1⟩ := RB.to (k := size) hownB.rd ⟨hz0, hc4'⟩ hcapB
            repeat' (first | apply Jbq | apply Jbr | apply Jbs | apply Jbt | apply Jby | (refine Jce rfl ?_) | (refine Jcf rfl ?_) | (apply Jcg; (first | exact Jab rfl | exact Jak rfl rfl | (apply Jbl; exact Us.h; exact rfl; exact Sz.h; exact rfl)); exact rfl) | refine Jcg (Pu_load Fl.h rfl (fun _ e => by rw [e]; exact hb3.ld rfl)) rfl ?_)
            refine TC_anyB (fun w' => Ch (Iv gN (gN + 1)) w10 w') (fun w' => Ext w10 w') 11 mixed rfl (Ch.refl _ _).drew (Ch.refl _ _).drew ?_
            intro w11 e11 hz11 hA hB
            (refine TB_take 0 rfl rfl rfl (by kernel_rfl) (by kernel_rfl) (by kernel_rfl) (fun _ _ _ h => h) ⟨hA, fun _ => hB⟩ (by exact Jaa rfl) rfl ?_; refine TB_take 1 rfl rfl rfl (by kernel_rfl) (by kernel_rfl) (by kernel_rfl) (fun _ _ _ h => h) ⟨hA, fun _ => hB⟩ (by exact Jaa rfl) rfl ?_; refine TB_take 2 rfl rfl rfl (by kernel_rfl) (by kernel_rfl) (by kernel_rfl) (fun _ _ _ h => h) ⟨hA, fun _ => hB⟩ (by exact Jba rfl) rfl ?_; refine TB_take 3 rfl rfl rfl (by kernel_rfl) (by kernel_rfl) (by kernel_rfl) (fun _ _ _ h => h) ⟨hA, fun _ => hB⟩ (by (apply Jbl; exact Us.h; exact rfl; exact Sz.h; exact rfl)) rfl ?_; refine TB_take 5 rfl rfl rfl (by kernel_rfl) (by kernel_rfl) (by kernel_rfl) (fun _ _ _ h => h) ⟨hA, fun _ => hB⟩ (by (apply Jbl; exact Us.h; exact rfl; exact Sz.h; exact rfl)) rfl ?_; refine TB_take 6 rfl rfl rfl (by kernel_rfl) (by kernel_rfl) (by kernel_rfl) (fun _ _ _ h => h) ⟨hA, fun _ => hB⟩ (by exact Pu_load Fl.h rfl (fun _ e => Ch.cell e (hb3.ld rfl) (by rw [block_of_add]; simp only [Iv]; omega))) rfl ?_)
            (refine TB_takeB 4 rfl rfl rfl (by kernel_rfl) rfl (by kernel_rfl) (by kernel_rfl) (by kernel_rfl) (fun _ _ _ h => h) ⟨hA, fun _ => hB⟩ (by exact Pu_load Fl.h rfl (fun _ e => Ext.cell e.2 hcb)) rfl ?_)
            (refine TB_take 7 rfl rfl rfl (by kernel_rfl) (by kernel_rfl) (by kernel_rfl) (fun _ _ _ h => h) ⟨hA, fun _ => hB⟩ (by exact Jbe Us.h Sz.h rfl rfl (by omega)) rfl ?_)
            rw [hv1]
            refine TB_one 8 (by kernel_rfl) rfl ?_
            refine TL_call rfl en71 (copyBytes_c (hr1.ext e11) (by rw [List.length_take]; omega)) rfl rfl ?_
            rintro _ w12 ⟨A2, c2, rfl, e12, ho2⟩
            have e1012 := e11.ext e12
            replace hA := hA.ext e12
            replace hB := hB.ext e12
            refine Jbq (TN_anyB ⟨hA, fun _ => hB⟩ ?_)
            (refine TB_take 9 rfl rfl rfl (by kernel_rfl) (by kernel_rfl) (by kernel_rfl) (fun _ _ _ h => h) ⟨hA, fun _ => hB⟩ (by exact Jba rfl) rfl ?_; refine TB_take 10 rfl rfl rfl (by kernel_rfl) (by kernel_rfl) (by kernel_rfl) (fun _ _ _ h => h) ⟨hA, fun _ => hB⟩ (by (apply Jbl; exact Us.h; exact rfl; exact Sz.h; exact rfl)) rfl ?_)
            refine TB_one 11 (by kernel_rfl) rfl ?_
            refine TL_storeOwn rfl (add_lit3 gN (i * 3) 1) rfl Sz.h rfl (hownN.ext e1012) (by omega) ?_
            intro w13 c13 hz13 hown13
            refine Jbq (TN_anyB ⟨hA.then c13, fun h => nomatch (show true = false from h)⟩ ?_)
            refine TB_done (by kernel_rfl) ?_
            have hs11 := e11.size
            have hs12 := e12.size
            rw [cells_body (s := body.take size.toNat) hie hx'] at hown13
            have hbn2 : ∀ x ∈ blk (.slice A2 (body.take size.toNat).length c2), w11.heap.size ≤ x ∧ x < w12.heap.size := OB.bin ⟨A2, c2, rfl, ho2⟩
            have hlset : (es.set i ⟨id, body.take size.toNat, safe, .slice A2 (body.take size.toNat).length c2, .slice As safe.length cs⟩).length = es.length := List.length_set
            have E13 : Ext w w13 := Ext.then_iv (E10.ext e1012) c13 (by omega)
            have hx13 := ODk.put (x' := ⟨id, body.take size.toNat, safe, .slice A2 (body.take size.toNat).length c2, .slice As safe.length cs⟩) (lo := w5.heap.size) (hi := w6.heap.size) (hi' := w13.heap.size) (d' := doD d ⟨4, name, to, size, data⟩) (Nat.le_refl _) (by omega) hmap (hN.ext e1012) (hK.ext e1012) (hT.ext e1012) q1 q2 q3 hie c13 (fun j hj => .inl (by have := hj.1; have := hj.2; omega)) ⟨_, _, by rw [hlset], by rw [hlset]; exact hown13⟩
              ⟨(OB.x ⟨A2, c2, rfl, ho2⟩).ch c13 (fun b hb => by have := hbn2 b hb; simp only [Iv]; omega), (hokS.ext e1012).ch c13 (fun b hb => by have := hbS b hb; simp only [Iv]; omega)⟩
              (by
                show (blk _ ++ blk _).Nodup
                rw [List.nodup_append]
                exact ⟨blk_nodup _, blk_nodup _, fun x hx y hy e => by
                  have h1 := hbS y hy
                  have h2 := hbn2 x hx
                  omega⟩)
              (fun b hb => by
                rcases List.mem_append.1 hb with hb | hb
                · right; have := hbn2 b hb; omega
                · left; rw [hx']; exact List.mem_append.2 (.inr hb)) (by omega) (by rw [hdo]; rfl) (by rw [hdo]) (by rw [hdo])
            repeat' (apply Jbx)
            refine TN_join () (subEnv_cons rfl (subEnv_cons rfl (subEnv_nil _))) ⟨E13, by omega, (hb4.ext e1012).ch c13 (by simp only [Iv]; omega), rfl, _, sk1, st1, ?_, hx13⟩
            have hb613 := (hb6.ext e1012).ch c13 (by simp only [Iv]; omega)
            rw [hdo]
            exact hb613
          · have hdo : doD d ⟨kind, name, to, size, data⟩ = { d with fuse := fuseOf d, turns := d.turns ++ [⟨kind, name, to, 0⟩] } := by
              unfold doD
              rw [if_neg (by simp only; omega), if_neg (by simp only; omega), if_neg (by simp only; omega), if_neg (by simp only; omega), if_neg (by simp only; omega)]
            have hct' := hct (.inr hk56)
            have hC0 : doC d ⟨kind, name, to, size, data⟩ = 0 := by unfold doC; rw [if_neg (by simp only; omega)]
            have key : ∀ w11 g11, Ext w10 w11 → g11 = w10.heap.size → w11.heap.size = g11 + 1 → ∀ w12 st2, Ch (fun j => j ∈ blk st1) w11 w12 → (blk st2 = blk st1 ∨ (blk st2 = [w11.heap.size] ∧ w11.heap.size < w12.heap.size)) → RowOx TnC 121 4 w12 st2 (d.turns ++ [⟨kind, name, to, 0⟩]) → ∀ w13, Ch (Iv g6 (g6 + 1)) w12 w13 → w13.heap.size = w12.heap.size →
                Blk w13 g6 33 [I d.room, I (fuseOf d), I d.next, .slice (some ⟨gN, 0, none⟩) es.length cN, sk1, st2] →
                (Ext w w13 ∧ w10.heap.size ≤ w13.heap.size ∧ Blk w13 g4 33 (dskC noDk (.slice none 0 0) (.slice none 0 0) (.slice none 0 0)) ∧ doC d ⟨kind, name, to, size, data⟩ = 0 ∧ ∃ sn' sk' st', Blk w13 g6 33 (dskC (doD d ⟨kind, name, to, size, data⟩) sn' sk' st') ∧ ODk w13 w5.heap.size w13.heap.size (doD d ⟨kind, name, to, size, data⟩) sn' sk' st') := by
              intro w11 g11 e11 hg11 hz11 w12 st2 c12 loc12 hT12 w13 c13 hz13 hb613
              have hs12 := c12.size
              have hst2 : ∀ b ∈ blk st2, (w5.heap.size ≤ b ∧ b < w6.heap.size ∧ b ∈ blk st1) ∨ (w11.heap.size ≤ b ∧ b < w12.heap.size) := fun b hb => by
                rcases loc12 with h | ⟨h, h2⟩
                · rw [h] at hb; have := q3 b hb; exact .inl ⟨this.1, this.2, hb⟩
                · rw [h] at hb; rw [List.mem_singleton.1 hb]; exact .inr ⟨Nat.le_refl _, h2⟩
              have hN13 := ((hN.ext e11).ch c12 (fun b hb => (q1 b hb).2.2.2)).ch c13 (fun b hb => by have := q1 b hb; simp only [Iv]; omega)
              have hK13 := ((hK.ext e11).ch c12 (fun b hb => (q2 b hb).2.2)).ch c13 (fun b hb => by have := q2 b hb; simp only [Iv]; omega)
              have hT13 := hT12.ch c13 (fun b hb => by have := hst2 b hb; simp only [Iv]; omega)
              have hb413 := ((hb4.ext e11).ch c12 (fun hb => by have := q3 g4 hb; omega)).ch c13 (by simp only [Iv]; omega)
              have E12 : Ext w w12 := (E10.ext e11).trans c12 (fun _ _ t => t) (fun j hj t => by have := q3 j t; omega)
              refine ⟨Ext.then_iv E12 c13 (by omega), by omega, hb413, hC0, _, sk1, st2, by rw [hdo]; exact hb613, ODk.mk3 (es := es) (Nat.le_refl _) (by rw [hdo]; exact hmap) hN13 (by rw [hdo]; exact hK13) (by rw [hdo]; exact hT13) (fun b hb => ?_) (fun b hb => by have h1 := q2 b hb; exact ⟨h1.1, by omega, fun h => by rcases hst2 b h with h2 | h2; exact h1.2.2 h2.2.2; omega⟩) (fun b hb => by have h1 := hst2 b hb; omega)⟩
              have h1 := q1 b hb
              exact ⟨h1.1, by omega, h1.2.2.1, fun h => by rcases hst2 b h with h2 | h2; exact h1.2.2.2 h2.2.2; omega⟩
            have hg6 : ∀ b ∈ blk st1, b ≠ g6 := fun b hb => by have := q3 b hb; omega
            rcases hk56 with rfl | rfl
            · repeat' (first | apply Jbq | apply Jbr | apply Jbs | apply Jbt | apply Jby | apply Jbz | (refine Jce rfl ?_) | (refine Jcf rfl ?_) | (apply Jcg; (first | exact Jab rfl | exact Jak rfl rfl | (apply Jbl; exact Us.h; exact rfl; exact Sz.h; exact rfl)); exact rfl) | refine Jcg (Pu_load Fl.h rfl (fun _ e => by rw [e]; exact hb6.ld rfl)) rfl ?_ | refine Jcg (Pu_load Fl.h rfl (fun _ e => by rw [e]; exact hb3.ld rfl)) rfl ?_ | refine Jcg (Pu_build (cs := TnC ⟨5, name, to, 0⟩) rfl (by kernel_rfl)) rfl ?_)
              refine TL_buildSlice Us.h Zi.h rfl rfl rfl rfl (fillT ⟨5, name, to, 0⟩) rfl rfl ?_
              intro w11 g11 e11 hg11 hz11 hown11
              skip
              refine TL_appendOx Us.h Inf.h rfl rfl rfl TnC_one rfl rfl (hT.ext e11) (RowO.new (l := [(⟨5, name, to, 0⟩ : TnD)]) rfl hown11 hg11 hz11).rd (by simp only [List.length_cons, List.length_nil]; omega) rfl ?_
              intro w12 st2 c12 loc12 hT12
              repeat' ((apply Jcg; (apply Jbl; exact Us.h; exact rfl; exact Sz.h; exact rfl); exact rfl))
              refine TL_store rfl rfl Sz.h hT12.one ((hb6.ext e11).ch c12 (fun hb => hg6 g6 hb rfl)) rfl ?_
              intro w13 c13 hz13 hb613
              repeat' (first | apply Jbq | apply Jbx)
              exact TN_join () (subEnv_cons rfl (subEnv_cons rfl (subEnv_nil _))) (key w11 g11 e11 hg11 hz11 w12 st2 c12 loc12 hT12 w13 c13 hz13 hb613)
            · repeat' (first | apply Jbq | apply Jbr | apply Jbs | apply Jbt | apply Jby | (refine Jce rfl ?_) | (refine Jcf rfl ?_) | (apply Jcg; (first | exact Jab rfl | exact Jak rfl rfl | (apply Jbl; exact Us.h; exact rfl; exact Sz.h; exact rfl)); exact rfl) | refine Jcg (Pu_load Fl.h rfl (fun _ e => by rw [e]; exact hb6.ld rfl)) rfl ?_ | refine Jcg (Pu_load Fl.h rfl (fun _ e => by rw [e]; exact hb3.ld rfl)) rfl ?_ | refine Jcg (Pu_build (cs := TnC ⟨6, name, to, 0⟩) rfl (by kernel_rfl)) rfl ?_)
              refine TL_buildSlice Us.h Zi.h rfl rfl rfl rfl (fillT ⟨6, name, to, 0⟩) rfl rfl ?_
              intro w11 g11 e11 hg11 hz11 hown11
              skip
              refine TL_appendOx Us.h Inf.h rfl rfl rfl TnC_one rfl rfl (hT.ext e11) (RowO.new (l := [(⟨6, name, to, 0⟩ : TnD)]) rfl hown11 hg11 hz11).rd (by simp only [List.length_cons, List.length_nil]; omega) rfl ?_
              intro w12 st2 c12 loc12 hT12
              repeat' ((apply Jcg; (apply Jbl; exact Us.h; exact rfl; exact Sz.h; exact rfl); exact rfl))
              refine TL_store rfl rfl Sz.h hT12.one ((hb6.ext e11).ch c12 (fun hb => hg6 g6 hb rfl)) rfl ?_
              intro w13 c13 hz13 hb613
              repeat' (first | apply Jbq | apply Jbx)
              exact TN_join () (subEnv_cons rfl (subEnv_cons rfl (subEnv_nil _))) (key w11 g11 e11 hg11 hz11 w12 st2 c12 loc12 hT12 w13 c13 hz13 hb613)
        rintro _ w20 ⟨E20, hs20, hb420, hC0, sn2, sk2, st2, hb620, hx20⟩
        have hone2 := hx20.one
        repeat' (first | apply Jbs | apply Jbt | refine Jcg (Pu_loadAgg (cs := dskC (doD d ⟨kind, name, to, size, data⟩) sn2 sk2 st2) Us.h rfl Sz.h rfl (fun _ e j u hu => by rw [e, add0, hb620.cell]; exact hu)) rfl ?_)
        refine TL_storeAgg rfl rfl Sz.h hone2 hb420 rfl ?_
        intro w21 c21 hz21 hb21
        repeat' (first | apply Jbq | apply Jbr | apply Jbu | (apply Jcg; exact Jab rfl; exact rfl))
        exact TR_of (resA1 rfl rfl rfl hb21 Us.h rfl Sz.h) ⟨sn2, sk2, st2, by rw [hC0], Ext.then_iv E20 c21 (by omega), (hx20.ch c21 (by intro k _ _; simp only [Iv]; omega)).wide (by omega) (by omega) (Nat.le_refl _)⟩
end Go.Proofs.YtggaghghclomkaaGreat

/- Contracts: the code of an operation on a disk, by the reference. -/
namespace Go.Proofs.YtggaghghclomkaaGreat
open Go.RowKit
theorem dirs_find {d : DiskP} (h : DOk d) (s : List UInt8) : (dHas (pDir d) s = true → 0 < dFind (pDir d) s) ∧ (dHas (pDir d) s = false → dFind (pDir d) s = 0) := ⟨fun e => by have := (pFind_pos h s).2 e; omega, fun e => dFind_none e⟩
attribute [local irreducible] TL TC TN TX TR TQ TA Pu Ret
set_option maxRecDepth 100000 in
set_option maxHeartbeats 16000000 in
theorem l03Code_c {w : World} {lo hi : Nat} {d : DiskP} {sn sk st vo : Value} {o : OpD} (h : RDk w lo hi d sn sk st) (hf : d.fits) (hl : totD d ≤ 1048576) (hD : DOk d) (hO : pOp o = true) :
    Ret Tryz.prog 83 #[.agg (dskC d sn sk st).toArray, .agg (opC o vo).toArray] w fun v' w' => v' = I (pCode d o) ∧ Ext w w' := by
  have hh := h
  obtain ⟨ds, A, c, hm, rfl, hc, hr, hok⟩ := h.1
  obtain ⟨At, ct, rfl, hct, hrt⟩ := h.2.2.row
  have hln : d.nodes.length = ds.length := by rw [← hm, List.length_map]
  have hB := hD.base
  unfold dBase at hB
  obtain ⟨p1, p2, p3, p4, p5, p6, p7, p8, p9⟩ := pOp_parts hO
  obtain ⟨kind, name, to, size, data⟩ := o
  simp only at p1 p2 p3 p4 p5 p6 p7 p8 p9
  refine Ret_enter Tryz.func83 rfl rfl rfl ?_
  repeat' (first | apply Jbs | apply Jbt)
  refine TL_box (cs := dskC d (.slice A ds.length c) sk (.slice At d.turns.length ct)) rfl rfl ?_
  intro w1 g2 e1 hg2 hz1 hb2
  skip
  refine TL_box (cs := opC ⟨kind, name, to, size, data⟩ vo) rfl rfl ?_
  intro w2 g3 e2 hg3 hz2 hb3
  replace hb2 := hb2.ext e2
  have E2 : Ext w w2 := e1.ext e2
  repeat' (first | apply Jbq | apply Jbr | apply Jbs | apply Jbt | (apply Jcg; (first | exact Jab rfl | exact Jak rfl rfl | (apply Jbl; exact Us.h; exact rfl; exact Sz.h; exact rfl)); exact rfl) | refine Jcg (Pu_load Fl.h rfl (fun _ e => by rw [e]; exact hb2.ld rfl)) rfl ?_)
  refine Jcx rfl (fun h0 => ?_) (fun h0 => ?_)
  · repeat' (first | apply Jbq | apply Jbr | apply Jbs | apply Jbt | apply Jbu | apply Jbv | (apply Jcg; exact Jab rfl; exact rfl))
    exact TR_of (res1 rfl rfl) ⟨by unfold pCode; rw [if_pos h0], E2⟩
  repeat' (first | apply Jbr | apply Jbs | apply Jbz)
  refine TC_any mixed rfl ?_
  intro w3 hE hz3
  (refine Jco 0 rfl (by kernel_rfl) (by kernel_rfl) (by kernel_rfl) (fun _ _ _ h => h) hE (by exact Pu_loadAgg (cs := dskC d (.slice A ds.length c) sk (.slice At d.turns.length ct)) Us.h rfl Sz.h rfl (fun _ e j u hu => Ext.cell e (by rw [add0, hb2.cell]; exact hu))) rfl ?_; refine Jco 2 rfl (by kernel_rfl) (by kernel_rfl) (by kernel_rfl) (fun _ _ _ h => h) hE (by (apply Jbl; exact Us.h; exact rfl; exact Sz.h; exact rfl)) rfl ?_; refine Jco 3 rfl (by kernel_rfl) (by kernel_rfl) (by kernel_rfl) (fun _ _ _ h => h) hE (by exact Pu_load Fl.h rfl (fun _ e => Ext.cell e (hb3.ld rfl))) rfl ?_)
  refine TA_one 1 (by kernel_rfl) rfl ?_
  refine TL_call rfl en86 (specDiskDir_c (hh.ext (E2.ext hE)) hf hl) rfl rfl ?_
  rintro v4 w4 ⟨e4, hr4⟩
  rw [pDirs_yes hD] at hr4
  have hpl : (pDir d).length ≤ 1048576 := by have := pDirs_length (d := d); rw [pDirs_yes hD] at this; omega
  have hE4 := hE.ext e4
  clear hE
  have hE := hE4
  refine Jbq (TN_any hE ?_)
  refine TA_one 4 (by kernel_rfl) rfl ?_
  refine TL_call rfl en85 (l03Find_c hr4 hpl) rfl rfl ?_
  rintro _ w5 ⟨rfl, e5⟩
  have hE5 := hE.ext e5
  clear hE hE4
  have hE := hE5
  refine Jbq (TN_any hE ?_)
  (refine Jco 5 rfl (by kernel_rfl) (by kernel_rfl) (by kernel_rfl) (fun _ _ _ h => h) hE (by exact Jab rfl) rfl ?_)
  refine TA_done (by kernel_rfl) ?_
  replace hb2 := hb2.ext hE
  replace hb3 := hb3.ext hE
  have E5 := E2.ext hE
  obtain ⟨hz1', hz0'⟩ := dirs_find hD name
  have hk7 : kind = 1 ∨ kind = 2 ∨ kind = 3 ∨ kind = 4 ∨ kind = 5 ∨ kind = 6 ∨ kind = 7 := by omega
  cases hhas : dHas (pDir d) name with
  | false =>
    rw [hz0' hhas]
    clear hr hok hrt e1 e2 hE hE5 E2
    rcases hk7 with rfl | rfl | rfl | rfl | rfl | rfl | rfl
    all_goals (repeat' (first | apply Jbq | apply Jbr | apply Jbs | apply Jbt | apply Jbu | apply Jbv | apply Jbz | (refine Jce rfl ?_) | (refine Jcf rfl ?_) | (apply Jcg; (first | exact Jaa rfl | exact Jab rfl | exact Jac Us.h rfl | exact Jah rfl rfl | exact Jai rfl rfl | exact Jak rfl rfl | exact Jal rfl rfl | exact Jam rfl rfl | exact Jau Us.h rfl rfl | (apply Jbl; exact Us.h; exact rfl; exact Sz.h; exact rfl)); exact rfl) | refine Jch rfl rfl rfl ?_ | refine Jci rfl rfl rfl rfl rfl ?_ | refine Jcj rfl rfl rfl rfl ?_ | refine Jcg (Pu_load Fl.h rfl (fun _ e => by rw [e]; exact hb2.ld rfl)) rfl ?_ | refine Jcg (Pu_load Fl.h rfl (fun _ e => by rw [e]; exact hb3.ld rfl)) rfl ?_ | (refine Jcs rfl rfl (fun hb => ?_) (fun hb => ?_) <;> (try (exfalso; omega))) | (refine Jcx rfl (fun hb => ?_) (fun hb => ?_) <;> (try (exfalso; omega)))))
    all_goals first
      | (refine TR_of (res1 rfl rfl) ⟨congrArg I ?_, E5⟩; (first | rw [pCode_1 rfl] | rw [pCode_23 (.inl rfl)] | rw [pCode_23 (.inr rfl)] | rw [pCode_4 rfl] | rw [pCode_5 rfl] | rw [pCode_6 rfl] | rw [pCode_7 rfl]); (try simp only [hhas]); (repeat' split) <;> first | rfl | (exfalso; omega) | contradiction)
      | skip
    all_goals (refine TC_quietExt mixed (by kernel_rfl) ?_)
    all_goals (repeat' (first | (apply Jck; (first | exact Jaa rfl | exact Jai rfl rfl | exact Jak rfl rfl | (apply Jbl; exact Us.h; exact rfl; exact Sz.h; exact rfl)); exact rfl) | refine Jcl rfl rfl rfl ?_ | refine Jcm rfl rfl rfl rfl rfl ?_ | refine Jck (Pu_load Fl.h rfl (fun _ e => Ext.cell e (hb3.ld rfl))) rfl ?_))
    all_goals (refine TQ_nil fun w5 e5 => ?_)
    all_goals (replace hb2 := hb2.ext e5; replace hb3 := hb3.ext e5)
    all_goals (repeat' (first | apply Jbq | apply Jbr | apply Jbs | apply Jbt | apply Jbu | apply Jbz | (refine Jcf rfl ?_) | (apply Jcg; exact Jab rfl; exact rfl)))
    all_goals (refine TR_of (res1 rfl rfl) ⟨congrArg I ?_, E5.ext e5⟩; (first | rw [pCode_1 rfl] | rw [pCode_23 (.inl rfl)] | rw [pCode_23 (.inr rfl)] | rw [pCode_4 rfl] | rw [pCode_5 rfl] | rw [pCode_6 rfl] | rw [pCode_7 rfl]); (try simp only [hhas]); (repeat' split) <;> first | rfl | (exfalso; omega) | contradiction)
  | true =>
    obtain ⟨i, hi, hat, _⟩ := hD.dirAt hhas
    have hne7 : kind ≠ 7 := fun e => by rw [p2 e, hD.noName] at hhas; cases hhas
    have hbat : bodyAt d (opAt d ⟨kind, name, to, size, data⟩) = d.nodes[i].2.1 := by unfold opAt; simp only; rw [hat]; exact bodyAt_nat hi
    obtain ⟨ad, rfl, hcell⟩ := Rd.elem NdC_len (hr.ext E5) (k := i) (by omega)
    have hni : d.nodes[i] = NdP ds[i] := by simp only [← hm, List.getElem_map]
    have hbody : d.nodes[i].2.1 = ds[i].body := by rw [hni]; rfl
    have hrb := (hok _ (List.getElem_mem (show i < ds.length by omega))).1
    have hcv : w5.cell? ((ad.add (i * 3)).add 1) = some (ds[i]'(by omega)).vb := hcell 1 _ rfl
    obtain ⟨x, hx⟩ : ∃ x, x = ds[i]'(by omega) := ⟨_, rfl⟩
    rw [← hx] at hcv hrb hbody
    rw [hbody] at hbat
    obtain ⟨Ab, cb, hvb, hcb, hrdb⟩ := hrb
    rw [hvb] at hcv
    obtain ⟨B, hBq⟩ : ∃ B, B = x.body := ⟨_, rfl⟩
    rw [← hBq] at hcv hbat
    clear hr hok hrt e1 e2 hcell hrdb hE hE5 E2
    have hk6 : kind = 1 ∨ kind = 2 ∨ kind = 3 ∨ kind = 4 ∨ kind = 5 ∨ kind = 6 := by omega
    have hnd : ∀ w', Ext w5 w' → Ret Tryz.prog 84 #[.agg (dskC d (.slice (some ad) ds.length c) sk (.slice At d.turns.length ct)).toArray, I (dFind (pDir d) name)] w' fun v w'' => v = I (i : Int) ∧ Ext w5 w'' := fun w' e =>
      (specl03At_c (hh.ext (E5.ext e)) (by omega)).mono fun v w'' ⟨hv, e2⟩ => ⟨by rw [hv, hat], e.ext e2⟩
    have hz := hz1' hhas
    obtain ⟨z, hzq⟩ : ∃ z, z = dFind (pDir d) name := ⟨_, rfl⟩
    rw [← hzq] at hz hnd ⊢
    have hzt : decide (0 < z) = true := decide_eq_true hz
    clear hzq hz1' hz0'
    rcases hk6 with rfl | rfl | rfl | rfl | rfl | rfl
    all_goals (repeat' (first | apply Jbq | apply Jbr | apply Jbs | apply Jbt | (apply Jcg; (first | exact Jaa rfl | exact Jah rfl rfl | exact Jak rfl rfl | exact Jal rfl rfl | exact Jam rfl rfl | exact Jau Us.h rfl rfl | (apply Jbl; exact Us.h; exact rfl; exact Sz.h; exact rfl)); exact rfl) | refine Jch rfl rfl rfl ?_ | refine Jcg (Pu_load Fl.h rfl (fun _ e => by rw [e]; exact hb3.ld rfl)) rfl ?_))
    all_goals (try rw [hzt])
    all_goals (repeat' (first | apply Jbq | apply Jbr | apply Jbs | apply Jbt | apply Jbu | apply Jbv | apply Jbz | (refine Jce rfl ?_) | (refine Jcf rfl ?_) | (apply Jcg; (first | exact Jaa rfl | exact Jab rfl | exact Jac Us.h rfl | exact Jah rfl rfl | exact Jai rfl rfl | exact Jak rfl rfl | (apply Jbl; exact Us.h; exact rfl; exact Sz.h; exact rfl)); exact rfl) | refine Jch rfl rfl rfl ?_ | refine Jci rfl rfl rfl rfl rfl ?_ | refine Jcj rfl rfl rfl rfl ?_ | refine Jcg (Pu_load Fl.h rfl (fun _ e => by rw [e]; exact hb2.ld rfl)) rfl ?_ | refine Jcg (Pu_load Fl.h rfl (fun _ e => by rw [e]; exact hb3.ld rfl)) rfl ?_ | (refine Jcx rfl (fun hb => ?_) (fun hb => ?_) <;> (try (exfalso; omega)))))
    all_goals first
      | (refine TR_of (res1 rfl rfl) ⟨congrArg I ?_, E5⟩; (first | rw [pCode_1 rfl] | rw [pCode_23 (.inl rfl)] | rw [pCode_23 (.inr rfl)] | rw [pCode_4 rfl] | rw [pCode_5 rfl] | rw [pCode_6 rfl] | rw [pCode_7 rfl]); (try simp only [hhas]); (repeat' split) <;> first | rfl | (exfalso; omega) | contradiction)
      | skip
    all_goals (refine TC_quietExt mixed (by kernel_rfl) ?_)
    all_goals (repeat' (first | (apply Jck; (first | exact Jaa rfl | exact Jac Us.h rfl | exact Jah rfl rfl | exact Jai rfl rfl | exact Jak rfl rfl | exact Jam rfl rfl | exact Jar Us.h Sz.h rfl rfl (by omega) | exact Jas rfl rfl | (apply Jbl; exact Us.h; exact rfl; exact Sz.h; exact rfl)); exact rfl) | refine Jcl rfl rfl rfl ?_ | refine Jcm rfl rfl rfl rfl rfl ?_ | refine Jcn rfl rfl rfl rfl ?_ | refine Jck (Pu_load Fl.h rfl (fun _ e => Ext.cell e (hb2.ld rfl))) rfl ?_ | refine Jck (Pu_load Fl.h rfl (fun _ e => Ext.cell e (hb3.ld rfl))) rfl ?_ | refine Jck (Pu_load Fl.h rfl (fun _ e => Ext.cell e hcv)) rfl ?_ | refine Jck (Pu_loadAgg (cs := dskC d (.slice (some ad) ds.length c) sk (.slice At d.turns.length ct)) Us.h rfl Sz.h rfl (fun _ e j u hu => Ext.cell e (by rw [add0, hb2.cell]; exact hu))) rfl ?_ | refine TQ_call rfl en84 hnd rfl ?_ | (refine Jcv rfl rfl (fun hb => ?_) (fun hb => ?_) <;> (try (exfalso; omega)))))
    all_goals (refine TQ_nil fun w6 e6 => ?_)
    all_goals (replace hb2 := hb2.ext e6; replace hb3 := hb3.ext e6)
    all_goals (repeat' (first | apply Jbq | apply Jbr | apply Jbs | apply Jbt | apply Jbu | apply Jbv | apply Jbz | (refine Jce rfl ?_) | (refine Jcf rfl ?_) | (apply Jcg; exact Jab rfl; exact rfl) | (refine Jcx rfl (fun hb => ?_) (fun hb => ?_) <;> (try (exfalso; omega)))))
    all_goals (refine TR_of (res1 rfl rfl) ⟨congrArg I ?_, E5.ext e6⟩; (first | rw [pCode_1 rfl] | rw [pCode_23 (.inl rfl)] | rw [pCode_23 (.inr rfl)] | rw [pCode_4 rfl, hbat] | rw [pCode_5 rfl] | rw [pCode_6 rfl] | rw [pCode_7 rfl]); (try simp only [hhas]); (repeat' split) <;> first | rfl | (exfalso; omega) | contradiction)
end Go.Proofs.YtggaghghclomkaaGreat
