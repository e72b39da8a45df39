/- Texts of this proof laid together, in the order in which they build; what each proves stands ahead of it. No condition but those told there. -/
import Derived.Test.YtggaghghclomkaaGreatQFT8f

/- Contracts: the code of an operation on a disk, by the reference. -/
namespace Go.Proofs.YtggaghghclomkaaGreat
open Go.RowKit
theorem dirs_find {d : DiskP} (h : DOk d) (s : List UInt8) : (dHas (pDir d) s = true → 0 < dFind (pDir d) s) ∧ (dHas (pDir d) s = false → dFind (pDir d) s = 0) := ⟨fun e => by have := (pFind_pos h s).2 e; omega, fun e => dFind_none e⟩
attribute [local irreducible] TL TC TN TX TR TQ TA Pu Ret
set_option maxRecDepth 100000 in
set_option maxHeartbeats 16000000 in
theorem l03Code_c {w : World} {lo hi : Nat} {d : DiskP} {sn sk st vo : Value} {o : OpD} (h : RDk w lo hi d sn sk st) (hf : d.fits) (hl : totD d ≤ 1048576) (hD : DOk d) (hO : pOp o = true) :
    Ret Tryz.prog 83 #[.agg (dskC d sn sk st).toArray, .agg (opC o vo).toArray] w fun v' w' => v' = I (pCode d o) ∧ Ext w w' := by
  have hh := h
  obtain ⟨ds, A, c, hm, rfl, hc, hr, hok⟩ := h.1
  obtain ⟨At, ct, rfl, hct, hrt⟩ := h.2.2.row
  have hln : d.nodes.length = ds.length := by rw [← hm, List.length_map]
  have hB := hD.base
  unfold dBase at hB
  obtain ⟨p1, p2, p3, p4, p5, p6, p7, p8, p9⟩ := pOp_parts hO
  obtain ⟨kind, name, to, size, data⟩ := o
  simp only at p1 p2 p3 p4 p5 p6 p7 p8 p9
  refine Ret_enter Tryz.func83 rfl rfl rfl ?_
  repeat' (first | apply Jbs | apply Jbt)
  refine TL_box (cs := dskC d (.slice A ds.length c) sk (.slice At d.turns.length ct)) rfl rfl ?_
  intro w1 g2 e1 hg2 hz1 hb2
  skip
  refine TL_box (cs := opC ⟨kind, name, to, size, data⟩ vo) rfl rfl ?_
  intro w2 g3 e2 hg3 hz2 hb3
  replace hb2 := hb2.ext e2
  have E2 : Ext w w2 := e1.ext e2
  repeat' (first | apply Jbq | apply Jbr | apply Jbs | apply Jbt | (apply Jcg; (first | exact Jab rfl | exact Jak rfl rfl | (apply Jbl; exact Us.h; exact rfl; exact Sz.h; exact rfl)); exact rfl) | refine Jcg (Pu_load Fl.h rfl (fun _ e => by rw [e]; exact hb2.ld rfl)) rfl ?_)
  refine Jcx rfl (fun h0 => ?_) (fun h0 => ?_)
  · repeat' (first | apply Jbq | apply Jbr | apply Jbs | apply Jbt | apply Jbu | apply Jbv | (apply Jcg; exact Jab rfl; exact rfl))
    exact TR_of (res1 rfl rfl) ⟨by unfold pCode; rw [if_pos h0], E2⟩
  repeat' (first | apply Jbr | apply Jbs | apply Jbz)
  refine TC_any mixed rfl ?_
  intro w3 hE hz3
  (refine Jco 0 rfl (by kernel_rfl) (by kernel_rfl) (by kernel_rfl) (fun _ _ _ h => h) hE (by exact Pu_loadAgg (cs := dskC d (.slice A ds.length c) sk (.slice At d.turns.length ct)) Us.h rfl Sz.h rfl (fun _ e j u hu => Ext.cell e (by rw [add0, hb2.cell]; exact hu))) rfl ?_; refine Jco 2 rfl (by kernel_rfl) (by kernel_rfl) (by kernel_rfl) (fun _ _ _ h => h) hE (by (apply Jbl; exact Us.h; exact rfl; exact Sz.h; exact rfl)) rfl ?_; refine Jco 3 rfl (by kernel_rfl) (by kernel_rfl) (by kernel_rfl) (fun _ _ _ h => h) hE (by exact Pu_load Fl.h rfl (fun _ e => Ext.cell e (hb3.ld rfl))) rfl ?_)
  refine TA_one 1 (by kernel_rfl) rfl ?_
  refine TL_call rfl en86 (specDiskDir_c (hh.ext (E2.ext hE)) hf hl) rfl rfl ?_
  rintro v4 w4 ⟨e4, hr4⟩
  rw [pDirs_yes hD] at hr4
  have hpl : (pDir d).length ≤ 1048576 := by have := pDirs_length (d := d); rw [pDirs_yes hD] at this; omega
  have hE4 := hE.ext e4
  clear hE
  have hE := hE4
  refine Jbq (TN_any hE ?_)
  refine TA_one 4 (by kernel_rfl) rfl ?_
  refine TL_call rfl en85 (l03Find_c hr4 hpl) rfl rfl ?_
  rintro _ w5 ⟨rfl, e5⟩
  have hE5 := hE.ext e5
  clear hE hE4
  have hE := hE5
  refine Jbq (TN_any hE ?_)
  (refine Jco 5 rfl (by kernel_rfl) (by kernel_rfl) (by kernel_rfl) (fun _ _ _ h => h) hE (by exact Jab rfl) rfl ?_)
  refine TA_done (by kernel_rfl) ?_
  replace hb2 := hb2.ext hE
  replace hb3 := hb3.ext hE
  have E5 := E2.ext hE
  obtain ⟨hz1', hz0'⟩ := dirs_find hD name
  have hk7 : kind = 1 ∨ kind = 2 ∨ kind = 3 ∨ kind = 4 ∨ kind = 5 ∨ kind = 6 ∨ kind = 7 := by omega
  cases hhas : dHas (pDir d) name with
  | false =>
    rw [hz0' hhas]
    clear hr hok hrt e1 e2 hE hE5 E2
    rcases hk7 with rfl | rfl | rfl | rfl | rfl | rfl | rfl
    all_goals (repeat' (first | apply Jbq | apply Jbr | apply Jbs | apply Jbt | apply Jbu | apply Jbv | apply Jbz | (refine Jce rfl ?_) | (refine Jcf rfl ?_) | (apply Jcg; (first | exact Jaa rfl | exact Jab rfl | exact Jac Us.h rfl | exact Jah rfl rfl | exact Jai rfl rfl | exact Jak rfl rfl | exact Jal rfl rfl | exact Jam rfl rfl | exact Jau Us.h rfl rfl | (apply Jbl; exact Us.h; exact rfl; exact Sz.h; exact rfl)); exact rfl) | refine Jch rfl rfl rfl ?_ | refine Jci rfl rfl rfl rfl rfl ?_ | refine Jcj rfl rfl rfl rfl ?_ | refine Jcg (Pu_load Fl.h rfl (fun _ e => by rw [e]; exact hb2.ld rfl)) rfl ?_ | refine Jcg (Pu_load Fl.h rfl (fun _ e => by rw [e]; exact hb3.ld rfl)) rfl ?_ | (refine Jcs rfl rfl (fun hb => ?_) (fun hb => ?_) <;> (try (exfalso; omega))) | (refine Jcx rfl (fun hb => ?_) (fun hb => ?_) <;> (try (exfalso; omega)))))
    all_goals first
      | (refine TR_of (res1 rfl rfl) ⟨congrArg I ?_, E5⟩; (first | rw [pCode_1 rfl] | rw [pCode_23 (.inl rfl)] | rw [pCode_23 (.inr rfl)] | rw [pCode_4 rfl] | rw [pCode_5 rfl] | rw [pCode_6 rfl] | rw [pCode_7 rfl]); (try simp only [hhas]); (repeat' split) <;> first | rfl | (exfalso; omega) | contradiction)
      | skip
    all_goals (refine TC_quietExt mixed (by kernel_rfl) ?_)
    all_goals (repeat' (first | (apply Jck; (first | exact Jaa rfl | exact Jai rfl rfl | exact Jak rfl rfl | (apply Jbl; exact Us.h; exact rfl; exact Sz.h; exact rfl)); exact rfl) | refine Jcl rfl rfl rfl ?_ | refine Jcm rfl rfl rfl rfl rfl ?_ | refine Jck (Pu_load Fl.h rfl (fun _ e => Ext.cell e (hb3.ld rfl))) rfl ?_))
    all_goals (refine TQ_nil fun w5 e5 => ?_)
    all_goals (replace hb2 := hb2.ext e5; replace hb3 := hb3.ext e5)
    all_goals (repeat' (first | apply Jbq | apply Jbr | apply Jbs | apply Jbt | apply Jbu | apply Jbz | (refine Jcf rfl ?_) | (apply Jcg; exact Jab rfl; exact rfl)))
    all_goals (refine TR_of (res1 rfl rfl) ⟨congrArg I ?_, E5.ext e5⟩; (first | rw [pCode_1 rfl] | rw [pCode_23 (.inl rfl)] | rw [pCode_23 (.inr rfl)] | rw [pCode_4 rfl] | rw [pCode_5 rfl] | rw [pCode_6 rfl] | rw [pCode_7 rfl]); (try simp only [hhas]); (repeat' split) <;> first | rfl | (exfalso; omega) | contradiction)
  | true =>
    obtain ⟨i, hi, hat, _⟩ := hD.dirAt hhas
    have hne7 : kind ≠ 7 := fun e => by rw [p2 e, hD.noName] at hhas; cases hhas
    have hbat : bodyAt d (opAt d ⟨kind, name, to, size, data⟩) = d.nodes[i].2.1 := by unfold opAt; simp only; rw [hat]; exact bodyAt_nat hi
    obtain ⟨ad, rfl, hcell⟩ := Rd.elem NdC_len (hr.ext E5) (k := i) (by omega)
    have hni : d.nodes[i] = NdP ds[i] := by simp only [← hm, List.getElem_map]
    have hbody : d.nodes[i].2.1 = ds[i].body := by rw [hni]; rfl
    have hrb := (hok _ (List.getElem_mem (show i < ds.length by omega))).1
    have hcv : w5.cell? ((ad.add (i * 3)).add 1) = some (ds[i]'(by omega)).vb := hcell 1 _ rfl
    obtain ⟨x, hx⟩ : ∃ x, x = ds[i]'(by omega) := ⟨_, rfl⟩
    rw [← hx] at hcv hrb hbody
    rw [hbody] at hbat
    obtain ⟨Ab, cb, hvb, hcb, hrdb⟩ := hrb
    rw [hvb] at hcv
    obtain ⟨B, hBq⟩ : ∃ B, B = x.body := ⟨_, rfl⟩
    rw [← hBq] at hcv hbat
    clear hr hok hrt e1 e2 hcell hrdb hE hE5 E2
    have hk6 : kind = 1 ∨ kind = 2 ∨ kind = 3 ∨ kind = 4 ∨ kind = 5 ∨ kind = 6 := by omega
    have hnd : ∀ w', Ext w5 w' → Ret Tryz.prog 84 #[.agg (dskC d (.slice (some ad) ds.length c) sk (.slice At d.turns.length ct)).toArray, I (dFind (pDir d) name)] w' fun v w'' => v = I (i : Int) ∧ Ext w5 w'' := fun w' e =>
      (specl03At_c (hh.ext (E5.ext e)) (by omega)).mono fun v w'' ⟨hv, e2⟩ => ⟨by rw [hv, hat], e.ext e2⟩
    have hz := hz1' hhas
    obtain ⟨z, hzq⟩ : ∃ z, z = dFind (pDir d) name := ⟨_, rfl⟩
    rw [← hzq] at hz hnd ⊢
    have hzt : decide (0 < z) = true := decide_eq_true hz
    clear hzq hz1' hz0'
    rcases hk6 with rfl | rfl | rfl | rfl | rfl | rfl
    all_goals (repeat' (first | apply Jbq | apply Jbr | apply Jbs | apply Jbt | (apply Jcg; (first | exact Jaa rfl | exact Jah rfl rfl | exact Jak rfl rfl | exact Jal rfl rfl | exact Jam rfl rfl | exact Jau Us.h rfl rfl | (apply Jbl; exact Us.h; exact rfl; exact Sz.h; exact rfl)); exact rfl) | refine Jch rfl rfl rfl ?_ | refine Jcg (Pu_load Fl.h rfl (fun _ e => by rw [e]; exact hb3.ld rfl)) rfl ?_))
    all_goals (try rw [hzt])
    all_goals (repeat' (first | apply Jbq | apply Jbr | apply Jbs | apply Jbt | apply Jbu | apply Jbv | apply Jbz | (refine Jce rfl ?_) | (refine Jcf rfl ?_) | (apply Jcg; (first | exact Jaa rfl | exact Jab rfl | exact Jac Us.h rfl | exact Jah rfl rfl | exact Jai rfl rfl | exact Jak rfl rfl | (apply Jbl; exact Us.h; exact rfl; exact Sz.h; exact rfl)); exact rfl) | refine Jch rfl rfl rfl ?_ | refine Jci rfl rfl rfl rfl rfl ?_ | refine Jcj rfl rfl rfl rfl ?_ | refine Jcg (Pu_load Fl.h rfl (fun _ e => by rw [e]; exact hb2.ld rfl)) rfl ?_ | refine Jcg (Pu_load Fl.h rfl (fun _ e => by rw [e]; exact hb3.ld rfl)) rfl ?_ | (refine Jcx rfl (fun hb => ?_) (fun hb => ?_) <;> (try (exfalso; omega)))))
    all_goals first
      | (refine TR_of (res1 rfl rfl) ⟨congrArg I ?_, E5⟩; (first | rw [pCode_1 rfl] | rw [pCode_23 (.inl rfl)] | rw [pCode_23 (.inr rfl)] | rw [pCode_4 rfl] | rw [pCode_5 rfl] | rw [pCode_6 rfl] | rw [pCode_7 rfl]); (try simp only [hhas]); (repeat' split) <;> first | rfl | (exfalso; omega) | contradiction)
      | skip
    all_goals (refine TC_quietExt mixed (by kernel_rfl) ?_)
    all_goals (repeat' (first | (apply Jck; (first | exact Jaa rfl | exact Jac Us.h rfl | exact Jah rfl rfl | exact Jai rfl rfl | exact Jak rfl rfl | exact Jam rfl rfl | exact Jar Us.h Sz.h rfl rfl (by omega) | exact Jas rfl rfl | (apply Jbl; exact Us.h; exact rfl; exact Sz.h; exact rfl)); exact rfl) | refine Jcl rfl rfl rfl ?_ | refine Jcm rfl rfl rfl rfl rfl ?_ | refine Jcn rfl rfl rfl rfl ?_ | refine Jck (Pu_load Fl.h rfl (fun _ e => Ext.cell e (hb2.ld rfl))) rfl ?_ | refine Jck (Pu_load Fl.h rfl (fun _ e => Ext.cell e (hb3.ld rfl))) rfl ?_ | refine Jck (Pu_load Fl.h rfl (fun _ e => Ext.cell e hcv)) rfl ?_ | refine Jck (Pu_loadAgg (cs := dskC d (.slice (some ad) ds.length c) sk (.slice At d.turns.length ct)) Us.h rfl Sz.h rfl (fun _ e j u hu => Ext.cell e (by rw [add0, hb2.cell]; exact hu))) rfl ?_ | refine TQ_call rfl en84 hnd rfl ?_ | (refine Jcv rfl rfl (fun hb => ?_) (fun hb => ?_) <;> (try (exfalso; omega)))))
    all_goals (refine TQ_nil fun w6 e6 => ?_)
    all_goals (replace hb2 := hb2.ext e6; replace hb3 := hb3.ext e6)
    all_goals (repeat' (first | apply Jbq | apply Jbr | apply Jbs | apply Jbt | apply Jbu | apply Jbv | apply Jbz | (refine Jce rfl ?_) | (refine Jcf rfl ?_) | (apply Jcg; exact Jab rfl; exact rfl) | (refine Jcx rfl (fun hb => ?_) (fun hb => ?_) <;> (try (exfalso; omega)))))
    all_goals (refine TR_of (res1 rfl rfl) ⟨congrArg I ?_, E5.ext e6⟩; (first | rw [pCode_1 rfl] | rw [pCode_23 (.inl rfl)] | rw [pCode_23 (.inr rfl)] | rw [pCode_4 rfl, hbat] | rw [pCode_5 rfl] | rw [pCode_6 rfl] | rw [pCode_7 rfl]); (try simp only [hhas]); (repeat' split) <;> first | rfl | (exfalso; omega) | contradiction)
end Go.Proofs.YtggaghghclomkaaGreat

/- Contract: an operation on a disk is carried out, by the reference. -/
namespace Go.Proofs.YtggaghghclomkaaGreat
open Go.RowKit
/-- The beginning of an own row of bytes. -/
theorem OBx.to {w : World} {A : Option Addr} {c : Nat} {s : List UInt8} {k : Int} (h : OBx w (.slice A s.length c) s) (hk : 0 ≤ k ∧ k ≤ s.length) : cutA A c 0 1 = A ∧ OBx w (.slice A (s.take k.toNat).length c) (s.take k.toNat) ∧ blk (.slice A (s.take k.toNat).length c) = blk (.slice A s.length c) := by
  obtain ⟨lo, hi, ⟨A', c', hv, ho⟩, hin⟩ := h
  injection hv with h1 _ h3
  subst h1 h3
  have hl : k.toNat = (s.take k.toNat).length := by rw [List.length_take]; omega
  have hb : blk (.slice A (s.take k.toNat).length c) = blk (.slice A s.length c) := by cases A <;> rfl
  refine ⟨?_, ⟨lo, hi, ⟨A, c, rfl, ?_⟩, fun j h1 h2 => by rw [hb]; exact hin j h1 h2⟩, hb⟩
  · unfold cutA
    rcases ho.head with rfl | ⟨g, rfl, _, _⟩
    · split <;> rfl
    · split
      · rfl
      · simp [add0]
  · have := ho.takeN (k := k.toNat) (by omega)
    rw [← hl]
    unfold u8s at this ⊢
    rw [List.map_take]
    exact this
attribute [local irreducible] TL TC TN TX TR TQ TA Pu Ret
set_option maxRecDepth 100000 in
set_option maxHeartbeats 16000000 in
theorem specDiskDo_c {w : World} {lo hi lo2 hi2 : Nat} {d : DiskP} {sn sk st vo : Value} {o : OpD} (h : RDk w lo hi d sn sk st) (hf : d.fits) (hl : totD d ≤ 1048576) (ho : RB w lo2 hi2 vo o.data) (hof : o.fits) :
    Ret Tryz.prog 22 #[.agg (dskC d sn sk st).toArray, .agg (opC o vo).toArray] w fun v' w' => ∃ sn' sk' st', v' = .tuple #[.agg (dskC (pDo d o).1 sn' sk' st').toArray, I (pDo d o).2] ∧ Ext w w' ∧ ODk w' w.heap.size w'.heap.size (pDo d o).1 sn' sk' st' := by
  have hh := h
  obtain ⟨ft1, ft2⟩ := fits_tk hf
  have ho0 := ho
  obtain ⟨kind, name, to, size, data⟩ := o
  obtain ⟨Ad, cd, rfl, hcd, hrd⟩ := ho
  simp only at hcd hrd ho0
  refine Ret_enter Tryz.func22 rfl rfl rfl ?_
  repeat' (first | apply Jbs | apply Jbt)
  refine TL_box (cs := dskC d sn sk st) rfl rfl ?_
  intro w1 g2 e1 hg2 hz1 hb2
  skip
  refine TL_box (cs := opC ⟨kind, name, to, size, data⟩ (.slice Ad data.length cd)) rfl rfl ?_
  intro w2 g3 e2 hg3 hz2 hb3
  replace hb2 := hb2.ext e2
  skip
  refine TL_alloc Zs.h rfl rfl ?_
  intro w3 g4 e3 hg4 hz3 hb4
  replace hb2 := hb2.ext e3
  replace hb3 := hb3.ext e3
  have E3 : Ext w w3 := (e1.ext e2).ext e3
  repeat' (first | apply Jbq | apply Jbr | apply Jbs | apply Jbt | (apply Jcg; exact Jab rfl; exact rfl) | refine Jcg (Pu_loadAgg (cs := dskC d sn sk st) Us.h rfl Sz.h rfl (fun _ e j u hu => by rw [e, add0, hb2.cell]; exact hu)) rfl ?_)
  refine TL_call rfl en57 (specDiskOk_c (hh.ext E3) hf hl) rfl rfl ?_
  rintro _ w4 ⟨rfl, e4⟩
  replace hb2 := hb2.ext e4
  replace hb3 := hb3.ext e4
  replace hb4 := hb4.ext e4
  have hs4 := e4.size
  have E4 := E3.ext e4
  cases hp : pDOk d with
  | false =>
    rw [pDo_no (fun h => by rw [pDOk_yes h.1] at hp; cases hp)]
    repeat' (first | apply Jbq | apply Jbr | apply Jbs | apply Jbt | (refine Jce rfl ?_) | (apply Jcg; (first | exact Jaa rfl | exact Jah rfl rfl | exact Jaj rfl); exact rfl) | refine Jci rfl rfl rfl rfl rfl ?_ | refine Jcg (Pu_build (cs := dskC noDk (.slice none 0 0) (.slice none 0 0) (.slice none 0 0)) rfl (by kernel_rfl)) rfl ?_)
    refine TL_storeAgg rfl rfl Sz.h rfl hb4 rfl ?_
    intro w8 c8 hz8 hb8
    have E8 : Ext w w8 := Ext.then_iv E4 c8 (by omega)
    repeat' (first | apply Jbq | apply Jbr | apply Jbu | apply Jbv | (apply Jcg; exact Jab rfl; exact rfl))
    exact TR_of (resA1 rfl rfl rfl hb8 Us.h rfl Sz.h) ⟨_, _, _, rfl, E8, ODk.nil (Nat.le_refl _)⟩
  | true =>
    have hD := pDOk_of hp
    repeat' (first | (apply Jcg; (first | exact Jaa rfl | exact Jaj rfl); exact rfl) | refine Jch rfl rfl rfl ?_ | refine Jcg (Pu_loadAgg (cs := opC ⟨kind, name, to, size, data⟩ (.slice Ad data.length cd)) Us.h rfl Sz.h rfl (fun _ e j u hu => by rw [e, add0, hb3.cell]; exact hu)) rfl ?_)
    refine TL_call rfl en82 (specOpOk_c (o := ⟨kind, name, to, size, data⟩) (ho0.ext E4) hof) rfl rfl ?_
    rintro _ w5 ⟨rfl, e5⟩
    replace hb2 := hb2.ext e5
    replace hb3 := hb3.ext e5
    replace hb4 := hb4.ext e5
    have hs5 := e5.size
    have E5 := E4.ext e5
    cases hq : pOp ⟨kind, name, to, size, data⟩ with
    | false =>
      rw [pDo_no (fun h => by rw [h.2] at hq; cases hq)]
      repeat' (first | apply Jbq | apply Jbr | apply Jbs | apply Jbt | (refine Jce rfl ?_) | (apply Jcg; (first | exact Jai rfl rfl | exact Jaj rfl); exact rfl) | refine Jch rfl rfl rfl ?_ | refine Jcg (Pu_build (cs := dskC noDk (.slice none 0 0) (.slice none 0 0) (.slice none 0 0)) rfl (by kernel_rfl)) rfl ?_)
      refine TL_storeAgg rfl rfl Sz.h rfl hb4 rfl ?_
      intro w8 c8 hz8 hb8
      have E8 : Ext w w8 := Ext.then_iv E5 c8 (by omega)
      repeat' (first | apply Jbq | apply Jbr | apply Jbu | apply Jbv | (apply Jcg; exact Jab rfl; exact rfl))
      exact TR_of (resA1 rfl rfl rfl hb8 Us.h rfl Sz.h) ⟨_, _, _, rfl, E8, ODk.nil (Nat.le_refl _)⟩
    | true =>
      have hB := hD.base
      unfold dBase at hB
      obtain ⟨p1, p2, p3, p4, p5, p6, p7, p8, p9⟩ := pOp_parts hq
      simp only at p1 p2 p3 p4 p5 p6 p7 p8 p9
      have hs : name.length ≤ 9223372036854775807 := by
        by_cases h7 : kind = 7
        · rw [p2 h7]; simp
        · have := pName_len (p3 h7); omega
      repeat' (first | apply Jbq | apply Jbr | apply Jbs | apply Jbt | apply Jbz | (refine Jcf rfl ?_) | (apply Jcg; (first | exact Jai rfl rfl | exact Jaj rfl); exact rfl) | refine Jch rfl rfl rfl ?_ | refine Jcg (Pu_loadAgg (cs := dskC d sn sk st) Us.h rfl Sz.h rfl (fun _ e j u hu => by rw [e, add0, hb2.cell]; exact hu)) rfl ?_)
      refine TL_call rfl en58 (specl03Copy_c (hh.ext E5) hl) rfl rfl ?_
      rintro _ w6 ⟨sn1, sk1, st1, rfl, e6, hx⟩
      replace hb2 := hb2.ext e6
      replace hb3 := hb3.ext e6
      replace hb4 := hb4.ext e6
      have hs6 := e6.size
      have E6 := E5.ext e6
      have hone := hx.one
      skip
      refine TL_alloc Zs.h rfl rfl ?_
      intro w6a g6 e6a hg6 hz6a hb6
      skip
      refine TL_storeAgg rfl rfl Sz.h hone hb6 rfl ?_
      clear hb6
      intro w6b c6b hz6b hb6
      replace hb2 := (hb2.ext e6a).ch c6b (by simp only [Iv]; omega)
      replace hb3 := (hb3.ext e6a).ch c6b (by simp only [Iv]; omega)
      replace hb4 := (hb4.ext e6a).ch c6b (by simp only [Iv]; omega)
      replace hx := (hx.ext e6a).ch c6b (by intro k _ _; simp only [Iv]; omega)
      replace E6 : Ext w w6b := Ext.then_iv (E6.ext e6a) c6b (by have := E5.size; omega)
      repeat' (first | apply Jbq | apply Jbr | apply Jbs | apply Jbt | refine Jcg (Pu_loadAgg (cs := dskC d sn sk st) Us.h rfl Sz.h rfl (fun _ e j u hu => by rw [e, add0, hb2.cell]; exact hu)) rfl ?_ | refine Jcg (Pu_loadAgg (cs := opC ⟨kind, name, to, size, data⟩ (.slice Ad data.length cd)) Us.h rfl Sz.h rfl (fun _ e j u hu => by rw [e, add0, hb3.cell]; exact hu)) rfl ?_)
      refine TL_call rfl en83 (l03Code_c (hh.ext E6) hf hl hD hq) rfl rfl ?_
      rintro _ w7 ⟨rfl, e7⟩
      replace hb2 := hb2.ext e7
      replace hb3 := hb3.ext e7
      replace hb4 := hb4.ext e7
      replace hb6 := hb6.ext e7
      replace hx := hx.ext e7
      have hs7 := e7.size
      have E7 := E6.ext e7
      by_cases hc : pCode d ⟨kind, name, to, size, data⟩ = 0
      case neg =>
        rw [pDo_code hD hq hc]
        repeat' (first | apply Jbq | apply Jbr | apply Jbs | apply Jbt | (apply Jcg; (first | exact Jaa rfl | exact Jab rfl | exact Jal rfl rfl); exact rfl))
        refine Jcy rfl (fun _ => ?_) (fun hb => absurd hb hc)
        repeat' (first | apply Jbs | apply Jbt | (apply Jcg; exact Jaa rfl; exact rfl) | refine Jcg (Pu_loadAgg (cs := dskC d sn1 sk1 st1) Us.h rfl Sz.h rfl (fun _ e j u hu => by rw [e, add0, hb6.cell]; exact hu)) rfl ?_)
        refine TL_storeAgg rfl rfl Sz.h hone hb4 rfl ?_
        intro w8 c8 hz8 hb8
        repeat' (first | apply Jbq | apply Jbr | apply Jbu | apply Jbv | (apply Jcg; exact Jab rfl; exact rfl))
        exact TR_of (resA1 rfl rfl rfl hb8 Us.h rfl Sz.h) ⟨sn1, sk1, st1, rfl, Ext.then_iv E7 c8 (by omega), (hx.ch c8 (by intro k _ _; simp only [Iv]; omega)).wide (by omega) (by omega) (Nat.le_refl _)⟩
      rw [pDo_yes hD hq hc, hc]
      obtain ⟨es, hmap, hN, hK, hT, q1, q2, q3⟩ := hx.parts
      clear hx
      obtain ⟨hfu, hch, hc1, hct, hc4, hc5⟩ := pCode_has hc
      simp only at hch hc1 hct hc4 hc5
      repeat' (first | apply Jbq | apply Jbr | (apply Jcg; exact Jab rfl; exact rfl))
      apply Jbs
      skip
      apply Jbs
      repeat' (first | apply Jbq | apply Jbr | apply Jbt | apply Jbz | (refine Jcf rfl ?_) | (apply Jcg; (first | exact Jaa rfl | exact Jal rfl rfl); exact rfl))
      refine TC_join (ι := Unit) (fun _ => [(2, .pointer (some ⟨g2, 0, none⟩)), (3, .pointer (some ⟨g3, 0, none⟩)), (4, .pointer (some ⟨g4, 0, none⟩)), (6, .pointer (some ⟨g6, 0, none⟩)), (7, I 0)]) (fun _ w' => Ch (Iv g6 (g6 + 1)) w7 w' ∧ w'.heap.size = w7.heap.size ∧ Blk w' g6 33 [I d.room, I (fuseOf d), I d.next, sn1, sk1, st1]) ?_ ?_
      · repeat' (first | apply Jbq | apply Jbr | apply Jbs | apply Jbt | (apply Jcg; (first | exact Jam rfl rfl | (apply Jbl; exact Us.h; exact rfl; exact Sz.h; exact rfl)); exact rfl) | refine Jcg (Pu_load Fl.h rfl (fun _ e => by rw [e]; exact hb6.ld rfl)) rfl ?_)
        refine Jcx rfl (fun hfp => ?_) (fun hfp => ?_)
        · repeat' (first | apply Jbt | (apply Jcg; (first | exact Jap rfl rfl (by omega) | (apply Jbl; exact Us.h; exact rfl; exact Sz.h; exact rfl)); exact rfl) | refine Jcg (Pu_load Fl.h rfl (fun _ e => by rw [e]; exact hb6.ld rfl)) rfl ?_)
          refine TL_store rfl rfl Sz.h rfl hb6 rfl ?_
          intro w8 c8 hz8 hb8
          repeat' (apply Jbq)
          refine TN_join () (subEnv_cons rfl (subEnv_cons rfl (subEnv_cons rfl (subEnv_cons rfl (subEnv_cons rfl (subEnv_nil _)))))) ⟨c8, hz8, ?_⟩
          rw [show fuseOf d = d.fuse - 1 from if_pos hfp]
          exact hb8
        · repeat' (apply Jbz)
          refine TN_join () (subEnv_cons rfl (subEnv_cons rfl (subEnv_cons rfl (subEnv_cons rfl (subEnv_cons rfl (subEnv_nil _)))))) ⟨Ch.refl _ _, rfl, ?_⟩
          rw [show fuseOf d = d.fuse from if_neg hfp]
          exact hb6
      rintro _ w8 ⟨c8, hz8, hb68⟩
      clear hb6
      replace hb2 := hb2.ch c8 (by simp only [Iv]; omega)
      replace hb3 := hb3.ch c8 (by simp only [Iv]; omega)
      replace hb4 := hb4.ch c8 (by simp only [Iv]; omega)
      replace hN := hN.ch c8 (fun b hb => by have := q1 b hb; simp only [Iv]; omega)
      replace hK := hK.ch c8 (fun b hb => by have := q2 b hb; simp only [Iv]; omega)
      replace hT := hT.ch c8 (fun b hb => by have := q3 b hb; simp only [Iv]; omega)
      have E8 : Ext w w8 := Ext.then_iv E7 c8 (by have := E5.size; omega)
      have hln : d.nodes.length ≤ 1048576 := by omega
      skip
      apply Jbs
      skip
      refine TC_any mixed rfl ?_
      intro w9 hE hz9
      (refine Jco 0 rfl (by kernel_rfl) (by kernel_rfl) (by kernel_rfl) (fun _ _ _ h => h) hE (by exact Pu_loadAgg (cs := dskC d sn sk st) Us.h rfl Sz.h rfl (fun _ e j u hu => Ext.cell e (by rw [add0, hb2.cell]; exact hu))) rfl ?_; refine Jco 1 rfl (by kernel_rfl) (by kernel_rfl) (by kernel_rfl) (fun _ _ _ h => h) hE (by exact Pu_loadAgg (cs := dskC d sn sk st) Us.h rfl Sz.h rfl (fun _ e j u hu => Ext.cell e (by rw [add0, hb2.cell]; exact hu))) rfl ?_; refine Jco 3 rfl (by kernel_rfl) (by kernel_rfl) (by kernel_rfl) (fun _ _ _ h => h) hE (by (apply Jbl; exact Us.h; exact rfl; exact Sz.h; exact rfl)) rfl ?_; refine Jco 4 rfl (by kernel_rfl) (by kernel_rfl) (by kernel_rfl) (fun _ _ _ h => h) hE (by exact Pu_load Fl.h rfl (fun _ e => Ext.cell e (hb3.ld rfl))) rfl ?_)
      refine TA_one 2 (by kernel_rfl) rfl ?_
      refine TL_call rfl en86 (specDiskDir_c (hh.ext (E8.ext hE)) hf hl) rfl rfl ?_
      rintro v9a w9a ⟨e9a, hr9⟩
      rw [pDirs_yes hD] at hr9
      have hpl : (pDir d).length ≤ 1048576 := by have := pDirs_length (d := d); rw [pDirs_yes hD] at this; omega
      have hE9a := hE.ext e9a
      clear hE
      have hE := hE9a
      refine Jbq (TN_any hE ?_)
      refine TA_one 5 (by kernel_rfl) rfl ?_
      refine TL_call rfl en85 (l03Find_c hr9 hpl) rfl rfl ?_
      rintro _ w9b ⟨rfl, e9b⟩
      have hE9b := hE.ext e9b
      clear hE hE9a
      have hE := hE9b
      refine Jbq (TN_any hE ?_)
      refine TA_one 6 (by kernel_rfl) rfl ?_
      refine TL_call rfl en84 (specl03At_c (hh.ext (E8.ext hE)) hln) rfl rfl ?_
      rintro _ w10 ⟨rfl, e9c⟩
      have e10 := hE.ext e9c
      clear hE hE9b e9a e9b e9c
      have hE := e10
      refine Jbq (TN_any hE ?_)
      (refine Jco 7 rfl (by kernel_rfl) (by kernel_rfl) (by kernel_rfl) (fun _ _ _ h => h) hE (by exact Jab rfl) rfl ?_)
      refine TA_done (by kernel_rfl) ?_
      clear hE
      replace hb2 := hb2.ext e10
      replace hb3 := hb3.ext e10
      replace hb4 := hb4.ext e10
      have hb6 := hb68.ext e10
      clear hb68
      replace hN := hN.ext e10
      replace hK := hK.ext e10
      replace hT := hT.ext e10
      have hs10 := e10.size
      have E10 := E8.ext e10
      have hw5 : w.heap.size ≤ g2 ∧ g2 < g3 ∧ g3 < g4 ∧ g4 < w5.heap.size ∧ w5.heap.size ≤ w6.heap.size ∧ w6.heap.size = g6 ∧ g6 < w7.heap.size ∧ w7.heap.size ≤ w8.heap.size ∧ w8.heap.size ≤ w10.heap.size := by
        have := E3.size
        omega
      -- kinds
      have hk7 : kind = 1 ∨ kind = 7 ∨ kind = 2 ∨ kind = 3 ∨ kind = 4 ∨ kind = 5 ∨ kind = 6 := by omega
      repeat' (apply Jbr)
      refine TC_join (ι := Unit) (fun _ => [(4, .pointer (some ⟨g4, 0, none⟩)), (6, .pointer (some ⟨g6, 0, none⟩)), (7, I (doC d ⟨kind, name, to, size, data⟩))]) (fun _ w' => Ext w w' ∧ w10.heap.size ≤ w'.heap.size ∧ Blk w' g4 33 (dskC noDk (.slice none 0 0) (.slice none 0 0) (.slice none 0 0)) ∧ ∃ sn' sk' st', Blk w' g6 33 (dskC (doD d ⟨kind, name, to, size, data⟩) sn' sk' st') ∧ ODk w' w5.heap.size w'.heap.size (doD d ⟨kind, name, to, size, data⟩) sn' sk' st') ?_ ?_
      · replace hb3 : Blk w10 g3 49 [I kind, S name, S to, I size, .slice Ad data.length cd] := hb3
        by_cases hk17 : kind = 1 ∨ kind = 7
        · have hhas : dHas (pDir d) name = false := by
            rcases hk17 with rfl | rfl
            · simpa using hch (by decide)
            · rw [p2 rfl]; exact hD.noName
          rcases hk17 with rfl | rfl
          · obtain ⟨hc11, hc12⟩ := hc1 rfl
            have hct' := hct (.inl rfl)
            have hto := p5 (by decide)
            repeat' (first | apply Jbq | apply Jbr | apply Jbs | apply Jbt | apply Jby | (refine Jce rfl ?_) | (apply Jcg; (first | exact Jab rfl | exact Jak rfl rfl | (apply Jbl; exact Us.h; exact rfl; exact Sz.h; exact rfl)); exact rfl) | refine Jcg (Pu_load Fl.h rfl (fun _ e => by rw [e]; exact hb6.ld rfl)) rfl ?_ | refine Jcg (Pu_load Fl.h rfl (fun _ e => by rw [e]; exact hb3.ld rfl)) rfl ?_ | refine Jcg (Pu_load Fl.h rfl (fun _ e => by rw [e]; exact hb2.ld rfl)) rfl ?_ | refine Jcg (Pu_build (cs := [I d.next, .slice none 0 0, .slice none 0 0]) rfl (by kernel_rfl)) rfl ?_)
            refine TL_buildSlice Us.h Zi.h rfl rfl rfl rfl (fillN d.next none none 0 0 0 0) rfl rfl ?_
            intro w11 g11 e11 hg11 hz11 hown11
            have hnew := nd_new (d := ⟨d.next, [], [], .slice none 0 0, .slice none 0 0⟩) hown11 rfl rfl hg11 hz11
            have hs11 := e11.size
            have hbz : bkd (⟨d.next, [], [], .slice none 0 0, .slice none 0 0⟩ : Nd) = [] := rfl
            have hel : es.length = d.nodes.length := by rw [← hmap, List.length_map]
            skip
            refine TL_appendN Us.h rfl rfl (hN.ext e11) hnew.rd (OB.x (OB.nil _ 0 (Nat.zero_le _))) (OB.x (OB.nil _ 0 (Nat.zero_le _))) (by rw [hbz, List.append_nil]; exact hN.nd) (by rw [hbz, List.append_nil]; exact fun b hb => by have := q1 b hb; omega) (by omega) rfl ?_
            intro w12 sn2 c12 loc12 hN12
            have hs12 := c12.size
            have hsn1 : ∀ b ∈ blk sn1, b ∈ bksN sn1 es := fun b hb => List.mem_append.2 (.inl hb)
            have hsn2 : ∀ b ∈ blk sn2, b ∈ blk sn1 ∨ (w11.heap.size ≤ b ∧ b < w12.heap.size) := fun b hb => by
              rcases loc12 with h | ⟨h, h2⟩
              · rw [h] at hb; exact .inl hb
              · rw [h] at hb; rw [List.mem_singleton.1 hb]; exact .inr ⟨Nat.le_refl _, h2⟩
            have hK12 := (hK.ext e11).ch c12 (fun b hb hm => (q1 b (hsn1 b hm)).2.2.1 hb)
            have hT12 := (hT.ext e11).ch c12 (fun b hb hm => (q1 b (hsn1 b hm)).2.2.2 hb)
            have hb612 := (hb6.ext e11).ch c12 (fun hm => by have := q1 g6 (hsn1 _ hm); omega)
            have hb412 := (hb4.ext e11).ch c12 (fun hm => by have := q1 g4 (hsn1 _ hm); omega)
            have hb212 := (hb2.ext e11).ch c12 (fun hm => by have := q1 g2 (hsn1 _ hm); omega)
            have hb312 := (hb3.ext e11).ch c12 (fun hm => by have := q1 g3 (hsn1 _ hm); omega)
            have E12 : Ext w w12 := (E10.ext e11).trans c12 (fun _ _ t => t) (fun j hj t => by have := q1 j (hsn1 j t); omega)
            repeat' ((apply Jcg; (apply Jbl; exact Us.h; exact rfl; exact Sz.h; exact rfl); exact rfl))
            refine TL_store rfl rfl Sz.h hN12.row.one hb612 rfl ?_
            intro w13 c13 hz13 hb613
            have hbN : ∀ b ∈ bksN sn2 (es ++ [(⟨d.next, [], [], .slice none 0 0, .slice none 0 0⟩ : Nd)]), b ∈ bksN sn1 es ∨ (w11.heap.size ≤ b ∧ b < w12.heap.size) := fun b hb => by
              unfold bksN at hb
              rw [List.flatMap_append] at hb
              rcases List.mem_append.1 hb with hb | hb
              · rcases hsn2 b hb with h | h
                · exact .inl (hsn1 b h)
                · exact .inr h
              · rcases List.mem_append.1 hb with hb | hb
                · exact .inl (List.mem_append.2 (.inr hb))
                · simp [hbz] at hb
            have hN13 := hN12.ch c13 (fun b hb => by rcases hbN b hb with h | h; (have := q1 b h; simp only [Iv]; omega); (simp only [Iv]; omega))
            have hK13 := hK12.ch c13 (fun b hb => by have := q2 b hb; simp only [Iv]; omega)
            have hT13 := hT12.ch c13 (fun b hb => by have := q3 b hb; simp only [Iv]; omega)
            have hb413 := hb412.ch c13 (by simp only [Iv]; omega)
            have hb213 := hb212.ch c13 (by simp only [Iv]; omega)
            have hb313 := hb312.ch c13 (by simp only [Iv]; omega)
            have E13 : Ext w w13 := Ext.then_iv E12 c13 (by omega)
            repeat' (first | apply Jbq | apply Jbr | apply Jbs | apply Jbt | (apply Jcg; (apply Jbl; exact Us.h; exact rfl; exact Sz.h; exact rfl); exact rfl) | refine Jcg (Pu_load Fl.h rfl (fun _ e => by rw [e]; exact hb613.ld rfl)) rfl ?_ | refine Jcg (Pu_load Fl.h rfl (fun _ e => by rw [e]; exact hb313.ld rfl)) rfl ?_ | refine Jcg (Pu_load Fl.h rfl (fun _ e => by rw [e]; exact hb213.ld rfl)) rfl ?_ | refine Jcg (Pu_build (cs := TnC ⟨1, name, [], d.next⟩) rfl (by kernel_rfl)) rfl ?_)
            refine TL_buildSlice Us.h Zi.h rfl rfl rfl rfl (fillT ⟨1, name, [], d.next⟩) rfl rfl ?_
            intro w14 g14 e14 hg14 hz14 hown14
            skip
            refine TL_appendOx Us.h Inf.h rfl rfl rfl TnC_one rfl rfl (hT13.ext e14) (RowO.new (l := [(⟨1, name, [], d.next⟩ : TnD)]) rfl hown14 hg14 hz14).rd (by simp only [List.length_cons, List.length_nil]; omega) rfl ?_
            intro w15 st2 c15 loc15 hT15
            have hs14 := e14.size
            have hs15 := c15.size
            have hst2 : ∀ b ∈ blk st2, (w5.heap.size ≤ b ∧ b < w6.heap.size ∧ b ∈ blk st1) ∨ (w14.heap.size ≤ b ∧ b < w15.heap.size) := fun b hb => by
              rcases loc15 with h | ⟨h, h2⟩
              · rw [h] at hb; have := q3 b hb; exact .inl ⟨this.1, this.2, hb⟩
              · rw [h] at hb; rw [List.mem_singleton.1 hb]; exact .inr ⟨Nat.le_refl _, h2⟩
            have hN15 := (hN13.ext e14).ch c15 (fun b hb hm => by rcases hbN b hb with h | h; exact (q1 b h).2.2.2 hm; (have := q3 b hm; omega))
            have hK15 := (hK13.ext e14).ch c15 (fun b hb => (q2 b hb).2.2)
            have hb615 := (hb613.ext e14).ch c15 (fun hb => by have := q3 g6 hb; omega)
            have hb415 := (hb413.ext e14).ch c15 (fun hb => by have := q3 g4 hb; omega)
            have E15 : Ext w w15 := (E13.ext e14).trans c15 (fun _ _ t => t) (fun j hj t => by have := q3 j t; omega)
            repeat' ((apply Jcg; (apply Jbl; exact Us.h; exact rfl; exact Sz.h; exact rfl); exact rfl))
            refine TL_store rfl rfl Sz.h hT15.one hb615 rfl ?_
            intro w16 c16 hz16 hb616
            have hb416 := hb415.ch c16 (by simp only [Iv]; omega)
            repeat' (first | apply Jbq | apply Jbr | apply Jbt | (apply Jcg; (first | exact Jaf rfl rfl (by omega) | (apply Jbl; exact Us.h; exact rfl; exact Sz.h; exact rfl)); exact rfl) | refine Jcg (Pu_load Fl.h rfl (fun _ e => by rw [e]; exact hb616.ld rfl)) rfl ?_)
            refine TL_store rfl rfl Sz.h rfl hb616 rfl ?_
            intro w17 c17 hz17 hb617
            have hb417 := hb416.ch c17 (by simp only [Iv]; omega)
            have hN17 := (hN15.ch c16 (fun b hb => by rcases hbN b hb with h | h; (have := q1 b h; simp only [Iv]; omega); (simp only [Iv]; omega))).ch c17 (fun b hb => by rcases hbN b hb with h | h; (have := q1 b h; simp only [Iv]; omega); (simp only [Iv]; omega))
            have hK17 := (hK15.ch c16 (fun b hb => by have := q2 b hb; simp only [Iv]; omega)).ch c17 (fun b hb => by have := q2 b hb; simp only [Iv]; omega)
            have hT17 := (hT15.ch c16 (fun b hb => by have := hst2 b hb; simp only [Iv]; omega)).ch c17 (fun b hb => by have := hst2 b hb; simp only [Iv]; omega)
            repeat' (first | apply Jbq | apply Jbx)
            refine TN_join () (subEnv_cons rfl (subEnv_cons rfl (subEnv_cons rfl (subEnv_nil _)))) ⟨Ext.then_iv (Ext.then_iv E15 c16 (by omega)) c17 (by omega), by omega, hb417, sn2, sk1, st2, hb617, ODk.mk3 (es := es ++ [(⟨d.next, [], [], .slice none 0 0, .slice none 0 0⟩ : Nd)]) (Nat.le_refl _) (by rw [List.map_append, hmap]; rfl) hN17 hK17 hT17 ?_ (fun b hb => by have h1 := q2 b hb; exact ⟨h1.1, by omega, fun h => by rcases hst2 b h with h2 | h2; exact h1.2.2 h2.2.2; omega⟩) (fun b hb => by have h1 := hst2 b hb; omega)⟩
            intro b hb
            rcases hbN b hb with h | h
            · have h1 := q1 b h
              exact ⟨h1.1, by omega, h1.2.2.1, fun h => by rcases hst2 b h with h2 | h2; exact h1.2.2.2 h2.2.2; omega⟩
            · exact ⟨by omega, by omega, fun h2 => by have := q2 b h2; omega, fun h2 => by have := hst2 b h2; omega⟩
          · have hdir := hD.dirLe d.turns.length (Nat.le_refl _)
            rw [List.take_length, show runT d.kept d.turns = pDir d from rfl] at hdir
            repeat' (first | apply Jbq | apply Jbr | apply Jbs | apply Jbt | apply Jby | (refine Jce rfl ?_) | (refine Jcf rfl ?_) | (apply Jcg; (first | exact Jab rfl | exact Jak rfl rfl | (apply Jbl; exact Us.h; exact rfl; exact Sz.h; exact rfl)); exact rfl) | refine Jcg (Pu_load Fl.h rfl (fun _ e => by rw [e]; exact hb3.ld rfl)) rfl ?_ | refine Jcg (Pu_loadAgg (cs := dskC d sn sk st) Us.h rfl Sz.h rfl (fun _ e j u hu => by rw [e, add0, hb2.cell]; exact hu)) rfl ?_)
            refine TL_call rfl en86 (specDiskDir_o (hh.ext E10) hf hl) rfl rfl ?_
            rintro vk w11 ⟨e11, hok⟩
            rw [pDirs_yes hD] at hok
            have hs11 := e11.size
            have hokb := hok.bin
            have hb611 := hb6.ext e11
            have hN11 := hN.ext e11
            have hinN : ∀ b ∈ bksN sn1 es, w5.heap.size ≤ b ∧ b < w6.heap.size := fun b hb => by have := q1 b hb; omega
            repeat' ((apply Jcg; (apply Jbl; exact Us.h; exact rfl; exact Sz.h; exact rfl); exact rfl))
            refine TL_store rfl rfl Sz.h hok.rd.one hb611 rfl ?_
            intro w12 c12 hz12 hb612
            repeat' (first | apply Jbq | apply Jbr | apply Jbs | apply Jbt | (apply Jcg; (apply Jbl; exact Us.h; exact rfl; exact Sz.h; exact rfl); exact rfl))
            refine TL_store rfl rfl Sz.h rfl hb612 rfl ?_
            intro w13 c13 hz13 hb613
            have cc := c12.then c13
            have hN13 := hN11.ch cc (fun b hb => by have := q1 b hb; simp only [Iv]; omega)
            have hok13 := hok.ch cc (by intro k _ _; simp only [Iv]; omega)
            have hb413 := (hb4.ext e11).ch cc (by simp only [Iv]; omega)
            have E13 : Ext w w13 := Ext.then_iv (E10.ext e11) cc (by omega)
            replace hb613 : Blk w13 g6 33 (dskC (doD d ⟨7, name, to, size, data⟩) sn1 vk (.slice none 0 0)) := hb613
            obtain ⟨A1, c1, rfl, hc1', hr1⟩ := hN13.row.rr (fun b hb => hinN b (List.mem_append.2 (.inl hb))) (by omega)
            have hdl : es.length = d.nodes.length := by rw [← hmap, List.length_map]
            have hsl : ∀ x ∈ es, SlN x := fun x hx => by obtain ⟨h1, h2⟩ := hN13.ok x hx; obtain ⟨A, c, _, _, h3, _⟩ := h1.sl; obtain ⟨A', c', _, _, h4, _⟩ := h2.sl; exact ⟨⟨A, _, c, h3⟩, ⟨A', _, c', h4⟩⟩
            obtain ⟨d2, hd2⟩ : ∃ d2 : DiskP, d2 = { d with fuse := fuseOf d, kept := pDir d, turns := [] } := ⟨_, rfl⟩
            have hrd : RDk w13 0 w13.heap.size d2 (.slice A1 es.length c1) vk (.slice none 0 0) := by
              rw [hd2]
              exact ⟨by rw [← hmap]; have := hN13.rn hinN (by omega); obtain ⟨a, b, c, h1, h2, h3, h4, h5⟩ := this; exact ⟨a, b, c, h1, h2, h3, h4.wide (Nat.zero_le _) (by omega) (Nat.le_refl _), fun x hx => ⟨by obtain ⟨A, c, q1, q2, q3⟩ := (h5 x hx).1; exact ⟨A, c, q1, q2, q3.wide (Nat.zero_le _) (by omega) (Nat.le_refl _)⟩, by obtain ⟨A, c, q1, q2, q3⟩ := (h5 x hx).2; exact ⟨A, c, q1, q2, q3.wide (Nat.zero_le _) (by omega) (Nat.le_refl _)⟩⟩⟩, hok13.rk, RowR.rt (RowO.nil (e := 121) w13 0 (Nat.zero_le _)).rd⟩
            replace hb613 : Blk w13 g6 33 (dskC d2 (.slice A1 es.length c1) vk (.slice none 0 0)) := by rw [hd2]; exact hb613
            obtain ⟨ids, hids⟩ : ∃ ids, ids = (pDir d).map (·.id) := ⟨_, rfl⟩
            have hpd : pIds d2 = ids := by rw [hd2, hids]; exact pIds_flat { d with fuse := fuseOf d } (pDir d)
            have hil : ids.length ≤ 1048576 := by rw [hids, List.length_map]; omega
            have hkl : d2.kept.length ≤ 1048576 ∧ d2.turns.length ≤ 1048576 := by rw [hd2]; simp only [List.length_nil]; omega
            have hv1 := hok.rd.one
            repeat' (first | apply Jbq | apply Jbr | apply Jbs | apply Jbt)
            refine TL_buildSlice0 Us.h Sz.h rfl ?_
            intro w14 g14 e14 hg14 hz14 hown14
            have hb614 := hb613.ext e14
            repeat' (first | apply Jbq | apply Jbr | (apply Jcg; exact Jab rfl; exact rfl))
            have hs14 := e14.size
            refine TC_join (ι := Value) (fun vn => [(4, .pointer (some ⟨g4, 0, none⟩)), (6, .pointer (some ⟨g6, 0, none⟩)), (7, I 0), (14, vn)]) (fun vn w' => Ext w13 w' ∧ RowO NdC 98 3 w' g14 w'.heap.size vn (only es ids)) ?_ ?_
            · repeat' (first | apply Jbq | apply Jbr | apply Jbs | apply Jbt | apply Jby | (apply Jcg; (first | exact Jaa rfl | exact Jac Us.h rfl | (apply Jbl; exact Us.h; exact rfl; exact Sz.h; exact rfl)); exact rfl) | refine Jcg (Pu_load Fl.h rfl (fun _ e => by rw [e]; exact hb614.ld rfl)) rfl ?_)
              refine TC_loop (ι := Nat × Value) (fun x => [(4, .pointer (some ⟨g4, 0, none⟩)), (6, .pointer (some ⟨g6, 0, none⟩)), (7, I 0), (14, x.2), (179, .slice A1 es.length c1), (180, I es.length), (181, I x.1)])
                (fun x w' => x.1 ≤ es.length ∧ Ext w13 w' ∧ RowO NdC 98 3 w' g14 w'.heap.size x.2 (only (es.take x.1) ids)) (fun x => es.length - x.1) (0, .slice (some ⟨g14, 0, none⟩) 0 0) (subEnv_cons rfl (subEnv_cons rfl (subEnv_cons rfl (subEnv_cons rfl (subEnv_cons rfl (subEnv_cons rfl (subEnv_cons rfl (subEnv_nil _)))))))) ⟨Nat.zero_le _, e14, (RowO.new (l := []) rfl hown14 hg14 hz14).wide (by omega) (Nat.le_refl _) (Nat.le_refl _)⟩ ?_
              rintro ⟨k, vo⟩ w15 ⟨hk15, e15, ho15⟩
              simp only at hk15 ho15
              show TC _ _ _ _ [(4, .pointer (some ⟨g4, 0, none⟩)), (6, .pointer (some ⟨g6, 0, none⟩)), (7, I 0), (14, vo), (179, .slice A1 es.length c1), (180, I es.length), (181, I (k : Int))] w15
              have hs15 := e15.size
              have hb615 := hb613.ext e15
              repeat' (first | apply Jbq | apply Jbr | apply Jbs | apply Jbt | (apply Jcg; exact Jad rfl rfl; exact rfl))
              refine Jcx rfl (fun hlt0 => ?_) (fun hge => ?_)
              · have hlt : k < es.length := by omega
                obtain ⟨ad, rfl, hcell⟩ := Rd.elem NdC_len (hr1.ext e15) hlt
                have hmem := List.getElem_mem hlt
                have hsx := hsl _ hmem
                have htk := only_take es ids k hlt
                have hol := only_length (es.take k) ids
                rw [List.length_take] at hol
                obtain ⟨x, hx⟩ : ∃ x, x = es[k] := ⟨_, rfl⟩
                rw [← hx] at hcell hsx htk
                obtain ⟨id, body, safe, vb, vs⟩ := x
                obtain ⟨⟨A3, m1, c3, h1⟩, ⟨A2, m2, c2, h2⟩⟩ := hsx
                simp only at h1 h2 htk
                subst h1 h2
                replace hcell : ∀ j u, [I id, .slice A3 m1 c3, .slice A2 m2 c2][j]? = some u → w15.cell? ((ad.add (k * 3)).add j) = some u := hcell
                repeat' (first | apply Jbq | apply Jbr | apply Jbs | apply Jbt | apply Jby | apply Jbz | (apply Jcg; exact Jar Us.h Sz.h rfl rfl (by omega); exact rfl) | refine Jcg (Pu_loadAgg (cs := [I id, .slice A3 m1 c3, .slice A2 m2 c2]) Us.h rfl Sz.h rfl (fun _ e j u hu => by rw [e]; exact hcell j u hu)) rfl ?_ | (refine TL_alloc Zs.h rfl rfl ?_; intro w16 g16 e16 hg16 hz16 hb16) | (refine TL_storeAgg rfl rfl Sz.h rfl hb16 rfl ?_; intro w17 c17 hz17 hb17))
                have ho17 := (ho15.ext e16).ch c17 (by intro j _ _; simp only [Iv]; omega)
                have hb617 := (hb615.ext e16).ch c17 (by simp only [Iv]; omega)
                have E17 : Ext w13 w17 := Ext.then_iv (e15.ext e16) c17 (by omega)
                clear hb16
                refine TC_any mixed rfl ?_
                intro w18 hE hz18
                (refine Jco 0 rfl (by kernel_rfl) (by kernel_rfl) (by kernel_rfl) (fun _ _ _ h => h) hE (by exact Pu_loadAgg (cs := dskC d2 (.slice (some ad) es.length c1) vk (.slice none 0 0)) Us.h rfl Sz.h rfl (fun _ e j u hu => Ext.cell e (by rw [add0, hb617.cell]; exact hu))) rfl ?_; refine Jco 2 rfl (by kernel_rfl) (by kernel_rfl) (by kernel_rfl) (fun _ _ _ h => h) hE (by (apply Jbl; exact Us.h; exact rfl; exact Sz.h; exact rfl)) rfl ?_; refine Jco 3 rfl (by kernel_rfl) (by kernel_rfl) (by kernel_rfl) (fun _ _ _ h => h) hE (by exact Pu_load Fl.h rfl (fun _ e => Ext.cell e (hb17.ld rfl))) rfl ?_)
                refine TA_one 1 (by kernel_rfl) rfl ?_
                refine TL_call rfl en90 (l03Ids_c (hrd.ext (E17.ext hE)) hkl.1 hkl.2) rfl rfl ?_
                rintro vi w19 ⟨e19, hoi⟩
                rw [hpd] at hoi
                have hE8 := hE.ext e19
                clear hE
                have hE := hE8
                refine Jbq (TN_any hE ?_)
                refine TA_one 4 (by kernel_rfl) rfl ?_
                refine TL_call rfl en89 (l03HasInt_c hoi.rd hil) rfl rfl ?_
                rintro _ w20 ⟨rfl, e20⟩
                have hE9 := hE.ext e20
                clear hE hE8
                have hE := hE9
                refine Jbq (TN_any hE ?_)
                refine TA_done (by kernel_rfl) ?_
                replace hb17 := hb17.ext hE
                have ho20 := ho17.ext hE
                have E20 := E17.ext hE
                have hs20 := hE.size
                clear hE hE9
                repeat' (apply Jbr)
                refine Jcx rfl (fun hin => ?_) (fun hin => ?_)
                · rw [if_pos hin] at htk
                  repeat' (first | apply Jbt | (apply Jcg; exact Jaa rfl; exact rfl) | refine Jcg (Pu_loadAgg (cs := [I id, .slice A3 m1 c3, .slice A2 m2 c2]) Us.h rfl Sz.h rfl (fun _ e j u hu => by rw [e, add0, hb17.cell]; exact hu)) rfl ?_)
                  refine TL_buildSlice Us.h Zi.h rfl rfl rfl rfl (fillN id A3 A2 m1 c3 m2 c2) rfl rfl ?_
                  intro w21 g21 e21 hg21 hz21 hown21
                  have hnew := nd_new (d := ⟨id, body, safe, .slice A3 m1 c3, .slice A2 m2 c2⟩) hown21 rfl rfl hg21 hz21
                  skip
                  refine TL_appendRow1 Us.h inf98 rfl rfl rfl (by intro u hu; simp [cellsL, NdC] at hu; rcases hu with rfl | rfl | rfl <;> rfl) rfl rfl (ho20.ext e21) hnew.rd (by omega) (by simp only [List.length_cons, List.length_nil]; omega) rfl ?_
                  intro w22 v22 c22 ho22
                  repeat' (first | apply Jbq | apply Jbr | apply Jbt | apply Jbx | (apply Jcg; (first | exact Jaa rfl | exact Jab rfl | exact Jaf rfl rfl (by omega)); exact rfl))
                  refine TN_round (k + 1, v22) (subEnv_cons rfl (subEnv_cons rfl (subEnv_cons rfl (subEnv_cons rfl (subEnv_cons rfl (subEnv_cons rfl (subEnv_cons rfl (subEnv_nil _)))))))) ⟨by simp only; omega, Ext.then_iv (E20.ext e21) c22 (by omega), ?_⟩ (by simp only; omega)
                  simp only
                  rw [htk]
                  exact ho22
                · rw [if_neg hin] at htk
                  repeat' (first | apply Jbq | apply Jbr | apply Jbt | apply Jbx | apply Jbz | (apply Jcg; (first | exact Jaa rfl | exact Jaf rfl rfl (by omega)); exact rfl))
                  refine TN_round (k + 1, vo) (subEnv_cons rfl (subEnv_cons rfl (subEnv_cons rfl (subEnv_cons rfl (subEnv_cons rfl (subEnv_cons rfl (subEnv_cons rfl (subEnv_nil _)))))))) ⟨by simp only; omega, E20, ?_⟩ (by simp only; omega)
                  simp only
                  rw [htk]
                  exact ho20.wide (Nat.le_refl _) (by omega) (Nat.le_refl _)
              · obtain rfl : k = es.length := by omega
                rw [List.take_length] at ho15
                repeat' (first | apply Jca | apply Jcb | apply Jcc)
                exact TN_join vo (subEnv_cons rfl (subEnv_cons rfl (subEnv_cons rfl (subEnv_cons rfl (subEnv_nil _))))) ⟨e15, ho15⟩
            rintro vn w15 ⟨e15, hon⟩
            have hs15 := e15.size
            have hb615 := hb613.ext e15
            rw [hids] at hon
            have hN15 : ONx w15 vn (only es ((pDir d).map (·.id))) := hN13.keep hon e15 (fun b hb t => t) (fun b hb => by have := hinN b hb; omega)
            have hbk15 : ∀ b ∈ bksN vn (only es ((pDir d).map (·.id))), w5.heap.size ≤ b ∧ b < w15.heap.size ∧ b ∉ blk vk := fun b hb => by
              have h1 := bks_keep hon hinN b hb
              exact ⟨by omega, by omega, fun h => by have := hokb b h; omega⟩
            repeat' (first | apply Jbt | (apply Jcg; (first | exact Jaa rfl | (apply Jbl; exact Us.h; exact rfl; exact Sz.h; exact rfl)); exact rfl))
            refine TL_store rfl rfl Sz.h hon.rd.one hb615 rfl ?_
            intro w16 c16 hz16 hb616
            repeat' (first | apply Jbq | apply Jbx)
            refine TN_join () (subEnv_cons rfl (subEnv_cons rfl (subEnv_cons rfl (subEnv_nil _)))) ⟨Ext.then_iv (E13.ext e15) c16 (by omega), by omega, ((hb413.ext e15).ch c16 (by simp only [Iv]; omega)), vn, vk, .slice none 0 0, ?_, ODk.mk2 (d := doD d ⟨7, name, to, size, data⟩) (Nat.le_refl _) (by rw [only_map, hmap]; rfl) (hN15.ch c16 (fun b hb => by have h1 := bks_keep hon hinN b hb; simp only [Iv]; omega)) ((hok13.ext e15).ch c16 (by intro k _ _; simp only [Iv]; omega)) rfl (fun b hb => by have := hbk15 b hb; exact ⟨by omega, by omega, this.2.2⟩) (by omega) (by omega)⟩
            rw [hd2] at hb616
            exact hb616
        · have hhas : dHas (pDir d) name = true := by
            have h1 := hch (fun e => hk17 (.inr e))
            rw [h1]; simp; exact fun e => hk17 (.inl e)
          obtain ⟨i, hi, hat, _⟩ := hD.dirAt hhas
          rw [hat]
          have hel : es.length = d.nodes.length := by rw [← hmap, List.length_map]
          have hie : i < es.length := by omega
          obtain ⟨gN, cN, loN, hiN, rfl, hownN⟩ := hN.open hie
          have hoA : ∀ (k : Int) (n t : List UInt8) (z : Int) (u : List UInt8), n = name → (opAt d ⟨k, n, t, z, u⟩).toNat = i := fun k n t z u e => by unfold opAt; simp only; rw [e, hat]; rfl
          have hoI : ∀ (k : Int) (n t : List UInt8) (z : Int) (u : List UInt8), n = name → opAt d ⟨k, n, t, z, u⟩ = (i : Int) := fun k n t z u e => by unfold opAt; simp only; rw [e, hat]
          have hgN := q1 gN (List.mem_append.2 (.inl (List.mem_singleton.2 rfl)))
          obtain ⟨x, hx⟩ : ∃ x, x = es[i] := ⟨_, rfl⟩
          have hxn : d.nodes[i] = NdP x := by simp only [← hmap, List.getElem_map, hx]
          have hok2 := hN.ok es[i] (List.getElem_mem hie)
          have hbx := bkd_in (v := .slice (some ⟨gN, 0, none⟩) es.length cN) hie
          have hcell : ∀ j u, (NdC x)[j]? = some u → w10.cell? ((⟨gN, 0, none⟩ : Addr).add (i * 3) |>.add j) = some u := fun j u hu => by
            have hj : j < 3 := by have := (List.getElem?_eq_some_iff.1 hu).1; rw [NdC_len] at this; exact this
            rw [add_lit3, hownN.row.cellAt (i * 3 + j) (by omega), cellsL_at NdC_len es i j hie hj, ← hx]; exact hu
          rw [← hx] at hok2 hbx
          obtain ⟨id, body, safe, vb, vs⟩ := x
          obtain ⟨hokB, hokS⟩ := hok2
          simp only at hokB hokS
          obtain ⟨Ab, cb, lob, hib, rfl, hownB⟩ := hokB.sl
          obtain ⟨As, cs, los, his, rfl, hownS⟩ := hokS.sl
          have hx' : es[i] = ⟨id, body, safe, .slice Ab body.length cb, .slice As safe.length cs⟩ := hx.symm
          have hcb : w10.cell? ((⟨gN, 0, none⟩ : Addr).add (i * 3) |>.add 1) = some (.slice Ab body.length cb) := hcell 1 _ rfl
          have hcs : w10.cell? ((⟨gN, 0, none⟩ : Addr).add (i * 3) |>.add 2) = some (.slice As safe.length cs) := hcell 2 _ rfl
          have hbl : body.length ≤ 1048576 ∧ safe.length ≤ 1048576 := by
            have h1 : (id, body, safe) ∈ d.nodes := by
              have h2 := List.getElem_mem hi
              rw [hxn] at h2
              exact h2
            have h3 := totNd_mem h1
            have h4 := (totD_parts hl).1
            unfold NdW at h3
            simp only at h3
            omega
          have hndA : ∀ (k : Int) (n t : List UInt8) (z : Int) (u : List UInt8), n = name → ndAt d ⟨k, n, t, z, u⟩ = (id, body, safe) := fun k n t z u e => by
            unfold ndAt; rw [hoA k n t z u e, List.getD_eq_getElem?_getD, List.getElem?_eq_getElem hi, hxn]; rfl
          replace hb3 : Blk w10 g3 49 [I kind, S name, S to, I size, .slice Ad data.length cd] := hb3
          have hbodyE : bodyAt d (i : Int) = body := by rw [bodyAt_nat hi, hxn]; rfl
          have hndN : (gN :: es.flatMap bkd).Nodup := hN.nd
          have hgx : ∀ b ∈ bkd es[i], b ≠ gN := fun b hb e => (List.nodup_cons.1 hndN).1 (e ▸ List.mem_flatMap.2 ⟨_, List.getElem_mem hie, hb⟩)
          rw [hx'] at hgx
          have hbB : ∀ b ∈ blk (.slice Ab body.length cb), w5.heap.size ≤ b ∧ b < w6.heap.size ∧ b ≠ gN := fun b hb => by
            have h1 := q1 b (hbx b (List.mem_append.2 (.inl hb)))
            exact ⟨h1.1, h1.2.1, hgx b (List.mem_append.2 (.inl hb))⟩
          have hbS : ∀ b ∈ blk (.slice As safe.length cs), w5.heap.size ≤ b ∧ b < w6.heap.size ∧ b ≠ gN := fun b hb => by
            have h1 := q1 b (hbx b (List.mem_append.2 (.inr hb)))
            exact ⟨h1.1, h1.2.1, hgx b (List.mem_append.2 (.inr hb))⟩
          have hk5 : kind = 2 ∨ kind = 3 ∨ kind = 4 ∨ kind = 5 ∨ kind = 6 := by omega
          rcases hk5 with rfl | rfl | rfl | hk56
          · obtain ⟨k, hkq⟩ : ∃ k, k = fitsN d ⟨2, name, to, size, data⟩ := ⟨_, rfl⟩
            have hkv : min (max (body.length : Int) (safe.length : Int) + d.room - pUsed d.nodes - (body.length : Int)) (data.length : Int) = k := by
              rw [hkq]; unfold fitsN; rw [hndA _ _ _ _ _ rfl]; rfl
            have hu := hD.used
            have hpu := (pUsed_le d.nodes).1
            have hk0 : 0 ≤ k ∧ k ≤ (data.length : Int) := by rw [← hkv]; omega
            have hdo : doD d ⟨2, name, to, size, data⟩ = { d with fuse := fuseOf d, nodes := d.nodes.set i (id, body ++ data.take k.toNat, safe) } := by
              unfold doD
              rw [if_neg (by simp), if_pos rfl]
              unfold ndPut
              rw [hoA _ _ _ _ _ rfl, hndA _ _ _ _ _ rfl, ← hkq]
            have hdc : doC d ⟨2, name, to, size, data⟩ = if k < (data.length : Int) then 5 else 0 := by unfold doC; rw [← hkq]; simp
            apply Jbs
            repeat' (first | apply Jbq | apply Jbr | apply Jbt | apply Jby | (apply Jcg; (apply Jbl; exact Us.h; exact rfl; exact Sz.h; exact rfl); exact rfl) | refine Jcg (Pu_load Fl.h rfl (fun _ e => by rw [e]; exact hb3.ld rfl)) rfl ?_)
            apply Jbs
            repeat' (first | apply Jbq | apply Jbr | apply Jbt | (refine Jcf rfl ?_) | (apply Jcg; (first | exact Jab rfl | exact Jak rfl rfl); exact rfl))
            apply Jbs
            repeat' (first | apply Jbq | apply Jbr | apply Jbt | (refine Jce rfl ?_) | (apply Jcg; (first | exact Jab rfl | exact Jak rfl rfl); exact rfl))
            apply Jbs
            repeat' (first | apply Jbq | apply Jbr | apply Jbt | (apply Jcg; (first | exact Jaa rfl | exact Jar Us.h Sz.h rfl rfl (by omega) | (apply Jbl; exact Us.h; exact rfl; exact Sz.h; exact rfl)); exact rfl) | refine Jcg (Pu_load Fl.h rfl (fun _ e => by rw [e]; exact hb6.ld rfl)) rfl ?_ | refine Jcg (Pu_loadAgg (cs := [I id, .slice Ab body.length cb, .slice As safe.length cs]) Us.h rfl Sz.h rfl (fun _ e j u hu => by rw [e]; exact hcell j u hu)) rfl ?_ | (refine TL_alloc Zs.h rfl rfl ?_; intro w11 g9 e11 hg9 hz11 hb9) | (refine TL_storeAgg rfl rfl Sz.h rfl hb9 rfl ?_; intro w12 c12 hz12 hb912))
            clear hb9
            have e1012 : Ext w10 w12 := Ext.then_iv e11 c12 (by omega)
            have hs12 := e1012.size
            have hb612 := hb6.ext e1012
            have hb312 := hb3.ext e1012
            have hb412 := hb4.ext e1012
            have hlt9 := hb912.lt
            obtain ⟨m, hm⟩ : ∃ m, m = d.room - pUsed d.nodes + max (body.length : Int) (safe.length : Int) - (body.length : Int) := ⟨_, rfl⟩
            refine TC_join (ι := Unit) (fun _ => [(3, .pointer (some ⟨g3, 0, none⟩)), (4, .pointer (some ⟨g4, 0, none⟩)), (6, .pointer (some ⟨g6, 0, none⟩)), (7, I 0), (8, I i), (9, .pointer (some ⟨g9, 0, none⟩)), (10, I m)]) (fun _ w' => Ext w12 w') ?_ ?_
            · have hb212 := hb2.ext e1012
              refine TC_any mixed rfl ?_
              intro w13 hE hz13
              (refine Jco 0 rfl (by kernel_rfl) (by kernel_rfl) (by kernel_rfl) (fun _ _ _ h => h) hE (by (apply Jbl; exact Us.h; exact rfl; exact Sz.h; exact rfl)) rfl ?_; refine Jco 1 rfl (by kernel_rfl) (by kernel_rfl) (by kernel_rfl) (fun _ _ _ h => h) hE (by exact Pu_load Fl.h rfl (fun _ e => Ext.cell e (hb212.ld rfl))) rfl ?_; refine Jco 2 rfl (by kernel_rfl) (by kernel_rfl) (by kernel_rfl) (fun _ _ _ h => h) hE (by exact Pu_loadAgg (cs := dskC d sn sk st) Us.h rfl Sz.h rfl (fun _ e j u hu => Ext.cell e (by rw [add0, hb212.cell]; exact hu))) rfl ?_; refine Jco 5 rfl (by kernel_rfl) (by kernel_rfl) (by kernel_rfl) (fun _ _ _ h => h) hE (by (apply Jbl; exact Us.h; exact rfl; exact Sz.h; exact rfl)) rfl ?_; refine Jco 6 rfl (by kernel_rfl) (by kernel_rfl) (by kernel_rfl) (fun _ _ _ h => h) hE (by exact Pu_load Fl.h rfl (fun _ e => Ext.cell e (hb912.ld rfl))) rfl ?_; refine Jco 7 rfl (by kernel_rfl) (by kernel_rfl) (by kernel_rfl) (fun _ _ _ h => h) hE (by exact Jac Us.h rfl) rfl ?_; refine Jco 8 rfl (by kernel_rfl) (by kernel_rfl) (by kernel_rfl) (fun _ _ _ h => h) hE (by (apply Jbl; exact Us.h; exact rfl; exact Sz.h; exact rfl)) rfl ?_; refine Jco 9 rfl (by kernel_rfl) (by kernel_rfl) (by kernel_rfl) (fun _ _ _ h => h) hE (by exact Pu_load Fl.h rfl (fun _ e => Ext.cell e (hb912.ld rfl))) rfl ?_; refine Jco 10 rfl (by kernel_rfl) (by kernel_rfl) (by kernel_rfl) (fun _ _ _ h => h) hE (by exact Jac Us.h rfl) rfl ?_; refine Jco 13 rfl (by kernel_rfl) (by kernel_rfl) (by kernel_rfl) (fun _ _ _ h => h) hE (by (apply Jbl; exact Us.h; exact rfl; exact Sz.h; exact rfl)) rfl ?_; refine Jco 14 rfl (by kernel_rfl) (by kernel_rfl) (by kernel_rfl) (fun _ _ _ h => h) hE (by exact Pu_load Fl.h rfl (fun _ e => Ext.cell e (hb912.ld rfl))) rfl ?_; refine Jco 15 rfl (by kernel_rfl) (by kernel_rfl) (by kernel_rfl) (fun _ _ _ h => h) hE (by exact Jac Us.h rfl) rfl ?_)
              refine TA_one 3 (by kernel_rfl) rfl ?_
              refine TL_call rfl en87 (specDiskUsed_c (hh.ext (E10.ext (e1012.ext hE))) hl) rfl rfl ?_
              rintro _ w14 ⟨rfl, e14⟩
              have hE4 := hE.ext e14
              clear hE
              have hE := hE4
              refine Jbq (TN_any hE ?_)
              (refine Jco 4 rfl (by kernel_rfl) (by kernel_rfl) (by kernel_rfl) (fun _ _ _ h => h) hE (by exact Jap rfl rfl (by omega)) rfl ?_)
              refine TA_one 11 (by kernel_rfl) rfl ?_
              refine TL_call rfl en88 (l03Most_c _ _ _) rfl rfl ?_
              rintro _ _ ⟨rfl, rfl⟩
              refine Jbq (TN_any hE ?_)
              (refine Jco 12 rfl (by kernel_rfl) (by kernel_rfl) (by kernel_rfl) (fun _ _ _ h => h) hE (by exact Jaf rfl rfl (by omega)) rfl ?_; refine Jco 16 rfl (by kernel_rfl) (by kernel_rfl) (by kernel_rfl) (fun _ _ _ h => h) hE (by exact Jap rfl rfl (by omega)) rfl ?_; refine Jco 17 rfl (by kernel_rfl) (by kernel_rfl) (by kernel_rfl) (fun _ _ _ h => h) hE (by exact Jab rfl) rfl ?_)
              refine TA_done (by kernel_rfl) ?_
              rw [← hm]
              exact TN_join () (subEnv_cons rfl (subEnv_cons rfl (subEnv_cons rfl (subEnv_cons rfl (subEnv_cons rfl (subEnv_cons rfl (subEnv_cons rfl (subEnv_nil _)))))))) hE
            rintro _ w13 e13
            have hb313 := hb312.ext e13
            have hb913 := hb912.ext e13
            have e1013 := e1012.ext e13
            have hs13 := e13.size
            apply Jbs
            repeat' (first | apply Jbq | apply Jbr | apply Jbt | (apply Jcg; (first | exact Jab rfl | exact Jac Us.h rfl | (apply Jbl; exact Us.h; exact rfl; exact Sz.h; exact rfl)); exact rfl) | refine Jcg (Pu_load Fl.h rfl (fun _ e => by rw [e]; exact hb313.ld rfl)) rfl ?_)
            refine TC_join (ι := Unit) (fun _ => [(3, .pointer (some ⟨g3, 0, none⟩)), (4, .pointer (some ⟨g4, 0, none⟩)), (6, .pointer (some ⟨g6, 0, none⟩)), (7, I (doC d ⟨2, name, to, size, data⟩)), (8, I i), (9, .pointer (some ⟨g9, 0, none⟩)), (11, I k)]) (fun _ w' => w13 = w') ?_ ?_
            · repeat' (first | apply Jbq | apply Jbr | apply Jbs | apply Jbt | (apply Jcg; (first | exact Jaa rfl | exact Jam rfl rfl); exact rfl))
              refine Jcx rfl (fun hgt => ?_) (fun hle => ?_)
              · repeat' (first | apply Jbq | apply Jbr | apply Jbs | apply Jbt | (apply Jcg; (first | exact Jaa rfl | exact Jab rfl); exact rfl))
                exact TN_join () (subEnv_cons rfl (subEnv_cons rfl (subEnv_cons rfl (subEnv_cons (congrArg (fun z => some (I z)) (by rw [hdc, if_pos (by omega)])) (subEnv_cons rfl (subEnv_cons rfl (subEnv_cons (congrArg (fun z => some (I z)) (by omega)) (subEnv_nil _)))))))) rfl
              · repeat' (apply Jbz)
                exact TN_join () (subEnv_cons rfl (subEnv_cons rfl (subEnv_cons rfl (subEnv_cons (congrArg (fun z => some (I z)) (by rw [hdc, if_neg (by omega)])) (subEnv_cons rfl (subEnv_cons rfl (subEnv_cons (congrArg (fun z => some (I z)) (by omega)) (subEnv_nil _)))))))) rfl
            rintro _ _ rfl
            obtain ⟨Ak, ck, hvk, hck, hrk⟩ := RB.to (k := k) hrd hk0 hcd
            obtain ⟨lo3, hi3, hown3, hin3⟩ := hownN.narrow
            have hgnb : gN ∉ blk (.slice Ab body.length cb) := fun h => (hbB gN h).2.2 rfl
            have hg9b : g9 ∉ blk (.slice Ab body.length cb) := fun h => by have := hbB g9 h; omega
            have hg3A : ¬ (g3 ∈ blk (.slice Ab body.length cb) ∨ g3 = g9) := fun h => by rcases h with h | h; (have := hbB g3 h; omega); omega
            repeat' (apply Jbs)
            refine TC_anyB (fun w' => Ch (fun j => j ∈ blk (.slice Ab body.length cb) ∨ j = g9) w13 w') (fun w' => w'.cell? ((⟨g9, 0, none⟩ : Addr).add 1) = some (.slice Ab body.length cb)) 8 mixed rfl (Ch.refl _ _).drew (Ext.cell (Ch.refl _ _).drew (hb913.ld rfl)) ?_
            intro w14 e14 hz14 hA hB
            (refine TB_take 0 rfl rfl rfl (by kernel_rfl) (by kernel_rfl) (by kernel_rfl) (fun _ _ _ h => h) ⟨hA, fun _ => hB⟩ (by (apply Jbl; exact Us.h; exact rfl; exact Sz.h; exact rfl)) rfl ?_; refine TB_take 2 rfl rfl rfl (by kernel_rfl) (by kernel_rfl) (by kernel_rfl) (fun _ _ _ h => h) ⟨hA, fun _ => hB⟩ (by (apply Jbl; exact Us.h; exact rfl; exact Sz.h; exact rfl)) rfl ?_; refine TB_take 3 rfl rfl rfl (by kernel_rfl) (by kernel_rfl) (by kernel_rfl) (fun _ _ _ h => h) ⟨hA, fun _ => hB⟩ (by exact Pu_load Fl.h rfl (fun _ e => Ch.cell e (hb313.ld rfl) (by rw [block_of_add]; exact hg3A))) rfl ?_; refine TB_take 4 rfl rfl rfl (by kernel_rfl) (by kernel_rfl) (by kernel_rfl) (fun _ _ _ h => h) ⟨hA, fun _ => hB⟩ (by exact Jaa rfl) rfl ?_)
            (refine TB_takeB 1 rfl rfl rfl (by kernel_rfl) rfl (by kernel_rfl) (by kernel_rfl) (by kernel_rfl) (fun _ _ _ h => h) ⟨hA, fun _ => hB⟩ (by exact Pu_load Fl.h rfl (fun _ e => e.2)) rfl ?_)
            (refine TB_take 5 rfl rfl rfl (by kernel_rfl) (by kernel_rfl) (by kernel_rfl) (fun _ _ _ h => h) ⟨hA, fun _ => hB⟩ (by exact Jbe Us.h Sz.h rfl rfl (by omega)) rfl ?_)
            rw [hvk]
            refine TB_one 6 (by kernel_rfl) rfl ?_
            have e1014 := e1013.ext e14
            refine TL_appendBx Us.h rfl rfl (hokB.ext e1014) ⟨_, _, rfl, hck, hrk.ext (E10.ext e1014)⟩ (by rw [List.length_take]; omega) rfl ?_
            intro w15 A4 c4 c15 loc15 ho15
            have hs14 := e14.size
            have hs15 := c15.size
            replace hA := (hA.then (c15.mono (fun j hj => .inl hj)))
            replace hB := Ch.cell c15 hB (by rw [block_of_add]; exact hg9b)
            refine Jbq (TN_anyB ⟨hA, fun _ => hB⟩ ?_)
            (refine TB_take 7 rfl rfl rfl (by kernel_rfl) (by kernel_rfl) (by kernel_rfl) (fun _ _ _ h => h) ⟨hA, fun _ => hB⟩ (by (apply Jbl; exact Us.h; exact rfl; exact Sz.h; exact rfl)) rfl ?_)
            refine TB_one 8 (by kernel_rfl) rfl ?_
            have hb915 := (hb913.ext e14).ch c15 hg9b
            have hb615 := (hb612.ext (e13.ext e14)).ch c15 (fun h => by have := hbB g6 h; omega)
            have hb415 := (hb412.ext (e13.ext e14)).ch c15 (fun h => by have := hbB g4 h; omega)
            refine TL_store rfl rfl Sz.h rfl hb915 rfl ?_
            intro w16 c16 hz16 hb916
            refine Jbq (TN_anyB ⟨hA.then (c16.mono (fun j hj => .inr (by have := hj.1; have := hj.2; omega))), fun h => nomatch (show true = false from h)⟩ ?_)
            refine TB_done (by kernel_rfl) ?_
            obtain ⟨nb, hnb⟩ : ∃ nb, nb = body ++ data.take k.toNat := ⟨_, rfl⟩
            rw [← hnb] at ho15 loc15 hdo
            rw [← hnb] at hb916
            replace hb916 : Blk w16 g9 98 [I id, .slice A4 nb.length c4, .slice As safe.length cs] := hb916
            have hb616 := hb615.ch c16 (by simp only [Iv]; omega)
            have hb416 := hb415.ch c16 (by simp only [Iv]; omega)
            have hown16 := ((hown3.ext e1014).ch c15 (fun j h1 h2 h3 => hgnb (by have := hin3 j h1 h2; rw [show blk (.slice (some ⟨gN, 0, none⟩) es.length cN) = [gN] from rfl, List.mem_singleton] at this; rw [← this]; exact h3))).ch c16 (fun j h1 h2 => by have := hin3 j h1 h2; rw [show blk (.slice (some ⟨gN, 0, none⟩) es.length cN) = [gN] from rfl, List.mem_singleton] at this; simp only [Iv]; omega)
            repeat' (first | apply Jbr | apply Jbt | (apply Jcg; (first | exact Jaa rfl | exact Jar Us.h Sz.h rfl rfl (by omega) | (apply Jbl; exact Us.h; exact rfl; exact Sz.h; exact rfl)); exact rfl) | refine Jcg (Pu_load Fl.h rfl (fun _ e => by rw [e]; exact hb616.ld rfl)) rfl ?_ | refine Jcg (Pu_loadAgg (cs := [I id, .slice A4 nb.length c4, .slice As safe.length cs]) Us.h rfl Sz.h rfl (fun _ e j u hu => by rw [e, add0, hb916.cell]; exact hu)) rfl ?_)
            refine TL_storeOwnAgg rfl (add0 gN (i * 3)) rfl Sz.h rfl hown16 (by simp only [List.length_cons, List.length_nil]; omega) ?_
            intro w17 c17 hz17 hown17
            replace hown17 : Own w17 lo3 hi3 98 3 (some ⟨gN, 0, none⟩) es.length cN (setL (cellsL NdC es) (i * 3) (NdC ⟨id, nb, safe, .slice A4 nb.length c4, .slice As safe.length cs⟩)) := hown17
            rw [cells_put hie] at hown17
            have hch1 : Ch (fun j => j ∈ blk (.slice Ab body.length cb) ∨ j = gN) w10 w15 := (Ch.mono e1014 (fun _ t => t.elim)).then (c15.mono (fun j hj => .inl hj))
            have hch2 := hch1.trans c16 (fun _ _ t => t) (fun j hj t => absurd t.1 (by omega))
            have hch := hch2.then (c17.mono (fun j hj => .inr (by have := hj.1; have := hj.2; omega)))
            have hlset : (es.set i ⟨id, nb, safe, .slice A4 nb.length c4, .slice As safe.length cs⟩).length = es.length := List.length_set
            have hv4 : ∀ b ∈ blk (.slice A4 nb.length c4), (b ∈ blk (.slice Ab body.length cb)) ∨ (w14.heap.size ≤ b ∧ b < w15.heap.size) := fun b hb => by
              rcases loc15 with h | ⟨h, h2⟩
              · rw [h] at hb; exact .inl hb
              · rw [h] at hb; rw [List.mem_singleton.1 hb]; exact .inr ⟨Nat.le_refl _, h2⟩
            have hndx : ∀ b ∈ blk (.slice Ab body.length cb), b ∉ blk (.slice As safe.length cs) := fun b h1 h2 => by
              have h3 := (List.nodup_cons.1 hndN).2
              rw [nodes_self hie, List.flatMap_append, List.flatMap_cons, hx'] at h3
              have h4 := (List.nodup_append.1 (List.nodup_append.1 h3).2.1).1
              exact (List.nodup_append.1 (show (blk (.slice Ab body.length cb) ++ blk (.slice As safe.length cs)).Nodup from h4)).2.2 b h1 b h2 rfl
            have E17 : Ext w w17 := E10.trans hch (fun _ _ t => t) (fun j hj t => by rcases t with t | t; (have := hbB j t; omega); omega)
            have hx17 := ODk.put (x' := ⟨id, nb, safe, .slice A4 nb.length c4, .slice As safe.length cs⟩) (lo := w5.heap.size) (hi := w6.heap.size) (hi' := w17.heap.size) (d' := doD d ⟨2, name, to, size, data⟩) (Nat.le_refl _) (by omega) hmap hN hK hT q1 q2 q3 hie hch (fun j hj => by
                rcases hj with h | h
                · right; rw [hx']; exact List.mem_append.2 (.inl h)
                · exact .inl h) ⟨_, _, by rw [hlset], by rw [hlset]; exact hown17⟩
              ⟨(ho15.ch c16 (fun b hb => by simp only [Iv]; rcases hv4 b hb with h | h; (have := hbB b h; omega); omega)).ch c17 (fun b hb => by simp only [Iv]; rcases hv4 b hb with h | h; (have := hbB b h; omega); omega), hokS.ch hch (fun b hb h => by rcases h with h | h; exact hndx b h hb; exact (hbS b hb).2.2 h)⟩
              (by
                show (blk _ ++ blk _).Nodup
                rw [List.nodup_append]
                exact ⟨blk_nodup _, blk_nodup _, fun x hx y hy e => by
                  have h1 := hbS y hy
                  rcases hv4 x hx with h | h
                  · exact hndx x h (e ▸ hy)
                  · omega⟩)
              (fun b hb => by
                rcases List.mem_append.1 hb with hb | hb
                · rcases hv4 b hb with h | h
                  · left; rw [hx']; exact List.mem_append.2 (.inl h)
                  · right; omega
                · left; rw [hx']; exact List.mem_append.2 (.inr hb)) (by omega) (by rw [hdo]; rfl) (by rw [hdo]) (by rw [hdo])
            repeat' (first | apply Jbq | apply Jbx)
            refine TN_join () (subEnv_cons rfl (subEnv_cons rfl (subEnv_cons rfl (subEnv_nil _)))) ⟨E17, by omega, hb416.ch c17 (by simp only [Iv]; omega), _, sk1, st1, ?_, hx17⟩
            rw [hdo]
            exact hb616.ch c17 (by simp only [Iv]; omega)
          · have hdo : doD d ⟨3, name, to, size, data⟩ = { d with fuse := fuseOf d, nodes := d.nodes.set i (id, body, body) } := by
              unfold doD
              rw [if_neg (by simp), if_neg (by simp), if_pos rfl]
              unfold ndPut
              rw [hoA _ _ _ _ _ rfl, hndA _ _ _ _ _ rfl]
            repeat' (first | apply Jbq | apply Jbr | apply Jbs | apply Jbt | apply Jby | (refine Jce rfl ?_) | (refine Jcf rfl ?_) | (apply Jcg; (first | exact Jaa rfl | exact Jab rfl | exact Jak rfl rfl | exact Jar Us.h Sz.h rfl rfl (by omega) | (apply Jbl; exact Us.h; exact rfl; exact Sz.h; exact rfl)); exact rfl) | refine Jcg (Pu_load Fl.h rfl (fun _ e => by rw [e]; exact hb3.ld rfl)) rfl ?_ | refine Jcg (Pu_load Fl.h rfl (fun _ e => by rw [e]; exact hb6.ld rfl)) rfl ?_ | refine Jcg (Pu_loadAgg (cs := [I id, .slice Ab body.length cb, .slice As safe.length cs]) Us.h rfl Sz.h rfl (fun _ e j u hu => by rw [e]; exact hcell j u hu)) rfl ?_ | (refine TL_alloc Zs.h rfl rfl ?_; intro w11 g9 e11 hg9 hz11 hb9) | (refine TL_storeAgg rfl rfl Sz.h rfl hb9 rfl ?_; intro w12 c12 hz12 hb912))
            refine TL_buildSlice0 Us.h Sz.h rfl ?_
            intro w13 g13 e13 hg13 hz13 hown13
            clear hb9
            have e1012 : Ext w10 w12 := Ext.then_iv e11 c12 (by omega)
            have hs12 := e1012.size
            have hb612 := hb6.ext e1012
            have hb312 := hb3.ext e1012
            have hb412 := hb4.ext e1012
            have hlt9 := hb912.lt
            have hb913 := hb912.ext e13
            repeat' (first | (apply Jcg; (apply Jbl; exact Us.h; exact rfl; exact Sz.h; exact rfl); exact rfl) | refine Jcg (Pu_load Fl.h rfl (fun _ e => by rw [e]; exact hb913.ld rfl)) rfl ?_)
            have hnew : OB w13 w12.heap.size w13.heap.size _ [] := OB_new (s := []) rfl hown13 hg13 hz13
            refine TL_appendB Us.h rfl rfl hnew ⟨_, _, rfl, hownB.cap.1, (hownB.ext (e1012.ext e13)).rd⟩ e13.size (by simp only [List.length_nil]; omega) rfl ?_
            intro w14 v14 c14 ho14
            rw [List.nil_append] at ho14
            obtain ⟨A2, c2, rfl, ho2⟩ := ho14
            have hs14 := c14.size
            have hb914 := hb913.ch c14 (by simp only [Iv]; omega)
            have e1014 : Ext w10 w14 := Ext.then_iv (e1012.ext e13) c14 (by omega)
            repeat' ((apply Jcg; (apply Jbl; exact Us.h; exact rfl; exact Sz.h; exact rfl); exact rfl))
            refine TL_store rfl rfl Sz.h rfl hb914 rfl ?_
            intro w15 c15 hz15 hb915
            replace hb915 : Blk w15 g9 98 [I id, .slice Ab body.length cb, .slice A2 body.length c2] := hb915
            have e1015 : Ext w10 w15 := Ext.then_iv e1014 c15 (by omega)
            have hb615 := hb6.ext e1015
            have hb415 := hb4.ext e1015
            repeat' (first | apply Jbq | apply Jbr | apply Jbt | (apply Jcg; (first | exact Jaa rfl | exact Jar Us.h Sz.h rfl rfl (by omega) | (apply Jbl; exact Us.h; exact rfl; exact Sz.h; exact rfl)); exact rfl) | refine Jcg (Pu_load Fl.h rfl (fun _ e => by rw [e]; exact hb615.ld rfl)) rfl ?_ | refine Jcg (Pu_loadAgg (cs := [I id, .slice Ab body.length cb, .slice A2 body.length c2]) Us.h rfl Sz.h rfl (fun _ e j u hu => by rw [e, add0, hb915.cell]; exact hu)) rfl ?_)
            refine TL_storeOwnAgg rfl (add0 gN (i * 3)) rfl Sz.h rfl (hownN.ext e1015) (by simp only [List.length_cons, List.length_nil]; omega) ?_
            intro w16 c16 hz16 hown16
            replace hown16 : Own w16 loN hiN 98 3 (some ⟨gN, 0, none⟩) es.length cN (setL (cellsL NdC es) (i * 3) (NdC ⟨id, body, body, .slice Ab body.length cb, .slice A2 body.length c2⟩)) := hown16
            rw [cells_put hie] at hown16
            have hch : Ch (Iv gN (gN + 1)) w10 w16 := (Ch.mono e1015 (fun _ t => t.elim)).then c16
            have hbn2 : ∀ x ∈ blk (.slice A2 body.length c2), w12.heap.size ≤ x ∧ x < w14.heap.size := OB.bin ⟨A2, c2, rfl, ho2⟩
            have hlset : (es.set i ⟨id, body, body, .slice Ab body.length cb, .slice A2 body.length c2⟩).length = es.length := List.length_set
            have E16 : Ext w w16 := Ext.then_iv (E10.ext e1015) c16 (by omega)
            have hx16 := ODk.put (x' := ⟨id, body, body, .slice Ab body.length cb, .slice A2 body.length c2⟩) (lo := w5.heap.size) (hi := w6.heap.size) (hi' := w16.heap.size) (d' := doD d ⟨3, name, to, size, data⟩) (Nat.le_refl _) (by omega) hmap hN hK hT q1 q2 q3 hie hch (fun j hj => .inl (by have := hj.1; have := hj.2; omega)) ⟨_, _, by rw [hlset], by rw [hlset]; exact hown16⟩
              ⟨hokB.ch hch (fun b hb => by have := hbB b hb; simp only [Iv]; omega), (((OB.x ⟨A2, c2, rfl, ho2⟩).ch c15 (fun b hb => by have := hbn2 b hb; simp only [Iv]; omega))).ch c16 (fun b hb => by have := hbn2 b hb; simp only [Iv]; omega)⟩
              (by
                show (blk _ ++ blk _).Nodup
                rw [List.nodup_append]
                exact ⟨blk_nodup _, blk_nodup _, fun x hx y hy e => by
                  have h1 := hbB x hx
                  have h2 := hbn2 y hy
                  omega⟩)
              (fun b hb => by
                rcases List.mem_append.1 hb with hb | hb
                · left; rw [hx']; exact List.mem_append.2 (.inl hb)
                · right; have := hbn2 b hb; omega) (by omega) (by rw [hdo]; rfl) (by rw [hdo]) (by rw [hdo])
            repeat' (first | apply Jbq | apply Jbx)
            refine TN_join () (subEnv_cons rfl (subEnv_cons rfl (subEnv_cons rfl (subEnv_nil _)))) ⟨E16, by omega, hb415.ch c16 (by simp only [Iv]; omega), _, sk1, st1, ?_, hx16⟩
            rw [hdo]
            exact hb615.ch c16 (by simp only [Iv]; omega)
          · obtain ⟨hz0, hz1⟩ := p6 rfl
            have hc4' : size ≤ (body.length : Int) := by
              have h1 := hc4 rfl
              rw [hoI _ _ _ _ _ rfl, hbodyE] at h1
              exact h1
            have hdo : doD d ⟨4, name, to, size, data⟩ = { d with fuse := fuseOf d, nodes := d.nodes.set i (id, body.take size.toNat, safe) } := by
              unfold doD
              rw [if_neg (by simp), if_neg (by simp), if_neg (by simp), if_pos rfl]
              unfold ndPut
              rw [hoA _ _ _ _ _ rfl, hndA _ _ _ _ _ rfl]
            have hcapB := hownB.cap.1
            repeat' (first | apply Jbq | apply Jbr | apply Jbs | apply Jbt | apply Jby | (refine Jce rfl ?_) | (refine Jcf rfl ?_) | (apply Jcg; (first | exact Jaa rfl | exact Jab rfl | exact Jak rfl rfl | exact Jar Us.h Sz.h rfl rfl (by omega) | (apply Jbl; exact Us.h; exact rfl; exact Sz.h; exact rfl)); exact rfl) | refine Jcg (Pu_load Fl.h rfl (fun _ e => by rw [e]; exact hb3.ld rfl)) rfl ?_ | refine Jcg (Pu_load Fl.h rfl (fun _ e => by rw [e]; exact hb6.ld rfl)) rfl ?_ | refine Jcg (Pu_loadAgg (cs := [I id, .slice Ab body.length cb, .slice As safe.length cs]) Us.h rfl Sz.h rfl (fun _ e j u hu => by rw [e]; exact hcell j u hu)) rfl ?_ | (refine TL_alloc Zs.h rfl rfl ?_; intro w11 g9 e11 hg9 hz11 hb9) | (refine TL_storeAgg rfl rfl Sz.h rfl hb9 rfl ?_; intro w12 c12 hz12 hb912))
            clear hb9
            have e1012 : Ext w10 w12 := Ext.then_iv e11 c12 (by omega)
            have hs12 := e1012.size
            have hb612 := hb6.ext e1012
            have hb312 := hb3.ext e1012
            have hb412 := hb4.ext e1012
            have hlt9 := hb912.lt
            repeat' (first | (apply Jcg; (first | exact Jbe Us.h Sz.h rfl rfl (by omega) | (apply Jbl; exact Us.h; exact rfl; exact Sz.h; exact rfl)); exact rfl) | refine Jcg (Pu_load Fl.h rfl (fun _ e => by rw [e]; exact hb912.ld rfl)) rfl ?_ | refine Jcg (Pu_load Fl.h rfl (fun _ e => by rw [e]; exact hb312.ld rfl)) rfl ?_)
            have htl : size.toNat = (body.take size.toNat).length := by rw [List.length_take]; omega
            obtain ⟨hcu, hok4, hbk4⟩ := OBx.to (k := size) hokB ⟨hz0, hc4'⟩
            rw [hcu, htl]
            refine TL_store rfl rfl Sz.h rfl hb912 rfl ?_
            intro w15 c15 hz15 hb915
            replace hb915 : Blk w15 g9 98 [I id, .slice Ab (body.take size.toNat).length cb, .slice As safe.length cs] := hb915
            have e1015 : Ext w10 w15 := Ext.then_iv e1012 c15 (by omega)
            have hb615 := hb6.ext e1015
            have hb415 := hb4.ext e1015
            repeat' (first | apply Jbq | apply Jbr | apply Jbt | (apply Jcg; (first | exact Jaa rfl | exact Jar Us.h Sz.h rfl rfl (by omega) | (apply Jbl; exact Us.h; exact rfl; exact Sz.h; exact rfl)); exact rfl) | refine Jcg (Pu_load Fl.h rfl (fun _ e => by rw [e]; exact hb615.ld rfl)) rfl ?_ | refine Jcg (Pu_loadAgg (cs := [I id, .slice Ab (body.take size.toNat).length cb, .slice As safe.length cs]) Us.h rfl Sz.h rfl (fun _ e j u hu => by rw [e, add0, hb915.cell]; exact hu)) rfl ?_)
            refine TL_storeOwnAgg rfl (add0 gN (i * 3)) rfl Sz.h rfl (hownN.ext e1015) (by simp only [List.length_cons, List.length_nil]; omega) ?_
            intro w16 c16 hz16 hown16
            replace hown16 : Own w16 loN hiN 98 3 (some ⟨gN, 0, none⟩) es.length cN (setL (cellsL NdC es) (i * 3) (NdC ⟨id, body.take size.toNat, safe, .slice Ab (body.take size.toNat).length cb, .slice As safe.length cs⟩)) := hown16
            rw [cells_put hie] at hown16
            have hch : Ch (Iv gN (gN + 1)) w10 w16 := (Ch.mono e1015 (fun _ t => t.elim)).then c16
            have hlset : (es.set i ⟨id, body.take size.toNat, safe, .slice Ab (body.take size.toNat).length cb, .slice As safe.length cs⟩).length = es.length := List.length_set
            have E16 : Ext w w16 := Ext.then_iv (E10.ext e1015) c16 (by omega)
            have hx16 := ODk.put (x' := ⟨id, body.take size.toNat, safe, .slice Ab (body.take size.toNat).length cb, .slice As safe.length cs⟩) (lo := w5.heap.size) (hi := w6.heap.size) (hi' := w16.heap.size) (d' := doD d ⟨4, name, to, size, data⟩) (Nat.le_refl _) (by omega) hmap hN hK hT q1 q2 q3 hie hch (fun j hj => .inl (by have := hj.1; have := hj.2; omega)) ⟨_, _, by rw [hlset], by rw [hlset]; exact hown16⟩
              ⟨hok4.ch hch (fun b hb => by rw [hbk4] at hb; have := hbB b hb; simp only [Iv]; omega), hokS.ch hch (fun b hb => by have := hbS b hb; simp only [Iv]; omega)⟩
              (by
                show (blk _ ++ blk _).Nodup
                rw [hbk4]
                have h3 := (List.nodup_cons.1 hndN).2
                rw [nodes_self hie, List.flatMap_append, List.flatMap_cons, hx'] at h3
                exact (List.nodup_append.1 (List.nodup_append.1 h3).2.1).1)
              (fun b hb => by
                left
                rw [hx']
                rcases List.mem_append.1 hb with hb | hb
                · rw [hbk4] at hb; exact List.mem_append.2 (.inl hb)
                · exact List.mem_append.2 (.inr hb)) (by omega) (by rw [hdo]; rfl) (by rw [hdo]) (by rw [hdo])
            repeat' (first | apply Jbq | apply Jbx)
            refine TN_join () (subEnv_cons rfl (subEnv_cons rfl (subEnv_cons rfl (subEnv_nil _)))) ⟨E16, by omega, hb415.ch c16 (by simp only [Iv]; omega), _, sk1, st1, ?_, hx16⟩
            rw [hdo]
            exact hb615.ch c16 (by simp only [Iv]; omega)
          · have hdo : doD d ⟨kind, name, to, size, data⟩ = { d with fuse := fuseOf d, turns := d.turns ++ [⟨kind, name, to, 0⟩] } := by
              unfold doD
              rw [if_neg (by simp only; omega), if_neg (by simp only; omega), if_neg (by simp only; omega), if_neg (by simp only; omega), if_neg (by simp only; omega)]
            have hct' := hct (.inr hk56)
            have key : ∀ w11 g11, Ext w10 w11 → g11 = w10.heap.size → w11.heap.size = g11 + 1 → ∀ w12 st2, Ch (fun j => j ∈ blk st1) w11 w12 → (blk st2 = blk st1 ∨ (blk st2 = [w11.heap.size] ∧ w11.heap.size < w12.heap.size)) → RowOx TnC 121 4 w12 st2 (d.turns ++ [⟨kind, name, to, 0⟩]) → ∀ w13, Ch (Iv g6 (g6 + 1)) w12 w13 → w13.heap.size = w12.heap.size →
                Blk w13 g6 33 [I d.room, I (fuseOf d), I d.next, .slice (some ⟨gN, 0, none⟩) es.length cN, sk1, st2] →
                (Ext w w13 ∧ w10.heap.size ≤ w13.heap.size ∧ Blk w13 g4 33 (dskC noDk (.slice none 0 0) (.slice none 0 0) (.slice none 0 0)) ∧ ∃ sn' sk' st', Blk w13 g6 33 (dskC (doD d ⟨kind, name, to, size, data⟩) sn' sk' st') ∧ ODk w13 w5.heap.size w13.heap.size (doD d ⟨kind, name, to, size, data⟩) sn' sk' st') := by
              intro w11 g11 e11 hg11 hz11 w12 st2 c12 loc12 hT12 w13 c13 hz13 hb613
              have hs12 := c12.size
              have hst2 : ∀ b ∈ blk st2, (w5.heap.size ≤ b ∧ b < w6.heap.size ∧ b ∈ blk st1) ∨ (w11.heap.size ≤ b ∧ b < w12.heap.size) := fun b hb => by
                rcases loc12 with h | ⟨h, h2⟩
                · rw [h] at hb; have := q3 b hb; exact .inl ⟨this.1, this.2, hb⟩
                · rw [h] at hb; rw [List.mem_singleton.1 hb]; exact .inr ⟨Nat.le_refl _, h2⟩
              have hN13 := ((hN.ext e11).ch c12 (fun b hb => (q1 b hb).2.2.2)).ch c13 (fun b hb => by have := q1 b hb; simp only [Iv]; omega)
              have hK13 := ((hK.ext e11).ch c12 (fun b hb => (q2 b hb).2.2)).ch c13 (fun b hb => by have := q2 b hb; simp only [Iv]; omega)
              have hT13 := hT12.ch c13 (fun b hb => by have := hst2 b hb; simp only [Iv]; omega)
              have hb413 := ((hb4.ext e11).ch c12 (fun hb => by have := q3 g4 hb; omega)).ch c13 (by simp only [Iv]; omega)
              have E12 : Ext w w12 := (E10.ext e11).trans c12 (fun _ _ t => t) (fun j hj t => by have := q3 j t; omega)
              refine ⟨Ext.then_iv E12 c13 (by omega), by omega, hb413, _, sk1, st2, by rw [hdo]; exact hb613, ODk.mk3 (es := es) (Nat.le_refl _) (by rw [hdo]; exact hmap) hN13 (by rw [hdo]; exact hK13) (by rw [hdo]; exact hT13) (fun b hb => ?_) (fun b hb => by have h1 := q2 b hb; exact ⟨h1.1, by omega, fun h => by rcases hst2 b h with h2 | h2; exact h1.2.2 h2.2.2; omega⟩) (fun b hb => by have h1 := hst2 b hb; omega)⟩
              have h1 := q1 b hb
              exact ⟨h1.1, by omega, h1.2.2.1, fun h => by rcases hst2 b h with h2 | h2; exact h1.2.2.2 h2.2.2; omega⟩
            have hg6 : ∀ b ∈ blk st1, b ≠ g6 := fun b hb => by have := q3 b hb; omega
            rcases hk56 with rfl | rfl
            · repeat' (first | apply Jbq | apply Jbr | apply Jbs | apply Jbt | apply Jby | apply Jbz | (refine Jce rfl ?_) | (refine Jcf rfl ?_) | (apply Jcg; (first | exact Jab rfl | exact Jak rfl rfl | (apply Jbl; exact Us.h; exact rfl; exact Sz.h; exact rfl)); exact rfl) | refine Jcg (Pu_load Fl.h rfl (fun _ e => by rw [e]; exact hb6.ld rfl)) rfl ?_ | refine Jcg (Pu_load Fl.h rfl (fun _ e => by rw [e]; exact hb3.ld rfl)) rfl ?_ | refine Jcg (Pu_build (cs := TnC ⟨5, name, to, 0⟩) rfl (by kernel_rfl)) rfl ?_)
              refine TL_buildSlice Us.h Zi.h rfl rfl rfl rfl (fillT ⟨5, name, to, 0⟩) rfl rfl ?_
              intro w11 g11 e11 hg11 hz11 hown11
              skip
              refine TL_appendOx Us.h Inf.h rfl rfl rfl TnC_one rfl rfl (hT.ext e11) (RowO.new (l := [(⟨5, name, to, 0⟩ : TnD)]) rfl hown11 hg11 hz11).rd (by simp only [List.length_cons, List.length_nil]; omega) rfl ?_
              intro w12 st2 c12 loc12 hT12
              repeat' ((apply Jcg; (apply Jbl; exact Us.h; exact rfl; exact Sz.h; exact rfl); exact rfl))
              refine TL_store rfl rfl Sz.h hT12.one ((hb6.ext e11).ch c12 (fun hb => hg6 g6 hb rfl)) rfl ?_
              intro w13 c13 hz13 hb613
              repeat' (first | apply Jbq | apply Jbx)
              exact TN_join () (subEnv_cons rfl (subEnv_cons rfl (subEnv_cons rfl (subEnv_nil _)))) (key w11 g11 e11 hg11 hz11 w12 st2 c12 loc12 hT12 w13 c13 hz13 hb613)
            · repeat' (first | apply Jbq | apply Jbr | apply Jbs | apply Jbt | apply Jby | (refine Jce rfl ?_) | (refine Jcf rfl ?_) | (apply Jcg; (first | exact Jab rfl | exact Jak rfl rfl | (apply Jbl; exact Us.h; exact rfl; exact Sz.h; exact rfl)); exact rfl) | refine Jcg (Pu_load Fl.h rfl (fun _ e => by rw [e]; exact hb6.ld rfl)) rfl ?_ | refine Jcg (Pu_load Fl.h rfl (fun _ e => by rw [e]; exact hb3.ld rfl)) rfl ?_ | refine Jcg (Pu_build (cs := TnC ⟨6, name, to, 0⟩) rfl (by kernel_rfl)) rfl ?_)
              refine TL_buildSlice Us.h Zi.h rfl rfl rfl rfl (fillT ⟨6, name, to, 0⟩) rfl rfl ?_
              intro w11 g11 e11 hg11 hz11 hown11
              skip
              refine TL_appendOx Us.h Inf.h rfl rfl rfl TnC_one rfl rfl (hT.ext e11) (RowO.new (l := [(⟨6, name, to, 0⟩ : TnD)]) rfl hown11 hg11 hz11).rd (by simp only [List.length_cons, List.length_nil]; omega) rfl ?_
              intro w12 st2 c12 loc12 hT12
              repeat' ((apply Jcg; (apply Jbl; exact Us.h; exact rfl; exact Sz.h; exact rfl); exact rfl))
              refine TL_store rfl rfl Sz.h hT12.one ((hb6.ext e11).ch c12 (fun hb => hg6 g6 hb rfl)) rfl ?_
              intro w13 c13 hz13 hb613
              repeat' (first | apply Jbq | apply Jbx)
              exact TN_join () (subEnv_cons rfl (subEnv_cons rfl (subEnv_cons rfl (subEnv_nil _)))) (key w11 g11 e11 hg11 hz11 w12 st2 c12 loc12 hT12 w13 c13 hz13 hb613)
      rintro _ w20 ⟨E20, hs20, hb420, sn2, sk2, st2, hb620, hx20⟩
      have hone2 := hx20.one
      repeat' (first | apply Jbs | apply Jbt | (apply Jcg; exact Jaa rfl; exact rfl) | refine Jcg (Pu_loadAgg (cs := dskC (doD d ⟨kind, name, to, size, data⟩) sn2 sk2 st2) Us.h rfl Sz.h rfl (fun _ e j u hu => by rw [e, add0, hb620.cell]; exact hu)) rfl ?_)
      refine TL_storeAgg rfl rfl Sz.h hone2 hb420 rfl ?_
      intro w21 c21 hz21 hb21
      repeat' (first | apply Jbq | apply Jbr | apply Jbu | (apply Jcg; exact Jab rfl; exact rfl))
      exact TR_of (resA1 rfl rfl rfl hb21 Us.h rfl Sz.h) ⟨sn2, sk2, st2, rfl, Ext.then_iv E20 c21 (by omega), (hx20.ch c21 (by intro k _ _; simp only [Iv]; omega)).wide (by omega) (by omega) (Nat.le_refl _)⟩
end Go.Proofs.YtggaghghclomkaaGreat

/- Contracts of the steps between two contents. -/
namespace Go.Proofs.YtggaghghclomkaaGreat
open Go.RowKit
attribute [local irreducible] TL TC TN TX TR TQ Pu Ret

/-- How long a beginning is shared. -/
def share : List UInt8 → List UInt8 → Nat
  | a :: x, b :: y => if a = b then share x y + 1 else 0
  | _, _ => 0
theorem share_le : ∀ s t : List UInt8, share s t ≤ s.length ∧ share s t ≤ t.length
  | [], t => by simp [share]
  | a :: x, [] => by simp [share]
  | a :: x, b :: y => by
    have := share_le x y
    simp only [share, List.length_cons]
    split <;> omega
theorem share_is : ∀ (n : Nat) (s t : List UInt8), s.take n = t.take n → n ≤ s.length → n ≤ t.length → (n = s.length ∨ n = t.length ∨ s.getD n 0 ≠ t.getD n 0) → share s t = n
  | 0, [], t, _, _, _, _ => by simp [share]
  | 0, a :: x, [], _, _, _, _ => by simp [share]
  | 0, a :: x, b :: y, _, _, _, h => by
    simp at h
    simp [share, h]
  | n + 1, [], t, _, h, _, _ => by simp at h
  | n + 1, a :: x, [], _, _, h, _ => by simp at h
  | n + 1, a :: x, b :: y, h, h1, h2, h3 => by
    simp at h h1 h2 h3
    have := share_is n x y h.2 h1 h2 (by simpa using h3)
    simp [share, h.1, this]
def tearSteps (s t : List UInt8) : Int := s.length + t.length - 2 * (share s t : Int)
def tearK (s t : List UInt8) (k : Int) : Nat := (max 0 (min k (tearSteps s t))).toNat
def tear (s t : List UInt8) (k : Int) : List UInt8 :=
  if tearK s t k ≤ s.length - share s t then s.take (s.length - tearK s t k) else t.take (share s t + tearK s t k - (s.length - share s t))
theorem tear_len (s t : List UInt8) (k : Int) : (tear s t k).length = if tearK s t k ≤ s.length - share s t then s.length - tearK s t k else share s t + tearK s t k - (s.length - share s t) := by
  have h := share_le s t
  have h2 : tearK s t k ≤ s.length + t.length - 2 * share s t := by unfold tearK tearSteps; omega
  unfold tear
  split <;> simp <;> omega

theorem implcommonPrefix_c {A A2 : Option Addr} {c c2 lo hi lo2 hi2 : Nat} {s t : List UInt8} {w : World} (hr : Rd w lo hi 1 A s.length (u8s s)) (hr2 : Rd w lo2 hi2 1 A2 t.length (u8s t)) (hl : s.length ≤ 1099511627776) (_hl2 : t.length ≤ 1099511627776) :
    Ret Tryz.prog 146 #[.slice A s.length c, .slice A2 t.length c2] w fun v w' => v = I (share s t) ∧ Ext w w' := by
  refine Ret_enter Tryz.func146 rfl rfl rfl ?_
  repeat' (first | apply Jbq | apply Jbr | apply Jbs | apply Jbt | apply Jby | (apply Jcg; exact Jab rfl; exact rfl))
  refine TC_loop (ι := Nat) (fun k => [(0, .slice A s.length c), (1, .slice A2 t.length c2), (5, I k)]) (fun k w' => k ≤ s.length ∧ k ≤ t.length ∧ s.take k = t.take k ∧ Ext w w') (fun k => s.length - k) 0 (subEnv_cons rfl (subEnv_cons rfl (subEnv_cons rfl (subEnv_nil _)))) ⟨Nat.zero_le _, Nat.zero_le _, rfl, Ch.refl _ _⟩ ?_
  intro k w2 ⟨hk, hk2, htk, e2⟩
  repeat' (apply Jbs)
  refine TC_quietExt mixed (by kernel_rfl) ?_
  by_cases h1 : k < s.length
  · by_cases h2 : k < t.length
    · obtain ⟨ad, rfl, hc⟩ := (hr.ext e2).get h1
      obtain ⟨ad2, rfl, hc2⟩ := (hr2.ext e2).get h2
      rw [u8s_get s h1] at hc
      rw [u8s_get t h2] at hc2
      repeat' (first | (apply Jck; (first | exact Jaa rfl | exact Jac Us.h rfl | exact Jad rfl rfl | exact Jag Us.h Sz.h rfl rfl (by omega) | exact Jah rfl rfl | exact Jak rfl rfl); exact rfl) | refine Jcl rfl rfl rfl ?_ | refine Jck (Pu_load Fl.h rfl (fun _ e => Ext.cell e hc)) rfl ?_ | refine Jck (Pu_load Fl.h rfl (fun _ e => Ext.cell e hc2)) rfl ?_ | (refine Jcv rfl rfl (fun hb => ?_) (fun hb => ?_) <;> (try (exfalso; omega))))
      refine TQ_nil fun w3 e3 => ?_
      repeat' (apply Jbr)
      refine Jcx rfl (fun hq => ?_) (fun hq => ?_)
      · have hq : s.getD k 0 = t.getD k 0 := UInt8.toNat_inj.1 (by omega)
        have q1 : s.take (k + 1) = s.take k ++ [s.getD k 0] := by rw [List.take_succ_eq_append_getElem h1]; simp [List.getD_eq_getElem?_getD, List.getElem?_eq_getElem h1]
        have q2 : t.take (k + 1) = t.take k ++ [t.getD k 0] := by rw [List.take_succ_eq_append_getElem h2]; simp [List.getD_eq_getElem?_getD, List.getElem?_eq_getElem h2]
        repeat' (first | apply Jbq | apply Jbr | apply Jbt | apply Jbx | apply Jby | apply Jbz | (apply Jcg; (first | exact Jaa rfl | exact Jab rfl | exact Jaf rfl rfl (by omega)); exact rfl))
        exact TN_round (k + 1) (subEnv_cons rfl (subEnv_cons rfl (subEnv_cons rfl (subEnv_nil _)))) ⟨h1, h2, by rw [q1, q2, htk, hq], e2.ext e3⟩ (by omega)
      · repeat' (first | apply Jbq | apply Jbr | apply Jbs | apply Jbt | apply Jbu | apply Jca | apply Jcb | apply Jcc | (apply Jcg; (first | exact Jaa rfl | exact Jab rfl); exact rfl))
        exact TR_of (res1 rfl rfl) ⟨by rw [share_is k s t htk hk hk2 (.inr (.inr fun h => hq (by rw [h])))], e2.ext e3⟩
    · repeat' (first | (apply Jck; (first | exact Jaa rfl | exact Jac Us.h rfl | exact Jad rfl rfl | exact Jah rfl rfl | exact Jai rfl rfl); exact rfl) | refine Jcl rfl rfl rfl ?_ | refine Jcm rfl rfl rfl rfl rfl ?_ | (refine Jcv rfl rfl (fun hb => ?_) (fun hb => ?_) <;> (try (exfalso; omega))))
      refine TQ_nil fun w3 e3 => ?_
      repeat' (first | apply Jbq | apply Jbr | apply Jbs | apply Jbt | apply Jbu | apply Jca | apply Jcb | apply Jcc | (refine Jcf rfl ?_) | (apply Jcg; (first | exact Jaa rfl | exact Jab rfl); exact rfl))
      exact TR_of (res1 rfl rfl) ⟨by rw [share_is k s t htk hk hk2 (by omega)], e2.ext e3⟩
  · repeat' (first | (apply Jck; (first | exact Jaa rfl | exact Jac Us.h rfl | exact Jad rfl rfl | exact Jai rfl rfl); exact rfl) | refine Jcm rfl rfl rfl rfl rfl ?_ | (refine Jcv rfl rfl (fun hb => ?_) (fun hb => ?_) <;> (try (exfalso; omega))))
    refine TQ_nil fun w3 e3 => ?_
    repeat' (first | apply Jbq | apply Jbr | apply Jbs | apply Jbt | apply Jbu | apply Jca | apply Jcb | apply Jcc | (refine Jcf rfl ?_) | (apply Jcg; (first | exact Jaa rfl | exact Jab rfl); exact rfl))
    exact TR_of (res1 rfl rfl) ⟨by rw [share_is k s t htk hk hk2 (by omega)], e2.ext e3⟩
theorem implTearSteps_c {A A2 : Option Addr} {c c2 lo hi lo2 hi2 : Nat} {s t : List UInt8} {w : World} (hr : Rd w lo hi 1 A s.length (u8s s)) (hr2 : Rd w lo2 hi2 1 A2 t.length (u8s t)) (hl : s.length ≤ 1099511627776) (hl2 : t.length ≤ 1099511627776) :
    Ret Tryz.prog 145 #[.slice A s.length c, .slice A2 t.length c2] w fun v w' => v = I (tearSteps s t) ∧ Ext w w' := by
  have hs := share_le s t
  refine Ret_enter Tryz.func145 rfl rfl rfl ?_
  repeat' (first | apply Jbq | apply Jbr | apply Jbs | apply Jbt | (apply Jcg; (first | exact Jaa rfl | exact Jab rfl | exact Jac Us.h rfl | exact Jaf rfl rfl (by omega)); exact rfl))
  refine TL_call rfl en146 (implcommonPrefix_c hr hr2 hl hl2) rfl rfl ?_
  rintro _ w1 ⟨rfl, e1⟩
  repeat' (first | apply Jbq | apply Jbr | apply Jbu | (apply Jcg; (first | exact Jab rfl | exact Jap rfl rfl (by omega) | exact Jbk rfl rfl (by omega)); exact rfl))
  exact TR_of (res1 rfl rfl) ⟨rfl, e1⟩
theorem implTear_c {A A2 : Option Addr} {c c2 lo hi lo2 hi2 : Nat} {s t : List UInt8} {k : Int} {w : World} (hr : Rd w lo hi 1 A s.length (u8s s)) (hr2 : Rd w lo2 hi2 1 A2 t.length (u8s t)) (hl : s.length ≤ 1099511627776) (hl2 : t.length ≤ 1099511627776) (hc : s.length ≤ c) (hc2 : t.length ≤ c2) :
    Ret Tryz.prog 70 #[.slice A s.length c, .slice A2 t.length c2, I k] w fun v w' => ∃ A' c', v = .slice A' (tear s t k).length c' ∧ Ext w w' ∧ Own w' w.heap.size w'.heap.size 5 1 A' (tear s t k).length c' (u8s (tear s t k)) := by
  have hs := share_le s t
  obtain ⟨K, hK⟩ : ∃ K, K = tearK s t k := ⟨_, rfl⟩
  have hTk : tearSteps s t = s.length + t.length - 2 * (share s t : Int) := rfl
  have hKd : max 0 (min k (tearSteps s t)) = (K : Int) := by rw [hK]; unfold tearK; omega
  refine Ret_enter Tryz.func70 rfl rfl rfl ?_
  repeat' (first | apply Jbq | apply Jbr | apply Jbs | apply Jbt | (apply Jcg; (first | exact Jaa rfl | exact Jab rfl); exact rfl))
  refine TL_call rfl en145 (implTearSteps_c hr hr2 hl hl2) rfl rfl ?_
  rintro _ w1 ⟨rfl, e1⟩
  repeat' (first | apply Jbq | apply Jbr | apply Jbs | apply Jbt | (apply Jcg; (first | exact Jaa rfl | exact Jab rfl | exact Jay rfl rfl | exact Jaz rfl rfl); exact rfl))
  rw [hKd]
  refine TL_call rfl en146 (implcommonPrefix_c (hr.ext e1) (hr2.ext e1) hl hl2) rfl rfl ?_
  rintro _ w2 ⟨rfl, e2⟩
  have E2 := e1.ext e2
  have hsz := E2.size
  repeat' (first | apply Jbq | apply Jbr | apply Jbs | apply Jbt | apply Jbz | (apply Jcg; (first | exact Jaa rfl | exact Jab rfl | exact Jac Us.h rfl | exact Jaf rfl rfl (by omega) | exact Jam rfl rfl | exact Jap rfl rfl (by omega) | exact Jbe Us.h Sz.h rfl rfl (by omega)); exact rfl) | (refine Jcx rfl (fun hb => ?_) (fun hb => ?_) <;> (try (exfalso; omega))))
  · have hT : tear s t k = t.take ((share s t : Int) + K - ((s.length : Int) - share s t)).toNat := by unfold tear; rw [← hK, if_neg (by omega)]; congr 1; omega
    have hlen : ((share s t : Int) + K - ((s.length : Int) - share s t)).toNat = (tear s t k).length := by rw [hT]; simp <;> omega
    have hR := (hr2.ext E2).to8 (b := (share s t : Int) + K - ((s.length : Int) - share s t)) (by omega) hc2
    rw [← hT, hlen] at hR
    rw [hlen]
    refine TL_call rfl en71 (copyBytes_c hR (by rw [← hlen]; omega)) rfl rfl ?_
    rintro _ w3 ⟨A3, c3, rfl, e3, hown⟩
    repeat' (first | apply Jbq | apply Jbr | apply Jbu | apply Jbv | (apply Jcg; exact Jab rfl; exact rfl))
    exact TR_of (res1 rfl rfl) ⟨A3, c3, rfl, E2.ext e3, hown.wide (by omega) (Nat.le_refl _) (Nat.le_refl _)⟩
  · have hT : tear s t k = s.take ((s.length : Int) - K).toNat := by unfold tear; rw [← hK, if_pos (by omega)]; congr 1; omega
    have hlen : ((s.length : Int) - K).toNat = (tear s t k).length := by rw [hT]; simp <;> omega
    have hR := (hr.ext E2).to8 (b := (s.length : Int) - K) (by omega) hc
    rw [← hT, hlen] at hR
    rw [hlen]
    refine TL_call rfl en71 (copyBytes_c hR (by rw [← hlen]; omega)) rfl rfl ?_
    rintro _ w3 ⟨A3, c3, rfl, e3, hown⟩
    repeat' (first | apply Jbq | apply Jbr | apply Jbu | (apply Jcg; exact Jab rfl; exact rfl))
    exact TR_of (res1 rfl rfl) ⟨A3, c3, rfl, E2.ext e3, hown.wide (by omega) (Nat.le_refl _) (Nat.le_refl _)⟩
end Go.Proofs.YtggaghghclomkaaGreat
