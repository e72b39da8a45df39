/- Contracts: a record's bytes. -/
import Derived.Test.YtmkmphdfpghjbaaFrameL
import Derived.Test.YtmkmphdfpghjbaaCrc
import Derived.Test.YtmkmphdfpghjbaaAppS
namespace Go.Proofs.Ytmkmphdfpghjbaa
open Go.RowKit
attribute [local irreducible] TL TC TN TX TR TQ TA Pu Ret

theorem entC_of (e : Int × List UInt8) : [I e.1, S e.2] = [I e.1, S e.2] := rfl
theorem pFrame_no {e : Int × List UInt8} (h : pEntry e.1 e.2 = false) : pFrame e = ([], false) := by unfold pFrame; rw [if_neg (by simp [h])]
theorem pFrame_yes {e : Int × List UInt8} (h : pEntry e.1 e.2 = true) : pFrame e = (frame e, true) := by unfold pFrame; rw [if_pos h]
set_option maxHeartbeats 2000000 in
theorem implFrameBytes_c (e : Int × List UInt8) (w : World) :
    Ret Try.prog 132 #[.agg #[I e.1, S e.2]] w fun v w' => ∃ v', v = .tuple #[v', .bool (pFrame e).2] ∧ Ext w w' ∧ OB w' w.heap.size w'.heap.size v' (pFrame e).1 := by
  obtain ⟨num, text⟩ := e
  refine Ret_enter Try.func132 rfl rfl rfl ?_
  repeat' (first | apply Jbq | apply Jbr | apply Jbs | apply Jbt | apply Jbu | apply Jbv | apply Jbw | apply Jbx | apply Jby | apply Jbz | apply Jca | apply Jcb | apply Jcc | (refine Jcd rfl ?_) | (refine Jce rfl ?_) | (refine Jcf rfl ?_) | (apply Jcg; (first | exact Jaa rfl | exact Jab rfl | exact Jac Us.h rfl | exact Jae rfl rfl | exact Jaj rfl | exact Jaq Us.h rfl | (apply Jbl; exact Us.h; exact rfl; exact Sz.h; exact rfl)); exact rfl) | refine Jch rfl rfl rfl ?_ | refine Jci rfl rfl rfl rfl rfl ?_ | refine Jcj rfl rfl rfl rfl ?_)
  refine TL_box (cs := [I num, S text]) rfl rfl ?_
  intro w1 g E hg hz1 hbk
  have hgw : g < w1.heap.size := by omega
  clear hz1
  repeat' (first | apply Jbq | apply Jbr | apply Jbs | apply Jbt | apply Jbu | apply Jbv | apply Jbw | apply Jbx | apply Jby | apply Jbz | apply Jca | apply Jcb | apply Jcc | (refine Jcd rfl ?_) | (refine Jce rfl ?_) | (refine Jcf rfl ?_) | (apply Jcg; (first | exact Jaa rfl | exact Jab rfl | exact Jac Us.h rfl | exact Jae rfl rfl | exact Jaj rfl | exact Jaq Us.h rfl | (apply Jbl; exact Us.h; exact rfl; exact Sz.h; exact rfl)); exact rfl) | refine Jch rfl rfl rfl ?_ | refine Jci rfl rfl rfl rfl rfl ?_ | refine Jcj rfl rfl rfl rfl ?_ | refine Jcg (Pu_loadAgg (cs := [I num, S text]) Us.h rfl Sz.h rfl (fun _ e j u hu => by rw [e, add0, hbk.cell]; exact hu)) rfl ?_)
  refine TL_call rfl en131 (implEntryOk_c num text _) rfl rfl ?_
  rintro _ w2 ⟨rfl, e2⟩
  replace hbk := hbk.ext e2
  replace E := E.ext e2
  cases hp : pEntry num text
  · rw [pFrame_no hp]
    repeat' (first | apply Jbq | apply Jbr | apply Jbs | apply Jbt | apply Jbu | apply Jbv | apply Jbw | apply Jbx | apply Jby | apply Jbz | apply Jca | apply Jcb | apply Jcc | (refine Jcd rfl ?_) | (refine Jce rfl ?_) | (refine Jcf rfl ?_) | (apply Jcg; (first | exact Jaa rfl | exact Jab rfl | exact Jac Us.h rfl | exact Jae rfl rfl | exact Jaj rfl | exact Jaq Us.h rfl | (apply Jbl; exact Us.h; exact rfl; exact Sz.h; exact rfl)); exact rfl) | refine Jch rfl rfl rfl ?_ | refine Jci rfl rfl rfl rfl rfl ?_ | refine Jcj rfl rfl rfl rfl ?_)
    exact TR_of (res2 rfl rfl rfl) ⟨_, rfl, E, OB.nil _ _ E.size⟩
  · have hb := (pEntry_iff (e := (num, text))).1 hp
    simp only at hb
    rw [pFrame_yes hp]
    have hs2 := e2.size
    repeat' (first | apply Jbq | apply Jbr | apply Jbs | apply Jbt | apply Jbu | apply Jbv | apply Jbw | apply Jbx | apply Jby | apply Jbz | apply Jca | apply Jcb | apply Jcc | (refine Jcd rfl ?_) | (refine Jce rfl ?_) | (refine Jcf rfl ?_) | (apply Jcg; (first | exact Jaa rfl | exact Jab rfl | exact Jac Us.h rfl | exact Jae rfl rfl | exact Jaj rfl | exact Jaq Us.h rfl | (apply Jbl; exact Us.h; exact rfl; exact Sz.h; exact rfl)); exact rfl) | refine Jch rfl rfl rfl ?_ | refine Jci rfl rfl rfl rfl rfl ?_ | refine Jcj rfl rfl rfl rfl ?_)
    refine TC_any mixed rfl ?_
    intro w3 hE hz3
    (refine Jco 0 rfl (by kernel_rfl) (by kernel_rfl) (by kernel_rfl) (fun _ _ _ h => h) hE (by (first | exact Pu_load Fl.h rfl (fun _ e => Ext.cell e (hbk.ld rfl)) | (first | exact Jaa rfl | exact Jab rfl | exact Jac Us.h rfl | exact Jae rfl rfl | exact Jaj rfl | exact Jaq Us.h rfl | (apply Jbl; exact Us.h; exact rfl; exact Sz.h; exact rfl)))) rfl ?_; refine Jco 1 rfl (by kernel_rfl) (by kernel_rfl) (by kernel_rfl) (fun _ _ _ h => h) hE (by (first | exact Pu_load Fl.h rfl (fun _ e => Ext.cell e (hbk.ld rfl)) | (first | exact Jaa rfl | exact Jab rfl | exact Jac Us.h rfl | exact Jae rfl rfl | exact Jaj rfl | exact Jaq Us.h rfl | (apply Jbl; exact Us.h; exact rfl; exact Sz.h; exact rfl)))) rfl ?_; refine Jco 2 rfl (by kernel_rfl) (by kernel_rfl) (by kernel_rfl) (fun _ _ _ h => h) hE (by (first | exact Pu_load Fl.h rfl (fun _ e => Ext.cell e (hbk.ld rfl)) | (first | exact Jaa rfl | exact Jab rfl | exact Jac Us.h rfl | exact Jae rfl rfl | exact Jaj rfl | exact Jaq Us.h rfl | (apply Jbl; exact Us.h; exact rfl; exact Sz.h; exact rfl)))) rfl ?_; refine Jco 4 rfl (by kernel_rfl) (by kernel_rfl) (by kernel_rfl) (fun _ _ _ h => h) hE (by (first | exact Pu_load Fl.h rfl (fun _ e => Ext.cell e (hbk.ld rfl)) | (first | exact Jaa rfl | exact Jab rfl | exact Jac Us.h rfl | exact Jae rfl rfl | exact Jaj rfl | exact Jaq Us.h rfl | (apply Jbl; exact Us.h; exact rfl; exact Sz.h; exact rfl)))) rfl ?_; refine Jco 5 rfl (by kernel_rfl) (by kernel_rfl) (by kernel_rfl) (fun _ _ _ h => h) hE (by (first | exact Pu_load Fl.h rfl (fun _ e => Ext.cell e (hbk.ld rfl)) | (first | exact Jaa rfl | exact Jab rfl | exact Jac Us.h rfl | exact Jae rfl rfl | exact Jaj rfl | exact Jaq Us.h rfl | (apply Jbl; exact Us.h; exact rfl; exact Sz.h; exact rfl)))) rfl ?_)
    refine TA_one 3 (by kernel_rfl) rfl ?_
    refine TL_call rfl en148 (putNum_c (lo := w3.heap.size) (k := 2) (OB.nil w3 _ (Nat.le_refl _)) (Nat.le_refl _) (by simp) (by omega)) rfl rfl ?_
    intro v4 w4 ⟨c4, ho4⟩
    have hE4 : Ext w2 w4 := Ext.then_iv hE c4 hE.size
    refine Jbq (TN_any hE4 ?_)
    refine TA_one 6 (by kernel_rfl) rfl ?_
    refine TL_call rfl en148 (putNum_c (lo := w3.heap.size) (k := 4) ho4 c4.size (by simp) (by omega)) rfl rfl ?_
    intro v5 w5 ⟨c5, ho5⟩
    have hE5 : Ext w2 w5 := Ext.then_iv hE4 c5 hE.size
    refine Jbq (TN_any hE5 ?_)
    have hs3 := hE.size
    clear hE
    have hE := hE5
    (refine Jco 7 rfl (by kernel_rfl) (by kernel_rfl) (by kernel_rfl) (fun _ _ _ h => h) hE (by (first | exact Jaa rfl | exact Jab rfl | exact Jac Us.h rfl | exact Jae rfl rfl | exact Jaj rfl | exact Jaq Us.h rfl | (apply Jbl; exact Us.h; exact rfl; exact Sz.h; exact rfl))) rfl ?_)
    refine TA_done (by kernel_rfl) ?_
    have hhead : ([] ++ putR (text.length : Int) 2 ++ putR num 4) = headF (num, text) := by simp [headF]
    rw [hhead] at ho5
    have hs5 := hE5.size
    have hs4 := c4.size
    have hs45 := c5.size
    replace hbk := hbk.ext hE5
    replace E := E.ext hE5
    clear c4 c5 ho4 hE hE4 hE5
    repeat' (first | apply Jbq | apply Jbr | apply Jbs | apply Jbt | apply Jbu | apply Jbv | apply Jbw | apply Jbx | apply Jby | apply Jbz | apply Jca | apply Jcb | apply Jcc | (refine Jcd rfl ?_) | (refine Jce rfl ?_) | (refine Jcf rfl ?_) | (apply Jcg; (first | exact Jaa rfl | exact Jab rfl | exact Jac Us.h rfl | exact Jae rfl rfl | exact Jaj rfl | exact Jaq Us.h rfl | (apply Jbl; exact Us.h; exact rfl; exact Sz.h; exact rfl)); exact rfl) | refine Jch rfl rfl rfl ?_ | refine Jci rfl rfl rfl rfl rfl ?_ | refine Jcj rfl rfl rfl rfl ?_)
    refine TC_any mixed rfl ?_
    intro w6 hE hz6
    (refine Jco 0 rfl (by kernel_rfl) (by kernel_rfl) (by kernel_rfl) (fun _ _ _ h => h) hE (by (first | exact Pu_load Fl.h rfl (fun _ e => Ext.cell e (hbk.ld rfl)) | (first | exact Jaa rfl | exact Jab rfl | exact Jac Us.h rfl | exact Jae rfl rfl | exact Jaj rfl | exact Jaq Us.h rfl | (apply Jbl; exact Us.h; exact rfl; exact Sz.h; exact rfl)))) rfl ?_; refine Jco 2 rfl (by kernel_rfl) (by kernel_rfl) (by kernel_rfl) (fun _ _ _ h => h) hE (by (first | exact Pu_load Fl.h rfl (fun _ e => Ext.cell e (hbk.ld rfl)) | (first | exact Jaa rfl | exact Jab rfl | exact Jac Us.h rfl | exact Jae rfl rfl | exact Jaj rfl | exact Jaq Us.h rfl | (apply Jbl; exact Us.h; exact rfl; exact Sz.h; exact rfl)))) rfl ?_; refine Jco 3 rfl (by kernel_rfl) (by kernel_rfl) (by kernel_rfl) (fun _ _ _ h => h) hE (by (first | exact Pu_load Fl.h rfl (fun _ e => Ext.cell e (hbk.ld rfl)) | (first | exact Jaa rfl | exact Jab rfl | exact Jac Us.h rfl | exact Jae rfl rfl | exact Jaj rfl | exact Jaq Us.h rfl | (apply Jbl; exact Us.h; exact rfl; exact Sz.h; exact rfl)))) rfl ?_)
    refine TA_one 1 (by kernel_rfl) rfl ?_
    obtain ⟨A5, k5, hv5, hr5⟩ : ∃ A c, v5 = .slice A (headF (num, text)).length c ∧ Rd w5 w3.heap.size w5.heap.size 1 A (headF (num, text)).length (u8s (headF (num, text))) := by obtain ⟨A, c, h, _, hr⟩ := ho5.rd; exact ⟨A, c, h, hr⟩
    have hhl := headF_length (num, text)
    rw [hv5]
    refine TL_call rfl en79 (copyBytes_c (hr5.ext hE) (by omega)) rfl rfl ?_
    rintro _ w7 ⟨A7, k7, rfl, e7, ho7⟩
    have hE7 := hE.ext e7
    refine Jbq (TN_any hE7 ?_)
    refine TA_one 4 (by kernel_rfl) rfl ?_
    refine TL_appendS Us.h Us.h rfl rfl ⟨_, _, rfl, ho7⟩ e7.size (by omega) rfl ?_
    intro w8 v8 c8 ho8
    have hE8 : Ext w5 w8 := Ext.then_iv hE7 c8 hE.size
    refine Jbq (TN_any hE8 ?_)
    refine TA_one 5 (by kernel_rfl) rfl ?_
    refine TL_call rfl en149 (implCrc32_k ho8.rd (by simp only [List.length_append]; omega)) rfl rfl ?_
    rintro _ w9 ⟨rfl, e9⟩
    have hE9 := hE8.ext e9
    refine Jbq (TN_any hE9 ?_)
    clear hE
    have hE := hE9
    (refine Jco 6 rfl (by kernel_rfl) (by kernel_rfl) (by kernel_rfl) (fun _ _ _ h => h) hE (by (first | exact Jaa rfl | exact Jab rfl | exact Jac Us.h rfl | exact Jae rfl rfl | exact Jaj rfl | exact Jaq Us.h rfl | (apply Jbl; exact Us.h; exact rfl; exact Sz.h; exact rfl))) rfl ?_)
    refine TA_done (by kernel_rfl) ?_
    replace ho5 := ho5.ext hE9
    replace hbk := hbk.ext hE9
    replace E := E.ext hE9
    have hs9 := hE9.size
    rw [← hv5]
    clear hE hE7 hE8 hE9 ho7 ho8 c8 e7 e9 hr5 hv5
    repeat' (first | apply Jbq | apply Jbr | apply Jbs | apply Jbt | apply Jbu | apply Jbv | apply Jbw | apply Jbx | apply Jby | apply Jbz | apply Jca | apply Jcb | apply Jcc | (refine Jcd rfl ?_) | (refine Jce rfl ?_) | (refine Jcf rfl ?_) | (apply Jcg; (first | exact Jaa rfl | exact Jab rfl | exact Jac Us.h rfl | exact Jae rfl rfl | exact Jaj rfl | exact Jaq Us.h rfl | (apply Jbl; exact Us.h; exact rfl; exact Sz.h; exact rfl)); exact rfl) | refine Jch rfl rfl rfl ?_ | refine Jci rfl rfl rfl rfl rfl ?_ | refine Jcj rfl rfl rfl rfl ?_)
    refine TC_anyS (Ch (Iv w3.heap.size w9.heap.size) w9) mixed rfl (Ch.refl _ _).drew ?_
    intro w10 hE0 hz10 hE
    have hld : ∀ w', Ch (Iv w3.heap.size w9.heap.size) w9 w' → w'.cell? ((⟨g, 0, none⟩ : Addr).add 1) = some (S text) := fun w' k => (hbk.ch k (by simp only [Iv]; omega)).ld rfl
    (refine Jco 0 rfl (by kernel_rfl) (by kernel_rfl) (by kernel_rfl) (fun _ _ _ h => h) hE (by (first | exact Pu_load Fl.h rfl hld | (first | exact Jaa rfl | exact Jab rfl | exact Jac Us.h rfl | exact Jae rfl rfl | exact Jaj rfl | exact Jaq Us.h rfl | (apply Jbl; exact Us.h; exact rfl; exact Sz.h; exact rfl)))) rfl ?_; refine Jco 1 rfl (by kernel_rfl) (by kernel_rfl) (by kernel_rfl) (fun _ _ _ h => h) hE (by (first | exact Pu_load Fl.h rfl hld | (first | exact Jaa rfl | exact Jab rfl | exact Jac Us.h rfl | exact Jae rfl rfl | exact Jaj rfl | exact Jaq Us.h rfl | (apply Jbl; exact Us.h; exact rfl; exact Sz.h; exact rfl)))) rfl ?_; refine Jco 3 rfl (by kernel_rfl) (by kernel_rfl) (by kernel_rfl) (fun _ _ _ h => h) hE (by (first | exact Pu_load Fl.h rfl hld | (first | exact Jaa rfl | exact Jab rfl | exact Jac Us.h rfl | exact Jae rfl rfl | exact Jaj rfl | exact Jaq Us.h rfl | (apply Jbl; exact Us.h; exact rfl; exact Sz.h; exact rfl)))) rfl ?_; refine Jco 4 rfl (by kernel_rfl) (by kernel_rfl) (by kernel_rfl) (fun _ _ _ h => h) hE (by (first | exact Pu_load Fl.h rfl hld | (first | exact Jaa rfl | exact Jab rfl | exact Jac Us.h rfl | exact Jae rfl rfl | exact Jaj rfl | exact Jaq Us.h rfl | (apply Jbl; exact Us.h; exact rfl; exact Sz.h; exact rfl)))) rfl ?_)
    refine TA_one 2 (by kernel_rfl) rfl ?_
    obtain ⟨A9, k9, hv9, ho9⟩ := ho5.ext hE0
    refine TL_call rfl en148 (putNum_c (lo := w3.heap.size) (k := 4) ⟨A9, k9, hv9, ho9.wide (Nat.le_refl _) (by omega) (Nat.le_refl _)⟩ (by omega) (by omega) (by omega)) rfl rfl ?_
    intro v11 w11 ⟨c11, ho11⟩
    have hE11 : Ch (Iv w3.heap.size w9.heap.size) w9 w11 := hE.trans c11 (fun _ _ t => t) (fun i hi t => ⟨t.1, hi⟩)
    refine Jbq (TN_any hE11 ?_)
    refine TA_one 5 (by kernel_rfl) rfl ?_
    have hs11 := hE11.size
    refine TL_appendS Us.h Us.h rfl rfl ho11 (by omega) (by simp only [List.length_append, putR_length]; omega) rfl ?_
    intro w12 v12 c12 ho12
    have hE12 : Ch (Iv w3.heap.size w9.heap.size) w9 w12 := hE11.trans c12 (fun _ _ t => t) (fun i hi t => ⟨t.1, hi⟩)
    refine Jbq (TN_any hE12 ?_)
    clear hE hE11
    have hE := hE12
    (refine Jco 6 rfl (by kernel_rfl) (by kernel_rfl) (by kernel_rfl) (fun _ _ _ h => h) hE (by (first | exact Jaa rfl | exact Jab rfl | exact Jac Us.h rfl | exact Jae rfl rfl | exact Jaj rfl | exact Jaq Us.h rfl | (apply Jbl; exact Us.h; exact rfl; exact Sz.h; exact rfl))) rfl ?_; refine Jco 7 rfl (by kernel_rfl) (by kernel_rfl) (by kernel_rfl) (fun _ _ _ h => h) hE (by (first | exact Jaa rfl | exact Jab rfl | exact Jac Us.h rfl | exact Jae rfl rfl | exact Jaj rfl | exact Jaq Us.h rfl | (apply Jbl; exact Us.h; exact rfl; exact Sz.h; exact rfl))) rfl ?_)
    refine TA_done (by kernel_rfl) ?_
    repeat' (first | apply Jbq | apply Jbr | apply Jbs | apply Jbt | apply Jbu | apply Jbv | apply Jbw | apply Jbx | apply Jby | apply Jbz | apply Jca | apply Jcb | apply Jcc | (refine Jcd rfl ?_) | (refine Jce rfl ?_) | (refine Jcf rfl ?_) | (apply Jcg; (first | exact Jaa rfl | exact Jab rfl | exact Jac Us.h rfl | exact Jae rfl rfl | exact Jaj rfl | exact Jaq Us.h rfl | (apply Jbl; exact Us.h; exact rfl; exact Sz.h; exact rfl)); exact rfl) | refine Jch rfl rfl rfl ?_ | refine Jci rfl rfl rfl rfl rfl ?_ | refine Jcj rfl rfl rfl rfl ?_)
    obtain ⟨A, c, hv, hown⟩ := ho12
    exact TR_of (res2 rfl rfl rfl) ⟨_, rfl, Ext.then_iv E hE12 (by omega), A, c, hv, hown.wide (by omega) (Nat.le_refl _) (Nat.le_refl _)⟩
theorem pPut_in {b : List UInt8} {n size : Int} (h : 1 ≤ size ∧ size ≤ 4 ∧ 0 ≤ n ∧ n < 256 ^ size.toNat ∧ (b.length : Int) + size ≤ 65536) : (pPut b n size).1 = b ++ putR n size.toNat := by rw [pPut_yes h]
theorem RB.nil (w : World) : RB w 0 0 (.slice none 0 0) [] := ⟨none, 0, rfl, Nat.le_refl _, by simp [u8s], Nat.zero_le _, fun h => by simp at h⟩
set_option maxHeartbeats 2000000 in
theorem specFrameBytes_c (e : Int × List UInt8) (w : World) :
    Ret Try.prog 129 #[.agg #[I e.1, S e.2]] w fun v w' => ∃ v', v = .tuple #[v', .bool (pFrame e).2] ∧ Ext w w' ∧ OB w' w.heap.size w'.heap.size v' (pFrame e).1 := by
  obtain ⟨num, text⟩ := e
  refine Ret_enter Try.func129 rfl rfl rfl ?_
  repeat' (first | apply Jbq | apply Jbr | apply Jbs | apply Jbt | apply Jbu | apply Jbv | apply Jbw | apply Jbx | apply Jby | apply Jbz | apply Jca | apply Jcb | apply Jcc | (refine Jcd rfl ?_) | (refine Jce rfl ?_) | (refine Jcf rfl ?_) | (apply Jcg; (first | exact Jaa rfl | exact Jab rfl | exact Jac Us.h rfl | exact Jae rfl rfl | exact Jaj rfl | exact Jaq Us.h rfl | (apply Jbl; exact Us.h; exact rfl; exact Sz.h; exact rfl)); exact rfl) | refine Jch rfl rfl rfl ?_ | refine Jci rfl rfl rfl rfl rfl ?_ | refine Jcj rfl rfl rfl rfl ?_)
  refine TL_box (cs := [I num, S text]) rfl rfl ?_
  intro w1 g E hg hz1 hbk
  have hgw : g < w1.heap.size := by omega
  clear hz1
  repeat' (first | apply Jbq | apply Jbr | apply Jbs | apply Jbt | apply Jbu | apply Jbv | apply Jbw | apply Jbx | apply Jby | apply Jbz | apply Jca | apply Jcb | apply Jcc | (refine Jcd rfl ?_) | (refine Jce rfl ?_) | (refine Jcf rfl ?_) | (apply Jcg; (first | exact Jaa rfl | exact Jab rfl | exact Jac Us.h rfl | exact Jae rfl rfl | exact Jaj rfl | exact Jaq Us.h rfl | (apply Jbl; exact Us.h; exact rfl; exact Sz.h; exact rfl)); exact rfl) | refine Jch rfl rfl rfl ?_ | refine Jci rfl rfl rfl rfl rfl ?_ | refine Jcj rfl rfl rfl rfl ?_ | refine Jcg (Pu_loadAgg (cs := [I num, S text]) Us.h rfl Sz.h rfl (fun _ e j u hu => by rw [e, add0, hbk.cell]; exact hu)) rfl ?_)
  refine TL_call rfl en128 (specEntryOk_c num text _) rfl rfl ?_
  rintro _ w2 ⟨rfl, e2⟩
  replace hbk := hbk.ext e2
  replace E := E.ext e2
  cases hp : pEntry num text
  · rw [pFrame_no hp]
    repeat' (first | apply Jbq | apply Jbr | apply Jbs | apply Jbt | apply Jbu | apply Jbv | apply Jbw | apply Jbx | apply Jby | apply Jbz | apply Jca | apply Jcb | apply Jcc | (refine Jcd rfl ?_) | (refine Jce rfl ?_) | (refine Jcf rfl ?_) | (apply Jcg; (first | exact Jaa rfl | exact Jab rfl | exact Jac Us.h rfl | exact Jae rfl rfl | exact Jaj rfl | exact Jaq Us.h rfl | (apply Jbl; exact Us.h; exact rfl; exact Sz.h; exact rfl)); exact rfl) | refine Jch rfl rfl rfl ?_ | refine Jci rfl rfl rfl rfl rfl ?_ | refine Jcj rfl rfl rfl rfl ?_)
    exact TR_of (res2 rfl rfl rfl) ⟨_, rfl, E, OB.nil _ _ E.size⟩
  · have hb := (pEntry_iff (e := (num, text))).1 hp
    simp only at hb
    rw [pFrame_yes hp]
    have hs2 := e2.size
    clear e2
    repeat' (first | apply Jbq | apply Jbr | apply Jbs | apply Jbt | apply Jbu | apply Jbv | apply Jbw | apply Jbx | apply Jby | apply Jbz | apply Jca | apply Jcb | apply Jcc | (refine Jcd rfl ?_) | (refine Jce rfl ?_) | (refine Jcf rfl ?_) | (apply Jcg; (first | exact Jaa rfl | exact Jab rfl | exact Jac Us.h rfl | exact Jae rfl rfl | exact Jaj rfl | exact Jaq Us.h rfl | (apply Jbl; exact Us.h; exact rfl; exact Sz.h; exact rfl)); exact rfl) | refine Jch rfl rfl rfl ?_ | refine Jci rfl rfl rfl rfl rfl ?_ | refine Jcj rfl rfl rfl rfl ?_ | refine Jcg (Pu_load Fl.h rfl (fun _ e => by rw [e]; exact hbk.ld rfl)) rfl ?_)
    refine TL_call rfl en146 (specPutNum_k (RB.nil _) (by simp)) rfl rfl ?_
    rintro _ w3 ⟨v3, rfl, e3, ho3⟩
    rw [pPut_in (by simp; omega)] at ho3
    replace hbk := hbk.ext e3
    replace E := E.ext e3
    have hs3 := e3.size
    clear e3
    repeat' (first | apply Jbq | apply Jbr | apply Jbs | apply Jbt | apply Jbu | apply Jbv | apply Jbw | apply Jbx | apply Jby | apply Jbz | apply Jca | apply Jcb | apply Jcc | (refine Jcd rfl ?_) | (refine Jce rfl ?_) | (refine Jcf rfl ?_) | (apply Jcg; (first | exact Jaa rfl | exact Jab rfl | exact Jac Us.h rfl | exact Jae rfl rfl | exact Jaj rfl | exact Jaq Us.h rfl | (apply Jbl; exact Us.h; exact rfl; exact Sz.h; exact rfl)); exact rfl) | refine Jch rfl rfl rfl ?_ | refine Jci rfl rfl rfl rfl rfl ?_ | refine Jcj rfl rfl rfl rfl ?_ | refine Jcg (Pu_load Fl.h rfl (fun _ e => by rw [e]; exact hbk.ld rfl)) rfl ?_)
    refine TL_call rfl en146 (specPutNum_k ho3.rd (by simp)) rfl rfl ?_
    rintro _ w4 ⟨v4, rfl, e4, ho4⟩
    rw [pPut_in (by simp; omega), show [] ++ putR (text.length : Int) (2 : Int).toNat ++ putR num (4 : Int).toNat = headF (num, text) from by simp [headF]] at ho4
    replace hbk := hbk.ext e4
    replace E := E.ext e4
    have hs4 := e4.size
    clear e4 ho3
    have hhl := headF_length (num, text)
    repeat' (first | apply Jbq | apply Jbr | apply Jbs | apply Jbt | apply Jbu | apply Jbv | apply Jbw | apply Jbx | apply Jby | apply Jbz | apply Jca | apply Jcb | apply Jcc | (refine Jcd rfl ?_) | (refine Jce rfl ?_) | (refine Jcf rfl ?_) | (apply Jcg; (first | exact Jaa rfl | exact Jab rfl | exact Jac Us.h rfl | exact Jae rfl rfl | exact Jaj rfl | exact Jaq Us.h rfl | (apply Jbl; exact Us.h; exact rfl; exact Sz.h; exact rfl)); exact rfl) | refine Jch rfl rfl rfl ?_ | refine Jci rfl rfl rfl rfl rfl ?_ | refine Jcj rfl rfl rfl rfl ?_)
    refine TC_any mixed rfl ?_
    intro w5 hE hz5
    (refine Jco 1 rfl (by kernel_rfl) (by kernel_rfl) (by kernel_rfl) (fun _ _ _ h => h) hE (by (first | exact Pu_load Fl.h rfl (fun _ e => Ext.cell e (hbk.ld rfl)) | (first | exact Jaa rfl | exact Jab rfl | exact Jac Us.h rfl | exact Jae rfl rfl | exact Jaj rfl | exact Jaq Us.h rfl | (apply Jbl; exact Us.h; exact rfl; exact Sz.h; exact rfl)))) rfl ?_; refine Jco 3 rfl (by kernel_rfl) (by kernel_rfl) (by kernel_rfl) (fun _ _ _ h => h) hE (by (first | exact Pu_load Fl.h rfl (fun _ e => Ext.cell e (hbk.ld rfl)) | (first | exact Jaa rfl | exact Jab rfl | exact Jac Us.h rfl | exact Jae rfl rfl | exact Jaj rfl | exact Jaq Us.h rfl | (apply Jbl; exact Us.h; exact rfl; exact Sz.h; exact rfl)))) rfl ?_; refine Jco 4 rfl (by kernel_rfl) (by kernel_rfl) (by kernel_rfl) (fun _ _ _ h => h) hE (by (first | exact Pu_load Fl.h rfl (fun _ e => Ext.cell e (hbk.ld rfl)) | (first | exact Jaa rfl | exact Jab rfl | exact Jac Us.h rfl | exact Jae rfl rfl | exact Jaj rfl | exact Jaq Us.h rfl | (apply Jbl; exact Us.h; exact rfl; exact Sz.h; exact rfl)))) rfl ?_)
    refine TA_one 0 (by kernel_rfl) rfl ?_
    refine TL_buildSlice0 Us.h Sz.h rfl ?_
    intro w6 g6 e6 hg6 hz6 hown6
    have hE6 := hE.ext e6
    refine Jbq (TN_any hE6 ?_)
    refine TA_one 2 (by kernel_rfl) rfl ?_
    refine TL_appendB Us.h rfl rfl (OB_new (s := []) rfl hown6 hg6 hz6) (ho4.ext hE6).rd e6.size (by simp only [List.length_nil]; omega) rfl ?_
    intro w7 v7 c7 ho7
    have hE7 : Ext w4 w7 := Ext.then_iv hE6 c7 hE.size
    refine Jbq (TN_any hE7 ?_)
    refine TA_one 5 (by kernel_rfl) rfl ?_
    refine TL_appendS Us.h Us.h rfl rfl ho7 (by have := e6.size; have := c7.size; omega) (by simp only [List.nil_append]; omega) rfl ?_
    intro w8 v8 c8 ho8
    have hE8 : Ext w4 w8 := Ext.then_iv hE7 c8 hE.size
    refine Jbq (TN_any hE8 ?_)
    refine TA_one 6 (by kernel_rfl) rfl ?_
    refine TL_call rfl en147 (specCrc32_k ho8.rd (by simp only [List.nil_append, List.length_append]; omega)) rfl rfl ?_
    rintro _ w9 ⟨rfl, e9⟩
    have hE9 := hE8.ext e9
    refine Jbq (TN_any hE9 ?_)
    clear hE
    have hE := hE9
    (refine Jco 7 rfl (by kernel_rfl) (by kernel_rfl) (by kernel_rfl) (fun _ _ _ h => h) hE (by (first | exact Jaa rfl | exact Jab rfl | exact Jac Us.h rfl | exact Jae rfl rfl | exact Jaj rfl | exact Jaq Us.h rfl | (apply Jbl; exact Us.h; exact rfl; exact Sz.h; exact rfl))) rfl ?_)
    refine TA_done (by kernel_rfl) ?_
    rw [List.nil_append]
    have hcl := crc_lt (headF (num, text) ++ text)
    replace ho4 := ho4.ext hE9
    replace hbk := hbk.ext hE9
    replace E := E.ext hE9
    have hs9 := hE9.size
    clear hE hE6 hE7 hE8 hE9 ho7 ho8 c7 c8 e6 e9
    repeat' (first | apply Jbq | apply Jbr | apply Jbs | apply Jbt | apply Jbu | apply Jbv | apply Jbw | apply Jbx | apply Jby | apply Jbz | apply Jca | apply Jcb | apply Jcc | (refine Jcd rfl ?_) | (refine Jce rfl ?_) | (refine Jcf rfl ?_) | (apply Jcg; (first | exact Jaa rfl | exact Jab rfl | exact Jac Us.h rfl | exact Jae rfl rfl | exact Jaj rfl | exact Jaq Us.h rfl | (apply Jbl; exact Us.h; exact rfl; exact Sz.h; exact rfl)); exact rfl) | refine Jch rfl rfl rfl ?_ | refine Jci rfl rfl rfl rfl rfl ?_ | refine Jcj rfl rfl rfl rfl ?_)
    refine TL_call rfl en146 (specPutNum_k ho4.rd (by omega)) rfl rfl ?_
    rintro _ w10 ⟨v10, rfl, e10, ho10⟩
    rw [pPut_in (by simp; omega)] at ho10
    replace hbk := hbk.ext e10
    replace E := E.ext e10
    have hs10 := e10.size
    repeat' (first | apply Jbq | apply Jbr | apply Jbs | apply Jbt | apply Jbu | apply Jbv | apply Jbw | apply Jbx | apply Jby | apply Jbz | apply Jca | apply Jcb | apply Jcc | (refine Jcd rfl ?_) | (refine Jce rfl ?_) | (refine Jcf rfl ?_) | (apply Jcg; (first | exact Jaa rfl | exact Jab rfl | exact Jac Us.h rfl | exact Jae rfl rfl | exact Jaj rfl | exact Jaq Us.h rfl | (apply Jbl; exact Us.h; exact rfl; exact Sz.h; exact rfl)); exact rfl) | refine Jch rfl rfl rfl ?_ | refine Jci rfl rfl rfl rfl rfl ?_ | refine Jcj rfl rfl rfl rfl ?_ | refine Jcg (Pu_load Fl.h rfl (fun _ e => by rw [e]; exact hbk.ld rfl)) rfl ?_)
    refine TL_appendS Us.h Us.h rfl rfl ho10 (by omega) (by simp only [List.length_append, putR_length]; omega) rfl ?_
    intro w11 v11 c11 ho11
    repeat' (first | apply Jbq | apply Jbr | apply Jbs | apply Jbt | apply Jbu | apply Jbv | apply Jbw | apply Jbx | apply Jby | apply Jbz | apply Jca | apply Jcb | apply Jcc | (refine Jcd rfl ?_) | (refine Jce rfl ?_) | (refine Jcf rfl ?_) | (apply Jcg; (first | exact Jaa rfl | exact Jab rfl | exact Jac Us.h rfl | exact Jae rfl rfl | exact Jaj rfl | exact Jaq Us.h rfl | (apply Jbl; exact Us.h; exact rfl; exact Sz.h; exact rfl)); exact rfl) | refine Jch rfl rfl rfl ?_ | refine Jci rfl rfl rfl rfl rfl ?_ | refine Jcj rfl rfl rfl rfl ?_)
    obtain ⟨A, c, hv, hown⟩ := ho11
    exact TR_of (res2 rfl rfl rfl) ⟨_, rfl, Ext.then_iv E c11 (by omega), A, c, hv, hown.wide (by omega) (Nat.le_refl _) (Nat.le_refl _)⟩
end Go.Proofs.Ytmkmphdfpghjbaa
