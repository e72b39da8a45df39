/- Contracts of the laws' own helpers on entries. -/
import Derived.Test.YtmkmphdfpghjbaaPure
import Derived.Test.YtmkmphdfpghjbaaArg
namespace Go.Proofs.Ytmkmphdfpghjbaa
open Go.RowKit
attribute [local irreducible] TL TC TN TX TR TQ Pu Ret

theorem szEntry_c (d : Int × List UInt8) (left : Int) (w : World) (h0 : -1 ≤ left) (h1 : left ≤ 1048576) (hl : d.2.length ≤ 9223372036854775807) :
    Ret Try.prog 127 #[.agg (entC d).toArray, I left] w fun v w' => v = I (if left - d.2.length < 0 then -1 else left - d.2.length) ∧ Ext w w' := by
  refine Ret_enter Try.func127 rfl rfl rfl ?_
  repeat' (first | apply Jbq | apply Jbr | apply Jbs | apply Jbt | apply Jbu | apply Jbv | apply Jbw | apply Jbx | apply Jby | apply Jbz | apply Jca | apply Jcb | apply Jcc | (refine Jcd rfl ?_) | (refine Jce rfl ?_) | (refine Jcf rfl ?_) | (apply Jcg; (first | exact Jaa rfl | exact Jab rfl | exact Jac Us.h rfl | exact Jad rfl rfl | exact Jap rfl rfl (by omega) | exact Jaq Us.h rfl | (apply Jbl; exact Us.h; exact rfl; exact Sz.h; exact rfl)); exact rfl) | refine Jch rfl rfl rfl ?_ | refine Jci rfl rfl rfl rfl rfl ?_ | refine Jcj rfl rfl rfl rfl ?_)
  refine TL_box (cs := entC d) rfl rfl ?_
  intro w1 g e1 hg hz hbk
  clear hg hz
  repeat' (first | apply Jbq | apply Jbr | apply Jbs | apply Jbt | apply Jbu | apply Jbv | apply Jbw | apply Jbx | apply Jby | apply Jbz | apply Jca | apply Jcb | apply Jcc | (refine Jcd rfl ?_) | (refine Jce rfl ?_) | (refine Jcf rfl ?_) | (apply Jcg; (first | exact Jaa rfl | exact Jab rfl | exact Jac Us.h rfl | exact Jad rfl rfl | exact Jap rfl rfl (by omega) | exact Jaq Us.h rfl | (apply Jbl; exact Us.h; exact rfl; exact Sz.h; exact rfl)); exact rfl) | refine Jch rfl rfl rfl ?_ | refine Jci rfl rfl rfl rfl rfl ?_ | refine Jcj rfl rfl rfl rfl ?_ | refine Jcg (Pu_load Fl.h rfl (fun _ e => by rw [e]; exact hbk.ld rfl)) rfl ?_)
  refine Jcz rfl (fun hb => ?_) (fun hb => ?_)
  · repeat' (first | apply Jbq | apply Jbr | apply Jbs | apply Jbt | apply Jbu | apply Jbv | apply Jbw | apply Jbx | apply Jby | apply Jbz | apply Jca | apply Jcb | apply Jcc | (refine Jcd rfl ?_) | (refine Jce rfl ?_) | (refine Jcf rfl ?_) | (apply Jcg; (first | exact Jaa rfl | exact Jab rfl | exact Jac Us.h rfl | exact Jad rfl rfl | exact Jap rfl rfl (by omega) | exact Jaq Us.h rfl | (apply Jbl; exact Us.h; exact rfl; exact Sz.h; exact rfl)); exact rfl) | refine Jch rfl rfl rfl ?_ | refine Jci rfl rfl rfl rfl rfl ?_ | refine Jcj rfl rfl rfl rfl ?_)
    exact TR_of (res1 rfl rfl) ⟨by rw [if_pos (by simpa using hb)], e1⟩
  · repeat' (first | apply Jbq | apply Jbr | apply Jbs | apply Jbt | apply Jbu | apply Jbv | apply Jbw | apply Jbx | apply Jby | apply Jbz | apply Jca | apply Jcb | apply Jcc | (refine Jcd rfl ?_) | (refine Jce rfl ?_) | (refine Jcf rfl ?_) | (apply Jcg; (first | exact Jaa rfl | exact Jab rfl | exact Jac Us.h rfl | exact Jad rfl rfl | exact Jap rfl rfl (by omega) | exact Jaq Us.h rfl | (apply Jbl; exact Us.h; exact rfl; exact Sz.h; exact rfl)); exact rfl) | refine Jch rfl rfl rfl ?_ | refine Jci rfl rfl rfl rfl rfl ?_ | refine Jcj rfl rfl rfl rfl ?_)
    exact TR_of (res1 rfl rfl) ⟨by rw [if_neg (by simpa using hb)], e1⟩
theorem toEntry_c (d : Int × List UInt8) (w : World) : Ret Try.prog 130 #[.agg (entC d).toArray] w fun v w' => v = .agg (entC d).toArray ∧ Ext w w' := by
  refine Ret_enter Try.func130 rfl rfl rfl ?_
  repeat' (first | apply Jbq | apply Jbr | apply Jbs | apply Jbt | apply Jbu | apply Jbv | apply Jbw | apply Jbx | apply Jby | apply Jbz | apply Jca | apply Jcb | apply Jcc | (refine Jcd rfl ?_) | (refine Jce rfl ?_) | (refine Jcf rfl ?_) | (apply Jcg; (first | exact Jaa rfl | exact Jab rfl | exact Jac Us.h rfl | exact Jad rfl rfl | exact Jap rfl rfl (by omega) | exact Jaq Us.h rfl | (apply Jbl; exact Us.h; exact rfl; exact Sz.h; exact rfl)); exact rfl) | refine Jch rfl rfl rfl ?_ | refine Jci rfl rfl rfl rfl rfl ?_ | refine Jcj rfl rfl rfl rfl ?_)
  refine TL_box (cs := entC d) rfl rfl ?_
  intro w1 g1 e1 hg1 hz1 hb1
  repeat' (first | apply Jbq | apply Jbr | apply Jbs | apply Jbt | apply Jbu | apply Jbv | apply Jbw | apply Jbx | apply Jby | apply Jbz | apply Jca | apply Jcb | apply Jcc | (refine Jcd rfl ?_) | (refine Jce rfl ?_) | (refine Jcf rfl ?_) | (apply Jcg; (first | exact Jaa rfl | exact Jab rfl | exact Jac Us.h rfl | exact Jad rfl rfl | exact Jap rfl rfl (by omega) | exact Jaq Us.h rfl | (apply Jbl; exact Us.h; exact rfl; exact Sz.h; exact rfl)); exact rfl) | refine Jch rfl rfl rfl ?_ | refine Jci rfl rfl rfl rfl rfl ?_ | refine Jcj rfl rfl rfl rfl ?_)
  refine TL_alloc Zs.h rfl rfl ?_
  intro w2 g2 e2 hg2 hz2 hb2
  have hb1 := hb1.ext e2
  repeat' (first | apply Jbq | apply Jbr | apply Jbs | apply Jbt | apply Jbu | apply Jbv | apply Jbw | apply Jbx | apply Jby | apply Jbz | apply Jca | apply Jcb | apply Jcc | (refine Jcd rfl ?_) | (refine Jce rfl ?_) | (refine Jcf rfl ?_) | (apply Jcg; (first | exact Jaa rfl | exact Jab rfl | exact Jac Us.h rfl | exact Jad rfl rfl | exact Jap rfl rfl (by omega) | exact Jaq Us.h rfl | (apply Jbl; exact Us.h; exact rfl; exact Sz.h; exact rfl)); exact rfl) | refine Jch rfl rfl rfl ?_ | refine Jci rfl rfl rfl rfl rfl ?_ | refine Jcj rfl rfl rfl rfl ?_)
  refine TL_alloc Zs.h rfl rfl ?_
  intro w3 g3 e3 hg3 hz3 hb3
  have hb1 := hb1.ext e3
  have hb2 := hb2.ext e3
  have E3 : Ext w w3 := (e1.ext e2).ext e3
  repeat' (first | apply Jbq | apply Jbr | apply Jbs | apply Jbt | apply Jbu | apply Jbv | apply Jbw | apply Jbx | apply Jby | apply Jbz | apply Jca | apply Jcb | apply Jcc | (refine Jcd rfl ?_) | (refine Jce rfl ?_) | (refine Jcf rfl ?_) | (apply Jcg; (first | exact Jaa rfl | exact Jab rfl | exact Jac Us.h rfl | exact Jad rfl rfl | exact Jap rfl rfl (by omega) | exact Jaq Us.h rfl | (apply Jbl; exact Us.h; exact rfl; exact Sz.h; exact rfl)); exact rfl) | refine Jch rfl rfl rfl ?_ | refine Jci rfl rfl rfl rfl rfl ?_ | refine Jcj rfl rfl rfl rfl ?_ | refine Jcg (Pu_load Fl.h rfl (fun _ e => by rw [e]; exact hb1.ld rfl)) rfl ?_)
  refine TL_store rfl rfl Sz.h rfl hb3 rfl ?_
  intro w4 c4 hz4 hb4
  have hb1 := hb1.ch c4 (by simp only [Iv]; omega)
  have hb2 := hb2.ch c4 (by simp only [Iv]; omega)
  have E4 : Ext w w4 := E3.then_iv c4 (by omega)
  repeat' (first | apply Jbq | apply Jbr | apply Jbs | apply Jbt | apply Jbu | apply Jbv | apply Jbw | apply Jbx | apply Jby | apply Jbz | apply Jca | apply Jcb | apply Jcc | (refine Jcd rfl ?_) | (refine Jce rfl ?_) | (refine Jcf rfl ?_) | (apply Jcg; (first | exact Jaa rfl | exact Jab rfl | exact Jac Us.h rfl | exact Jad rfl rfl | exact Jap rfl rfl (by omega) | exact Jaq Us.h rfl | (apply Jbl; exact Us.h; exact rfl; exact Sz.h; exact rfl)); exact rfl) | refine Jch rfl rfl rfl ?_ | refine Jci rfl rfl rfl rfl rfl ?_ | refine Jcj rfl rfl rfl rfl ?_ | refine Jcg (Pu_load Fl.h rfl (fun _ e => by rw [e]; exact hb1.ld rfl)) rfl ?_)
  refine TL_store rfl rfl Sz.h rfl hb4 rfl ?_
  intro w5 c5 hz5 hb5
  have hb2 := hb2.ch c5 (by simp only [Iv]; omega)
  have E5 : Ext w w5 := E4.then_iv c5 (by omega)
  repeat' (first | apply Jbq | apply Jbr | apply Jbs | apply Jbt | apply Jbu | apply Jbv | apply Jbw | apply Jbx | apply Jby | apply Jbz | apply Jca | apply Jcb | apply Jcc | (refine Jcd rfl ?_) | (refine Jce rfl ?_) | (refine Jcf rfl ?_) | (apply Jcg; (first | exact Jaa rfl | exact Jab rfl | exact Jac Us.h rfl | exact Jad rfl rfl | exact Jap rfl rfl (by omega) | exact Jaq Us.h rfl | (apply Jbl; exact Us.h; exact rfl; exact Sz.h; exact rfl)); exact rfl) | refine Jch rfl rfl rfl ?_ | refine Jci rfl rfl rfl rfl rfl ?_ | refine Jcj rfl rfl rfl rfl ?_)
  refine Jcg (Pu_loadAgg (cs := entC d) Us.h rfl Sz.h rfl (fun _ e j u hu => by rw [e, add0, hb5.cell]; exact hu)) rfl ?_
  repeat' (first | apply Jbq | apply Jbr | apply Jbs | apply Jbt | apply Jbu | apply Jbv | apply Jbw | apply Jbx | apply Jby | apply Jbz | apply Jca | apply Jcb | apply Jcc | (refine Jcd rfl ?_) | (refine Jce rfl ?_) | (refine Jcf rfl ?_) | (apply Jcg; (first | exact Jaa rfl | exact Jab rfl | exact Jac Us.h rfl | exact Jad rfl rfl | exact Jap rfl rfl (by omega) | exact Jaq Us.h rfl | (apply Jbl; exact Us.h; exact rfl; exact Sz.h; exact rfl)); exact rfl) | refine Jch rfl rfl rfl ?_ | refine Jci rfl rfl rfl rfl rfl ?_ | refine Jcj rfl rfl rfl rfl ?_)
  refine TL_storeAgg rfl rfl Sz.h rfl hb2 rfl ?_
  intro w6 c6 hz6 hb6
  repeat' (first | apply Jbq | apply Jbr | apply Jbs | apply Jbt | apply Jbu | apply Jbv | apply Jbw | apply Jbx | apply Jby | apply Jbz | apply Jca | apply Jcb | apply Jcc | (refine Jcd rfl ?_) | (refine Jce rfl ?_) | (refine Jcf rfl ?_) | (apply Jcg; (first | exact Jaa rfl | exact Jab rfl | exact Jac Us.h rfl | exact Jad rfl rfl | exact Jap rfl rfl (by omega) | exact Jaq Us.h rfl | (apply Jbl; exact Us.h; exact rfl; exact Sz.h; exact rfl)); exact rfl) | refine Jch rfl rfl rfl ?_ | refine Jci rfl rfl rfl rfl rfl ?_ | refine Jcj rfl rfl rfl rfl ?_)
  exact TR_of (resA rfl rfl hb6 Us.h rfl Sz.h) ⟨rfl, E5.then_iv c6 (by omega)⟩
end Go.Proofs.Ytmkmphdfpghjbaa
