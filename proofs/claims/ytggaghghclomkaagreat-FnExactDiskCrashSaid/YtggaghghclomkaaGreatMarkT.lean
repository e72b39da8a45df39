/- The marks of texts. No condition. -/
import Derived.Test.YtggaghghclomkaaGreatKind
import Derived.Test.YtggaghghclomkaaGreatAny
namespace Go.Proofs.YtggaghghclomkaaGreat
open Go.RowKit
attribute [local irreducible] TL TC TN TX TR TQ TA Pu Ret

/-- The marks of texts. -/
def mtD (k : Nat) (acc : List UInt8) : List UInt8 := if k = 0 then acc else mtD (k / 10) (pb (48 + (k : Int) % 10) :: acc)
termination_by k
theorem mtD_zero (acc : List UInt8) : mtD 0 acc = acc := by rw [mtD, if_pos rfl]
theorem mtD_step {k : Nat} (h : k ≠ 0) (acc : List UInt8) : mtD k acc = mtD (k / 10) (pb (48 + (k : Int) % 10) :: acc) := by rw [mtD, if_neg h]
def markT (k : Nat) : List UInt8 := 109 :: mtD k []
set_option maxHeartbeats 1000000 in
theorem markText_c (k : Nat) (w : World) (h0 : 0 < k) (h1 : k ≤ 1099511627776000) : Ret Tryz.prog 98 #[I k] w fun v w' => v = S (markT k) ∧ Ext w w' := by
  refine Ret_enter Tryz.func98 rfl rfl rfl ?_
  repeat' (first | apply Jbq | apply Jbr | apply Jbs | apply Jbt | (apply Jcg; (first | exact Jaa rfl | exact Jab rfl | exact Jan rfl rfl); exact rfl))
  refine Jcx rfl (fun hb => by exfalso; omega) (fun hb => ?_)
  repeat' (first | apply Jbq | apply Jbr | apply Jbs | apply Jbt | apply Jby | apply Jbz | (apply Jcg; exact Jab rfl; exact rfl))
  refine TC_loop (ι := Nat × List UInt8) (fun x => [(0, I x.1), (3, S x.2)]) (fun x w' => x.1 ≤ k ∧ mtD k [] = mtD x.1 x.2 ∧ x.2.length + x.1 ≤ k ∧ Ext w w') (fun x => x.1) (k, []) (subEnv_cons rfl (subEnv_cons rfl (subEnv_nil _))) ⟨Nat.le_refl _, rfl, by simp, Ch.refl _ _⟩ ?_
  rintro ⟨m, acc⟩ w2 ⟨hm, heq, hlen, e2⟩
  simp only at hm heq hlen
  repeat' (first | apply Jbq | apply Jbr | apply Jbs | apply Jbt | (apply Jcg; (first | exact Jaa rfl | exact Jam rfl rfl); exact rfl))
  refine Jcx rfl (fun hb => ?_) (fun hb => ?_)
  · repeat' (first | apply Jbr | apply Jbs | apply Jbt | apply Jby | apply Jbz | (apply Jcg; (first | exact Jaa rfl | exact Jaf rfl rfl (by omega) | exact Jaw Us.h Us.h rfl | exact Jbj rfl rfl (by omega)); exact rfl))
    refine TL_buildSlice Us.h Zi.h rfl rfl rfl rfl (fillu1 _) rfl rfl ?_
    intro w3 g e3 hg hz hown
    repeat' (first | apply Jbq | apply Jbr | apply Jbt | apply Jbx | (apply Jcg; (first | exact Jaa rfl | exact Jab rfl | exact Jbi rfl rfl (by omega)); exact rfl) | refine Jcg (Pu_string Us.h Us.h Us.h rfl (fun w' e => by rw [e]; exact ⟨_, _, hown.rd⟩)) rfl ?_ | refine Jcg (Pu_adds rfl rfl (by simp only [List.length_cons, List.length_nil]; omega)) rfl ?_)
    refine TN_round (m / 10, pb (48 + (m : Int) % 10) :: acc) (subEnv_cons rfl (subEnv_cons rfl (subEnv_nil _))) ⟨by omega, ?_, ?_, e2.ext e3⟩ (by simp only; omega)
    · rw [heq, mtD_step (by omega)]
    · simp only [List.length_cons]; omega
  · obtain rfl : m = 0 := by omega
    rw [mtD_zero] at heq
    repeat' (first | apply Jbq | apply Jbr | apply Jbs | apply Jbt | apply Jbu | apply Jca | apply Jcb | apply Jcc | (apply Jcg; (first | exact Jaa rfl | exact Jab rfl); exact rfl) | refine Jcg (Pu_adds (s1 := [109]) rfl rfl (by simp only [List.length_cons, List.length_nil]; omega)) rfl ?_)
    exact TR_of (res1 rfl rfl) ⟨by unfold markT; rw [heq]; rfl, e2⟩
end Go.Proofs.YtggaghghclomkaaGreat
