/- Contracts of the small helpers, for numbers. -/
import Derived.Test.YtggaghghclomkaaGreatLib
namespace Go.Proofs.YtggaghghclomkaaGreat
open Go.RowKit
attribute [local irreducible] TL TC TN TX TR TQ Pu Ret

def i64s (s : List Int) : List Value := s.map I
@[simp] theorem i64s_length (s : List Int) : (i64s s).length = s.length := by simp [i64s]
theorem i64s_oneI (s : List Int) : ∀ u ∈ i64s s, u.oneCell' = true := by
  intro u hu
  simp only [i64s, List.mem_map] at hu
  obtain ⟨b, _, rfl⟩ := hu
  rfl
theorem i64s_get (s : List Int) {k : Nat} (h : k < s.length) : (i64s s).getD k undef = I (s.getD k 0) := by
  simp [i64s, List.getD_eq_getElem?_getD, List.getElem?_eq_getElem h]

theorem toIntS_c {A : Option Addr} {c lo hi : Nat} {s : List Int} {w : World} (hr : Rd w lo hi 1 A s.length (i64s s)) (hl : s.length ≤ 1099511627776) :
    Ret Tryz.prog 14 #[.slice A s.length c] w fun v w' => ∃ A' c', v = .slice A' s.length c' ∧ Ext w w' ∧ Own w' w.heap.size w'.heap.size 3 1 A' s.length c' (i64s s) := by
  refine Ret_enter Tryz.func14 rfl rfl rfl ?_
  repeat' (first | apply Jbq | apply Jbr | apply Jbs | apply Jbt | (apply Jcg; (first | exact Jaa rfl | exact Jab rfl | exact Jac Us.h rfl); exact rfl))
  refine TL_make Us.h Inf.h rfl rfl (by omega) (by omega) (by omega) rfl ?_
  intro w1 g e1 hg hz1 hown
  repeat' (first | apply Jbq | apply Jbr | apply Jbs | apply Jbt | apply Jby | (apply Jcg; exact Jab rfl; exact rfl))
  have hmk : (madeCells (Value.cells (.int .i64 0)) ((s.length : Int).toNat * 1)).toList = fillTo (i64s s) 0 (.int .i64 0) := by
    rw [fillTo_zero, Nat.mul_one, i64s_length]; exact toList_madeCells_one _ _
  rw [hmk] at hown
  refine TC_loop (ι := Nat) (fun k => [(0, .slice A s.length c), (3, .slice (some ⟨g, 0, none⟩) s.length s.length), (4, I k)])
    (fun k w' => k ≤ s.length ∧ Ext w w' ∧ Own w' g (g + 1) 3 1 (some ⟨g, 0, none⟩) s.length s.length (fillTo (i64s s) k (.int .i64 0))) (fun k => s.length - k) 0
    (subEnv_cons rfl (subEnv_cons rfl (subEnv_cons rfl (subEnv_nil _)))) ⟨Nat.zero_le _, e1, hown⟩ ?_
  intro k w2 ⟨hk, e2, hown2⟩
  repeat' (first | apply Jbq | apply Jbr | apply Jbs | apply Jbt | (apply Jcg; (first | exact Jaa rfl | exact Jac Us.h rfl | exact Jad rfl rfl); exact rfl))
  refine Jcz rfl (fun hlt => ?_) (fun hge => ?_)
  · have hlt : k < s.length := by simpa using hlt
    obtain ⟨ad, rfl, hc⟩ := (hr.ext e2).get hlt
    repeat' (first | apply Jbr | apply Jbs | apply Jbt | apply Jby | apply Jbz | (apply Jcg; (first | exact Jaa rfl | exact Jag Us.h Sz.h rfl rfl (by omega)); exact rfl))
    refine Jcg (Pu_load Fl.h rfl (fun _ e => by rw [e]; exact hc)) rfl ?_
    repeat' ((apply Jcg; exact Jag Us.h Sz.h rfl rfl (by omega); exact rfl))
    refine TL_storeOwn rfl (add0 g k) rfl Sz.h (by rw [i64s_get s hlt]; rfl) hown2 (by omega) ?_
    intro w3 e3 hz3 hown3
    rw [fillTo_set _ _ _ (by simpa using hlt)] at hown3
    repeat' (first | apply Jbq | apply Jbr | apply Jbt | apply Jbx | (apply Jcg; (first | exact Jaa rfl | exact Jab rfl | exact Jaf rfl rfl (by omega)); exact rfl))
    exact TN_round (k + 1) (subEnv_cons rfl (subEnv_cons rfl (subEnv_cons rfl (subEnv_nil _)))) ⟨hlt, e2.then_iv e3 (by omega), hown3⟩ (by omega)
  · have hge : k = s.length := by have : ¬ k < s.length := by simpa using hge
                                  omega
    repeat' (first | apply Jbq | apply Jbr | apply Jbs | apply Jbt | apply Jbu | apply Jca | apply Jcb | apply Jcc | (apply Jcg; (first | exact Jaa rfl | exact Jab rfl); exact rfl))
    have hsz := hown2.hi_le
    refine TR_of (res1 rfl rfl) ⟨_, _, rfl, e2, ?_⟩
    have hfa := fillTo_all (i64s s) (.int .i64 0)
    rw [i64s_length] at hfa
    rw [hge, hfa] at hown2
    exact hown2.wide (by omega) (by omega) (Nat.le_refl _)

theorem eqIntS_c {A A2 : Option Addr} {c c2 lo hi lo2 hi2 : Nat} {s t : List Int} {w : World} (hr : Rd w lo hi 1 A s.length (i64s s)) (hr2 : Rd w lo2 hi2 1 A2 t.length (i64s t)) (hl : s.length ≤ 1099511627776) (hl2 : t.length ≤ 1099511627776) :
    Ret Tryz.prog 17 #[.slice A s.length c, .slice A2 t.length c2] w fun v w' => v = .bool (decide (s = t)) ∧ Ext w w' := by
  refine Ret_enter Tryz.func17 rfl rfl rfl ?_
  repeat' (first | apply Jbq | apply Jbr | apply Jbs | apply Jbt | (apply Jcg; (first | exact Jaa rfl | exact Jab rfl | exact Jac Us.h rfl | exact Jal rfl rfl); exact rfl))
  refine Jcz rfl (fun hne => ?_) (fun heq => ?_)
  · have hne : s ≠ t := fun e => by subst e; simp at hne
    repeat' (first | apply Jbq | apply Jbr | apply Jbs | apply Jbt | apply Jbu | apply Jbv | (apply Jcg; exact Jab rfl; exact rfl))
    exact TR_of (res1 rfl rfl) ⟨by simp [hne], Ch.refl _ _⟩
  · have heq : s.length = t.length := by simp at heq; omega
    repeat' (first | apply Jbq | apply Jbr | apply Jbs | apply Jbt | apply Jby | apply Jbz | (apply Jcg; exact Jab rfl; exact rfl))
    refine TC_loop (ι := Nat) (fun k => [(0, .slice A s.length c), (1, .slice A2 t.length c2), (5, I k)]) (fun k w' => k ≤ s.length ∧ s.take k = t.take k ∧ Ext w w') (fun k => s.length - k) 0
      (subEnv_cons rfl (subEnv_cons rfl (subEnv_cons rfl (subEnv_nil _)))) ⟨Nat.zero_le _, rfl, Ch.refl _ _⟩ ?_
    intro k w2 ⟨hk, htk, e2⟩
    repeat' (first | apply Jbq | apply Jbr | apply Jbs | apply Jbt | (apply Jcg; (first | exact Jaa rfl | exact Jac Us.h rfl | exact Jad rfl rfl); exact rfl))
    refine Jcz rfl (fun hlt => ?_) (fun hge => ?_)
    · have hlt : k < s.length := by simpa using hlt
      have hlt2 : k < t.length := by omega
      obtain ⟨ad, rfl, hc⟩ := (hr.ext e2).get hlt
      obtain ⟨ad2, rfl, hc2⟩ := (hr2.ext e2).get hlt2
      rw [i64s_get s hlt] at hc
      rw [i64s_get t hlt2] at hc2
      repeat' (first | apply Jbr | apply Jbs | apply Jby | apply Jbz)
      refine TC_quietExt mixed (by kernel_rfl) ?_
      repeat' (first | (apply Jck; (first | exact Jaa rfl | exact Jag Us.h Sz.h rfl rfl (by omega) | exact Jal rfl rfl); exact rfl) | refine Jck (Pu_load Fl.h rfl (fun _ e => Ext.cell e hc)) rfl ?_ | refine Jck (Pu_load Fl.h rfl (fun _ e => Ext.cell e hc2)) rfl ?_)
      refine TQ_nil fun w3 e3 => ?_
      repeat' (apply Jbr)
      have e1 : s.take (k + 1) = s.take k ++ [s.getD k 0] := by rw [List.take_succ_eq_append_getElem hlt]; simp [List.getD_eq_getElem?_getD, List.getElem?_eq_getElem hlt]
      have e1' : t.take (k + 1) = t.take k ++ [t.getD k 0] := by rw [List.take_succ_eq_append_getElem hlt2]; simp [List.getD_eq_getElem?_getD, List.getElem?_eq_getElem hlt2]
      refine Jcz rfl (fun hne => ?_) (fun heqk => ?_)
      · have hne : s ≠ t := fun e => by subst e; simp at hne
        repeat' (first | apply Jbq | apply Jbr | apply Jbs | apply Jbt | apply Jbu | apply Jbv | apply Jbw | (apply Jcg; exact Jab rfl; exact rfl))
        exact TR_of (res1 rfl rfl) ⟨by simp [hne], e2.ext e3⟩
      · have hq : s.getD k 0 = t.getD k 0 := by
          simpa using heqk
        repeat' (first | apply Jbq | apply Jbr | apply Jbt | apply Jbx | apply Jbz | (apply Jcg; (first | exact Jaa rfl | exact Jab rfl | exact Jaf rfl rfl (by omega)); exact rfl))
        exact TN_round (k + 1) (subEnv_cons rfl (subEnv_cons rfl (subEnv_cons rfl (subEnv_nil _)))) ⟨hlt, by rw [e1, e1', htk, hq], e2.ext e3⟩ (by omega)
    · have hge : k = s.length := by have : ¬ k < s.length := by simpa using hge
                                    omega
      repeat' (first | apply Jbq | apply Jbr | apply Jbs | apply Jbt | apply Jbu | apply Jca | apply Jcb | apply Jcc | (apply Jcg; exact Jab rfl; exact rfl))
      refine TR_of (res1 rfl rfl) ⟨?_, e2⟩
      rw [hge, List.take_length, heq, List.take_length] at htk
      simp [htk]

/-- The marks of bytes: k, k + 1, .. -/
def mkI (k : Int) (n : Nat) : List Int := (List.range n).map fun (i : Nat) => k + (i : Int)
@[simp] theorem mkI_length (k : Int) (n : Nat) : (mkI k n).length = n := by simp [mkI]
theorem mkI_get (k : Int) (n i : Nat) (h : i < n) : (mkI k n).getD i 0 = k + i := by
  simp [mkI, List.getD_eq_getElem?_getD, h]
theorem markIntS_c {A : Option Addr} {n c lo hi : Nat} {xs : List Value} {k : Int} {w : World} (ho : Own w lo hi 3 1 A n c xs) (hl : n ≤ 1099511627776) (hk0 : 0 ≤ k) (hk1 : k ≤ 1099511627776) :
    Ret Tryz.prog 19 #[.slice A n c, I k] w fun v w' => v = I (k + n) ∧ Ch (Iv lo hi) w w' ∧ w'.heap.size = w.heap.size ∧ Own w' lo hi 3 1 A n c (i64s (mkI k n)) := by
  have hlen := ho.len
  rw [Nat.mul_one] at hlen
  refine Ret_enter Tryz.func19 rfl rfl rfl ?_
  repeat' (first | apply Jbq | apply Jbr | apply Jbs | apply Jbt | apply Jby | (apply Jcg; exact Jab rfl; exact rfl))
  refine TC_loop (ι := Nat) (fun i => [(0, .slice A n c), (1, I (k + i)), (5, I i)])
    (fun i w' => i ≤ n ∧ Ch (Iv lo hi) w w' ∧ w'.heap.size = w.heap.size ∧ Own w' lo hi 3 1 A n c (overTo (i64s (mkI k n)) xs i)) (fun i => n - i) 0
    (subEnv_cons rfl (subEnv_cons (by rw [Int.ofNat_zero, Int.add_zero]; rfl) (subEnv_cons rfl (subEnv_nil _)))) ⟨Nat.zero_le _, Ch.refl _ _, rfl, by rw [overTo_zero]; exact ho⟩ ?_
  intro i w2 ⟨hi2, e2, hz2, ho2⟩
  repeat' (first | apply Jbq | apply Jbr | apply Jbs | apply Jbt | (apply Jcg; (first | exact Jaa rfl | exact Jac Us.h rfl | exact Jad rfl rfl); exact rfl))
  refine Jcz rfl (fun hlt => ?_) (fun hge => ?_)
  · have hlt : i < n := by simpa using hlt
    rcases ho2.head with rfl | ⟨g, rfl, hg1, hg2⟩
    · obtain ⟨ad, h, _⟩ := ho2.rd.get hlt
      cases h
    · repeat' (first | apply Jbr | apply Jbs | apply Jbt | apply Jby | apply Jbz | (apply Jcg; (first | exact Jaa rfl | exact Jag Us.h Sz.h rfl rfl (by omega)); exact rfl))
      refine TL_storeOwn rfl (add0 g i) rfl Sz.h rfl ho2 (by omega) ?_
      intro w3 e3 hz3 ho3
      have hv : I ((k + i)) = (i64s (mkI k n)).getD i undef := by rw [i64s_get _ (by simpa using hlt), mkI_get k n i hlt]
      rw [hv, overTo_set _ _ _ (by omega) (by simp; omega)] at ho3
      repeat' (first | apply Jbq | apply Jbr | apply Jbt | apply Jbx | (apply Jcg; (first | exact Jaa rfl | exact Jab rfl | exact Jaf rfl rfl (by omega)); exact rfl))
      exact TN_round (i + 1) (subEnv_cons rfl (subEnv_cons (by rw [show ((i + 1 : Nat) : Int) = (i : Int) + 1 from rfl, ← Int.add_assoc]; rfl) (subEnv_cons rfl (subEnv_nil _))))
        ⟨hlt, e2.then (e3.mono (fun q hq => by simp only [Iv] at *; omega)), by omega, ho3⟩ (by omega)
  · have hge : i = n := by have : ¬ i < n := by simpa using hge
                           omega
    repeat' (first | apply Jbq | apply Jbr | apply Jbs | apply Jbt | apply Jbu | apply Jca | apply Jcb | apply Jcc | (apply Jcg; (first | exact Jaa rfl | exact Jab rfl); exact rfl))
    refine TR_of (res1 rfl rfl) ⟨by rw [hge], e2, hz2, ?_⟩
    have := overTo_all (i64s (mkI k n)) xs (by simp; omega)
    rw [hlen] at this
    rw [hge, this] at ho2
    exact ho2
end Go.Proofs.YtggaghghclomkaaGreat
