/- Contracts of the small helpers. -/
import Derived.Test.YtggaghghclomkaaGreatTy
namespace Go.Proofs.YtggaghghclomkaaGreat
open Go.RowKit
attribute [local irreducible] TL TC TN TX TR TQ Pu Ret

theorem u8s_get (s : List UInt8) {k : Nat} (h : k < s.length) : (u8s s).getD k undef = B8 (s.getD k 0) := by
  simp [u8s, List.getD_eq_getElem?_getD, List.getElem?_eq_getElem h]

theorem copyBytes_c {A : Option Addr} {c lo hi : Nat} {s : List UInt8} {w : World} (hr : Rd w lo hi 1 A s.length (u8s s)) (hl : s.length ≤ 1099511627776) :
    Ret Tryz.prog 71 #[.slice A s.length c] w fun v w' => ∃ A' c', v = .slice A' s.length c' ∧ Ext w w' ∧ Own w' w.heap.size w'.heap.size 5 1 A' s.length c' (u8s s) := by
  refine Ret_enter Tryz.func71 rfl rfl rfl ?_
  repeat' (first | apply Jbq | apply Jbr | apply Jbs | apply Jbt | (apply Jcg; (first | exact Jaa rfl | exact Jab rfl); exact rfl))
  refine TL_append Us.h Inf.h rfl rfl rfl rfl (Own.nil w w.heap.size w.heap.size 5 1 (Nat.le_refl _)) hr (u8s_one s) (Nat.le_refl _) (by omega) (by omega) rfl ?_
  intro w1 hi1 A1 c1 hch h1 h2 h3 hown
  have hz := hch.size
  repeat' (first | apply Jbq | apply Jbr | apply Jbu | (apply Jcg; exact Jab rfl; exact rfl))
  refine TR_of (res1 rfl rfl) ⟨A1, c1, by rw [Nat.zero_add], hch.mono (fun k hk => by simp only [Iv] at hk; omega), ?_⟩
  rw [Nat.zero_add, List.nil_append] at hown
  exact hown.wide (Nat.le_refl _) (by omega) (Nat.le_refl _)

theorem toByteS_c {A : Option Addr} {c lo hi : Nat} {s : List UInt8} {w : World} (hr : Rd w lo hi 1 A s.length (u8s s)) (hl : s.length ≤ 1099511627776) :
    Ret Tryz.prog 91 #[.slice A s.length c] w fun v w' => ∃ A' c', v = .slice A' s.length c' ∧ Ext w w' ∧ Own w' w.heap.size w'.heap.size 5 1 A' s.length c' (u8s s) := by
  refine Ret_enter Tryz.func91 rfl rfl rfl ?_
  repeat' (first | apply Jbq | apply Jbr | apply Jbs | apply Jbt | (apply Jcg; (first | exact Jaa rfl | exact Jab rfl | exact Jac Us.h rfl); exact rfl))
  refine TL_make Us.h Inf.h rfl rfl (by omega) (by omega) (by omega) rfl ?_
  intro w1 g e1 hg hz1 hown
  repeat' (first | apply Jbq | apply Jbr | apply Jbs | apply Jbt | apply Jby | (apply Jcg; exact Jab rfl; exact rfl))
  have hmk : (madeCells (Value.cells (.int .u8 0)) ((s.length : Int).toNat * 1)).toList = fillTo (u8s s) 0 (.int .u8 0) := by
    rw [fillTo_zero, Nat.mul_one, u8s_length]; exact toList_madeCells_one _ _
  rw [hmk] at hown
  refine TC_loop (ι := Nat) (fun k => [(0, .slice A s.length c), (3, .slice (some ⟨g, 0, none⟩) s.length s.length), (4, I k)])
    (fun k w' => k ≤ s.length ∧ Ext w w' ∧ Own w' g (g + 1) 5 1 (some ⟨g, 0, none⟩) s.length s.length (fillTo (u8s s) k (.int .u8 0))) (fun k => s.length - k) 0
    (subEnv_cons rfl (subEnv_cons rfl (subEnv_cons rfl (subEnv_nil _)))) ⟨Nat.zero_le _, e1, hown⟩ ?_
  intro k w2 ⟨hk, e2, hown2⟩
  repeat' (first | apply Jbq | apply Jbr | apply Jbs | apply Jbt | (apply Jcg; (first | exact Jaa rfl | exact Jac Us.h rfl | exact Jad rfl rfl); exact rfl))
  refine Jcz rfl (fun hlt => ?_) (fun hge => ?_)
  · have hlt : k < s.length := by simpa using hlt
    obtain ⟨ad, rfl, hc⟩ := (hr.ext e2).get hlt
    repeat' (first | apply Jbr | apply Jbs | apply Jbt | apply Jby | apply Jbz | (apply Jcg; (first | exact Jaa rfl | exact Jag Us.h Sz.h rfl rfl (by omega)); exact rfl))
    refine Jcg (Pu_load Fl.h rfl (fun _ e => by rw [e]; exact hc)) rfl ?_
    repeat' ((apply Jcg; exact Jag Us.h Sz.h rfl rfl (by omega); exact rfl))
    refine TL_storeOwn rfl (add0 g k) rfl Sz.h (by rw [u8s_get s hlt]; rfl) hown2 (by omega) ?_
    intro w3 e3 hz3 hown3
    rw [fillTo_set _ _ _ (by simpa using hlt)] at hown3
    repeat' (first | apply Jbq | apply Jbr | apply Jbt | apply Jbx | (apply Jcg; (first | exact Jaa rfl | exact Jab rfl | exact Jaf rfl rfl (by omega)); exact rfl))
    exact TN_round (k + 1) (subEnv_cons rfl (subEnv_cons rfl (subEnv_cons rfl (subEnv_nil _)))) ⟨hlt, e2.then_iv e3 (by omega), hown3⟩ (by omega)
  · have hge : k = s.length := by have : ¬ k < s.length := by simpa using hge
                                  omega
    repeat' (first | apply Jbq | apply Jbr | apply Jbs | apply Jbt | apply Jbu | apply Jca | apply Jcb | apply Jcc | (apply Jcg; (first | exact Jaa rfl | exact Jab rfl); exact rfl))
    have hsz := hown2.hi_le
    refine TR_of (res1 rfl rfl) ⟨_, _, rfl, e2, ?_⟩
    have hfa := fillTo_all (u8s s) (.int .u8 0)
    rw [u8s_length] at hfa
    rw [hge, hfa] at hown2
    exact hown2.wide (by omega) (by omega) (Nat.le_refl _)

theorem eqByteS_c {A A2 : Option Addr} {c c2 lo hi lo2 hi2 : Nat} {s t : List UInt8} {w : World} (hr : Rd w lo hi 1 A s.length (u8s s)) (hr2 : Rd w lo2 hi2 1 A2 t.length (u8s t)) (hl : s.length ≤ 1099511627776) (hl2 : t.length ≤ 1099511627776) :
    Ret Tryz.prog 96 #[.slice A s.length c, .slice A2 t.length c2] w fun v w' => v = .bool (decide (s = t)) ∧ Ext w w' := by
  refine Ret_enter Tryz.func96 rfl rfl rfl ?_
  repeat' (first | apply Jbq | apply Jbr | apply Jbs | apply Jbt | (apply Jcg; (first | exact Jaa rfl | exact Jab rfl | exact Jac Us.h rfl | exact Jal rfl rfl); exact rfl))
  refine Jcz rfl (fun hne => ?_) (fun heq => ?_)
  · have hne : s ≠ t := fun e => by subst e; simp at hne
    repeat' (first | apply Jbq | apply Jbr | apply Jbs | apply Jbt | apply Jbu | apply Jbv | (apply Jcg; exact Jab rfl; exact rfl))
    exact TR_of (res1 rfl rfl) ⟨by simp [hne], Ch.refl _ _⟩
  · have heq : s.length = t.length := by simp at heq; omega
    repeat' (first | apply Jbq | apply Jbr | apply Jbs | apply Jbt | apply Jby | apply Jbz | (apply Jcg; exact Jab rfl; exact rfl))
    refine TC_loop (ι := Nat) (fun k => [(0, .slice A s.length c), (1, .slice A2 t.length c2), (5, I k)]) (fun k w' => k ≤ s.length ∧ s.take k = t.take k ∧ Ext w w') (fun k => s.length - k) 0
      (subEnv_cons rfl (subEnv_cons rfl (subEnv_cons rfl (subEnv_nil _)))) ⟨Nat.zero_le _, rfl, Ch.refl _ _⟩ ?_
    intro k w2 ⟨hk, htk, e2⟩
    repeat' (first | apply Jbq | apply Jbr | apply Jbs | apply Jbt | (apply Jcg; (first | exact Jaa rfl | exact Jac Us.h rfl | exact Jad rfl rfl); exact rfl))
    refine Jcz rfl (fun hlt => ?_) (fun hge => ?_)
    · have hlt : k < s.length := by simpa using hlt
      have hlt2 : k < t.length := by omega
      obtain ⟨ad, rfl, hc⟩ := (hr.ext e2).get hlt
      obtain ⟨ad2, rfl, hc2⟩ := (hr2.ext e2).get hlt2
      rw [u8s_get s hlt] at hc
      rw [u8s_get t hlt2] at hc2
      repeat' (first | apply Jbr | apply Jbs | apply Jby | apply Jbz)
      refine TC_quietExt mixed (by kernel_rfl) ?_
      repeat' (first | (apply Jck; (first | exact Jaa rfl | exact Jag Us.h Sz.h rfl rfl (by omega) | exact Jal rfl rfl); exact rfl) | refine Jck (Pu_load Fl.h rfl (fun _ e => Ext.cell e hc)) rfl ?_ | refine Jck (Pu_load Fl.h rfl (fun _ e => Ext.cell e hc2)) rfl ?_)
      refine TQ_nil fun w3 e3 => ?_
      repeat' (apply Jbr)
      have e1 : s.take (k + 1) = s.take k ++ [s.getD k 0] := by rw [List.take_succ_eq_append_getElem hlt]; simp [List.getD_eq_getElem?_getD, List.getElem?_eq_getElem hlt]
      have e1' : t.take (k + 1) = t.take k ++ [t.getD k 0] := by rw [List.take_succ_eq_append_getElem hlt2]; simp [List.getD_eq_getElem?_getD, List.getElem?_eq_getElem hlt2]
      refine Jcz rfl (fun hne => ?_) (fun heqk => ?_)
      · have hne : s ≠ t := fun e => by subst e; simp at hne
        repeat' (first | apply Jbq | apply Jbr | apply Jbs | apply Jbt | apply Jbu | apply Jbv | apply Jbw | (apply Jcg; exact Jab rfl; exact rfl))
        exact TR_of (res1 rfl rfl) ⟨by simp [hne], e2.ext e3⟩
      · have hq : s.getD k 0 = t.getD k 0 := by
          have : ((s.getD k 0).toNat : Int) = ((t.getD k 0).toNat : Int) := by simpa using heqk
          exact UInt8.toNat_inj.1 (by omega)
        repeat' (first | apply Jbq | apply Jbr | apply Jbt | apply Jbx | apply Jbz | (apply Jcg; (first | exact Jaa rfl | exact Jab rfl | exact Jaf rfl rfl (by omega)); exact rfl))
        exact TN_round (k + 1) (subEnv_cons rfl (subEnv_cons rfl (subEnv_cons rfl (subEnv_nil _)))) ⟨hlt, by rw [e1, e1', htk, hq], e2.ext e3⟩ (by omega)
    · have hge : k = s.length := by have : ¬ k < s.length := by simpa using hge
                                    omega
      repeat' (first | apply Jbq | apply Jbr | apply Jbs | apply Jbt | apply Jbu | apply Jca | apply Jcb | apply Jcc | (apply Jcg; exact Jab rfl; exact rfl))
      refine TR_of (res1 rfl rfl) ⟨?_, e2⟩
      rw [hge, List.take_length, heq, List.take_length] at htk
      simp [htk]

/-- The marks of bytes: k, k + 1, .. -/
def mk8 (k : Int) (n : Nat) : List UInt8 := (List.range n).map fun (i : Nat) => UInt8.ofNat ((k + (i : Int)) % 256).toNat
@[simp] theorem mk8_length (k : Int) (n : Nat) : (mk8 k n).length = n := by simp [mk8]
theorem mk8_get (k : Int) (n i : Nat) (h : i < n) : (mk8 k n).getD i 0 = UInt8.ofNat ((k + i) % 256).toNat := by
  simp [mk8, List.getD_eq_getElem?_getD, h]
theorem markByteS_c {A : Option Addr} {n c lo hi : Nat} {xs : List Value} {k : Int} {w : World} (ho : Own w lo hi 5 1 A n c xs) (hl : n ≤ 1099511627776) (hk0 : 0 ≤ k) (hk1 : k ≤ 1099511627776) :
    Ret Tryz.prog 97 #[.slice A n c, I k] w fun v w' => v = I (k + n) ∧ Ch (Iv lo hi) w w' ∧ w'.heap.size = w.heap.size ∧ Own w' lo hi 5 1 A n c (u8s (mk8 k n)) := by
  have hlen := ho.len
  rw [Nat.mul_one] at hlen
  refine Ret_enter Tryz.func97 rfl rfl rfl ?_
  repeat' (first | apply Jbq | apply Jbr | apply Jbs | apply Jbt | apply Jby | (apply Jcg; exact Jab rfl; exact rfl))
  refine TC_loop (ι := Nat) (fun i => [(0, .slice A n c), (1, I (k + i)), (5, I i)])
    (fun i w' => i ≤ n ∧ Ch (Iv lo hi) w w' ∧ w'.heap.size = w.heap.size ∧ Own w' lo hi 5 1 A n c (overTo (u8s (mk8 k n)) xs i)) (fun i => n - i) 0
    (subEnv_cons rfl (subEnv_cons (by rw [Int.ofNat_zero, Int.add_zero]; rfl) (subEnv_cons rfl (subEnv_nil _)))) ⟨Nat.zero_le _, Ch.refl _ _, rfl, by rw [overTo_zero]; exact ho⟩ ?_
  intro i w2 ⟨hi2, e2, hz2, ho2⟩
  repeat' (first | apply Jbq | apply Jbr | apply Jbs | apply Jbt | (apply Jcg; (first | exact Jaa rfl | exact Jac Us.h rfl | exact Jad rfl rfl); exact rfl))
  refine Jcz rfl (fun hlt => ?_) (fun hge => ?_)
  · have hlt : i < n := by simpa using hlt
    rcases ho2.head with rfl | ⟨g, rfl, hg1, hg2⟩
    · obtain ⟨ad, h, _⟩ := ho2.rd.get hlt
      cases h
    · repeat' (first | apply Jbr | apply Jbs | apply Jbt | apply Jby | apply Jbz | (apply Jcg; (first | exact Jaa rfl | exact Jag Us.h Sz.h rfl rfl (by omega) | exact Jaw Us.h Us.h rfl); exact rfl))
      refine TL_storeOwn rfl (add0 g i) rfl Sz.h rfl ho2 (by omega) ?_
      intro w3 e3 hz3 ho3
      have hv : B8 (UInt8.ofNat ((k + i) % 256).toNat) = (u8s (mk8 k n)).getD i undef := by rw [u8s_get _ (by simpa using hlt), mk8_get k n i hlt]
      rw [hv, overTo_set _ _ _ (by omega) (by simp; omega)] at ho3
      repeat' (first | apply Jbq | apply Jbr | apply Jbt | apply Jbx | (apply Jcg; (first | exact Jaa rfl | exact Jab rfl | exact Jaf rfl rfl (by omega)); exact rfl))
      exact TN_round (i + 1) (subEnv_cons rfl (subEnv_cons (by rw [show ((i + 1 : Nat) : Int) = (i : Int) + 1 from rfl, ← Int.add_assoc]; rfl) (subEnv_cons rfl (subEnv_nil _))))
        ⟨hlt, e2.then (e3.mono (fun q hq => by simp only [Iv] at *; omega)), by omega, ho3⟩ (by omega)
  · have hge : i = n := by have : ¬ i < n := by simpa using hge
                           omega
    repeat' (first | apply Jbq | apply Jbr | apply Jbs | apply Jbt | apply Jbu | apply Jca | apply Jcb | apply Jcc | (apply Jcg; (first | exact Jaa rfl | exact Jab rfl); exact rfl))
    refine TR_of (res1 rfl rfl) ⟨by rw [hge], e2, hz2, ?_⟩
    have := overTo_all (u8s (mk8 k n)) xs (by simp; omega)
    rw [hlen] at this
    rw [hge, this] at ho2
    exact ho2
theorem heldByteS_c {A : Option Addr} {n c lo hi : Nat} {k : Int} {w : World} (hr : Rd w lo hi 1 A n (u8s (mk8 k n))) (hl : n ≤ 1099511627776) (hk0 : 0 ≤ k) (hk1 : k ≤ 1099511627776) :
    Ret Tryz.prog 150 #[.slice A n c, I k] w fun v w' => v = I (k + n) ∧ Ext w w' := by
  refine Ret_enter Tryz.func150 rfl rfl rfl ?_
  repeat' (first | apply Jbq | apply Jbr | apply Jbs | apply Jbt | apply Jby | (apply Jcg; exact Jab rfl; exact rfl))
  refine TC_loop (ι := Nat) (fun i => [(0, .slice A n c), (1, I (k + i)), (5, I i)]) (fun i w' => i ≤ n ∧ Ext w w') (fun i => n - i) 0
    (subEnv_cons rfl (subEnv_cons (by rw [Int.ofNat_zero, Int.add_zero]; rfl) (subEnv_cons rfl (subEnv_nil _)))) ⟨Nat.zero_le _, Ch.refl _ _⟩ ?_
  intro i w2 ⟨hi2, e2⟩
  repeat' (first | apply Jbq | apply Jbr | apply Jbs | apply Jbt | (apply Jcg; (first | exact Jaa rfl | exact Jac Us.h rfl | exact Jad rfl rfl); exact rfl))
  refine Jcz rfl (fun hlt => ?_) (fun hge => ?_)
  · have hlt : i < n := by simpa using hlt
    obtain ⟨ad, rfl, hc⟩ := (hr.ext e2).get hlt
    rw [u8s_get _ (by simpa using hlt), mk8_get k n i hlt] at hc
    repeat' (first | apply Jbq | apply Jbr | apply Jbs | apply Jbt | apply Jby | apply Jbz | (apply Jcg; (first | exact Jaa rfl | exact Jag Us.h Sz.h rfl rfl (by omega) | exact Jal rfl rfl | exact Jaw Us.h Us.h rfl); exact rfl) | refine Jcg (Pu_load Fl.h rfl (fun _ e => by rw [e]; exact hc)) rfl ?_)
    refine Jcz rfl (fun hne => ?_) (fun heq => ?_)
    · simp at hne
    · repeat' (first | apply Jbq | apply Jbr | apply Jbt | apply Jbx | apply Jbz | (apply Jcg; (first | exact Jaa rfl | exact Jab rfl | exact Jaf rfl rfl (by omega)); exact rfl))
      exact TN_round (i + 1) (subEnv_cons rfl (subEnv_cons (by rw [show ((i + 1 : Nat) : Int) = (i : Int) + 1 from rfl, ← Int.add_assoc]; rfl) (subEnv_cons rfl (subEnv_nil _)))) ⟨hlt, e2⟩ (by omega)
  · have hge : i = n := by have : ¬ i < n := by simpa using hge
                           omega
    repeat' (first | apply Jbq | apply Jbr | apply Jbs | apply Jbt | apply Jbu | apply Jca | apply Jcb | apply Jcc | (apply Jcg; (first | exact Jaa rfl | exact Jab rfl); exact rfl))
    exact TR_of (res1 rfl rfl) ⟨by rw [hge], e2⟩
end Go.Proofs.YtggaghghclomkaaGreat
