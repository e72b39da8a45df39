/- Contracts of the steps between two contents. -/
import Derived.Test.YtggaghghclomkaaGreatLib
namespace Go.Proofs.YtggaghghclomkaaGreat
open Go.RowKit
attribute [local irreducible] TL TC TN TX TR TQ Pu Ret

/-- How long a beginning is shared. -/
def share : List UInt8 → List UInt8 → Nat
  | a :: x, b :: y => if a = b then share x y + 1 else 0
  | _, _ => 0
theorem share_le : ∀ s t : List UInt8, share s t ≤ s.length ∧ share s t ≤ t.length
  | [], t => by simp [share]
  | a :: x, [] => by simp [share]
  | a :: x, b :: y => by
    have := share_le x y
    simp only [share, List.length_cons]
    split <;> omega
theorem share_is : ∀ (n : Nat) (s t : List UInt8), s.take n = t.take n → n ≤ s.length → n ≤ t.length → (n = s.length ∨ n = t.length ∨ s.getD n 0 ≠ t.getD n 0) → share s t = n
  | 0, [], t, _, _, _, _ => by simp [share]
  | 0, a :: x, [], _, _, _, _ => by simp [share]
  | 0, a :: x, b :: y, _, _, _, h => by
    simp at h
    simp [share, h]
  | n + 1, [], t, _, h, _, _ => by simp at h
  | n + 1, a :: x, [], _, _, h, _ => by simp at h
  | n + 1, a :: x, b :: y, h, h1, h2, h3 => by
    simp at h h1 h2 h3
    have := share_is n x y h.2 h1 h2 (by simpa using h3)
    simp [share, h.1, this]
theorem share_take : ∀ s t : List UInt8, s.take (share s t) = t.take (share s t)
  | [], t => by simp [share]
  | a :: x, [] => by simp [share]
  | a :: x, b :: y => by
    simp only [share]
    split
    · rename_i h; simp [h, share_take x y]
    · simp
def tearSteps (s t : List UInt8) : Int := s.length + t.length - 2 * (share s t : Int)
def tearK (s t : List UInt8) (k : Int) : Nat := (max 0 (min k (tearSteps s t))).toNat
def tear (s t : List UInt8) (k : Int) : List UInt8 :=
  if tearK s t k ≤ s.length - share s t then s.take (s.length - tearK s t k) else t.take (share s t + tearK s t k - (s.length - share s t))
theorem tear_len (s t : List UInt8) (k : Int) : (tear s t k).length = if tearK s t k ≤ s.length - share s t then s.length - tearK s t k else share s t + tearK s t k - (s.length - share s t) := by
  have h := share_le s t
  have h2 : tearK s t k ≤ s.length + t.length - 2 * share s t := by unfold tearK tearSteps; omega
  unfold tear
  split <;> simp <;> omega

theorem specl04Share_c {A A2 : Option Addr} {c c2 lo hi lo2 hi2 : Nat} {s t : List UInt8} {w : World} (hr : Rd w lo hi 1 A s.length (u8s s)) (hr2 : Rd w lo2 hi2 1 A2 t.length (u8s t)) (hl : s.length ≤ 1099511627776) (hl2 : t.length ≤ 1099511627776) :
    Ret Tryz.prog 135 #[.slice A s.length c, .slice A2 t.length c2] w fun v w' => v = I (share s t) ∧ Ext w w' := by
  refine Ret_enter Tryz.func135 rfl rfl rfl ?_
  repeat' (first | apply Jbq | apply Jbr | apply Jbs | apply Jbt | apply Jby | (apply Jcg; exact Jab rfl; exact rfl))
  refine TC_loop (ι := Nat) (fun k => [(0, .slice A s.length c), (1, .slice A2 t.length c2), (5, I k)]) (fun k w' => k ≤ s.length ∧ k ≤ t.length ∧ s.take k = t.take k ∧ Ext w w') (fun k => s.length - k) 0 (subEnv_cons rfl (subEnv_cons rfl (subEnv_cons rfl (subEnv_nil _)))) ⟨Nat.zero_le _, Nat.zero_le _, rfl, Ch.refl _ _⟩ ?_
  intro k w2 ⟨hk, hk2, htk, e2⟩
  repeat' (apply Jbs)
  refine TC_quietExt mixed (by kernel_rfl) ?_
  by_cases h1 : k < s.length
  · by_cases h2 : k < t.length
    · obtain ⟨ad, rfl, hc⟩ := (hr.ext e2).get h1
      obtain ⟨ad2, rfl, hc2⟩ := (hr2.ext e2).get h2
      rw [u8s_get s h1] at hc
      rw [u8s_get t h2] at hc2
      repeat' (first | (apply Jck; (first | exact Jaa rfl | exact Jac Us.h rfl | exact Jad rfl rfl | exact Jag Us.h Sz.h rfl rfl (by omega) | exact Jah rfl rfl | exact Jak rfl rfl); exact rfl) | refine Jcl rfl rfl rfl ?_ | refine Jck (Pu_load Fl.h rfl (fun _ e => Ext.cell e hc)) rfl ?_ | refine Jck (Pu_load Fl.h rfl (fun _ e => Ext.cell e hc2)) rfl ?_ | (refine Jcv rfl rfl (fun hb => ?_) (fun hb => ?_) <;> (try (exfalso; omega))))
      refine TQ_nil fun w3 e3 => ?_
      repeat' (apply Jbr)
      refine Jcx rfl (fun hq => ?_) (fun hq => ?_)
      · have hq : s.getD k 0 = t.getD k 0 := UInt8.toNat_inj.1 (by omega)
        have q1 : s.take (k + 1) = s.take k ++ [s.getD k 0] := by rw [List.take_succ_eq_append_getElem h1]; simp [List.getD_eq_getElem?_getD, List.getElem?_eq_getElem h1]
        have q2 : t.take (k + 1) = t.take k ++ [t.getD k 0] := by rw [List.take_succ_eq_append_getElem h2]; simp [List.getD_eq_getElem?_getD, List.getElem?_eq_getElem h2]
        repeat' (first | apply Jbq | apply Jbr | apply Jbt | apply Jbx | apply Jby | apply Jbz | (apply Jcg; (first | exact Jaa rfl | exact Jab rfl | exact Jaf rfl rfl (by omega)); exact rfl))
        exact TN_round (k + 1) (subEnv_cons rfl (subEnv_cons rfl (subEnv_cons rfl (subEnv_nil _)))) ⟨h1, h2, by rw [q1, q2, htk, hq], e2.ext e3⟩ (by omega)
      · repeat' (first | apply Jbq | apply Jbr | apply Jbs | apply Jbt | apply Jbu | apply Jca | apply Jcb | apply Jcc | (apply Jcg; (first | exact Jaa rfl | exact Jab rfl); exact rfl))
        exact TR_of (res1 rfl rfl) ⟨by rw [share_is k s t htk hk hk2 (.inr (.inr fun h => hq (by rw [h])))], e2.ext e3⟩
    · repeat' (first | (apply Jck; (first | exact Jaa rfl | exact Jac Us.h rfl | exact Jad rfl rfl | exact Jah rfl rfl | exact Jai rfl rfl); exact rfl) | refine Jcl rfl rfl rfl ?_ | refine Jcm rfl rfl rfl rfl rfl ?_ | (refine Jcv rfl rfl (fun hb => ?_) (fun hb => ?_) <;> (try (exfalso; omega))))
      refine TQ_nil fun w3 e3 => ?_
      repeat' (first | apply Jbq | apply Jbr | apply Jbs | apply Jbt | apply Jbu | apply Jca | apply Jcb | apply Jcc | (refine Jcf rfl ?_) | (apply Jcg; (first | exact Jaa rfl | exact Jab rfl); exact rfl))
      exact TR_of (res1 rfl rfl) ⟨by rw [share_is k s t htk hk hk2 (by omega)], e2.ext e3⟩
  · repeat' (first | (apply Jck; (first | exact Jaa rfl | exact Jac Us.h rfl | exact Jad rfl rfl | exact Jai rfl rfl); exact rfl) | refine Jcm rfl rfl rfl rfl rfl ?_ | (refine Jcv rfl rfl (fun hb => ?_) (fun hb => ?_) <;> (try (exfalso; omega))))
    refine TQ_nil fun w3 e3 => ?_
    repeat' (first | apply Jbq | apply Jbr | apply Jbs | apply Jbt | apply Jbu | apply Jca | apply Jcb | apply Jcc | (refine Jcf rfl ?_) | (apply Jcg; (first | exact Jaa rfl | exact Jab rfl); exact rfl))
    exact TR_of (res1 rfl rfl) ⟨by rw [share_is k s t htk hk hk2 (by omega)], e2.ext e3⟩
theorem implcommonPrefix_c {A A2 : Option Addr} {c c2 lo hi lo2 hi2 : Nat} {s t : List UInt8} {w : World} (hr : Rd w lo hi 1 A s.length (u8s s)) (hr2 : Rd w lo2 hi2 1 A2 t.length (u8s t)) (hl : s.length ≤ 1099511627776) (hl2 : t.length ≤ 1099511627776) :
    Ret Tryz.prog 146 #[.slice A s.length c, .slice A2 t.length c2] w fun v w' => v = I (share s t) ∧ Ext w w' := by
  refine Ret_enter Tryz.func146 rfl rfl rfl ?_
  repeat' (first | apply Jbq | apply Jbr | apply Jbs | apply Jbt | apply Jby | (apply Jcg; exact Jab rfl; exact rfl))
  refine TC_loop (ι := Nat) (fun k => [(0, .slice A s.length c), (1, .slice A2 t.length c2), (5, I k)]) (fun k w' => k ≤ s.length ∧ k ≤ t.length ∧ s.take k = t.take k ∧ Ext w w') (fun k => s.length - k) 0 (subEnv_cons rfl (subEnv_cons rfl (subEnv_cons rfl (subEnv_nil _)))) ⟨Nat.zero_le _, Nat.zero_le _, rfl, Ch.refl _ _⟩ ?_
  intro k w2 ⟨hk, hk2, htk, e2⟩
  repeat' (apply Jbs)
  refine TC_quietExt mixed (by kernel_rfl) ?_
  by_cases h1 : k < s.length
  · by_cases h2 : k < t.length
    · obtain ⟨ad, rfl, hc⟩ := (hr.ext e2).get h1
      obtain ⟨ad2, rfl, hc2⟩ := (hr2.ext e2).get h2
      rw [u8s_get s h1] at hc
      rw [u8s_get t h2] at hc2
      repeat' (first | (apply Jck; (first | exact Jaa rfl | exact Jac Us.h rfl | exact Jad rfl rfl | exact Jag Us.h Sz.h rfl rfl (by omega) | exact Jah rfl rfl | exact Jak rfl rfl); exact rfl) | refine Jcl rfl rfl rfl ?_ | refine Jck (Pu_load Fl.h rfl (fun _ e => Ext.cell e hc)) rfl ?_ | refine Jck (Pu_load Fl.h rfl (fun _ e => Ext.cell e hc2)) rfl ?_ | (refine Jcv rfl rfl (fun hb => ?_) (fun hb => ?_) <;> (try (exfalso; omega))))
      refine TQ_nil fun w3 e3 => ?_
      repeat' (apply Jbr)
      refine Jcx rfl (fun hq => ?_) (fun hq => ?_)
      · have hq : s.getD k 0 = t.getD k 0 := UInt8.toNat_inj.1 (by omega)
        have q1 : s.take (k + 1) = s.take k ++ [s.getD k 0] := by rw [List.take_succ_eq_append_getElem h1]; simp [List.getD_eq_getElem?_getD, List.getElem?_eq_getElem h1]
        have q2 : t.take (k + 1) = t.take k ++ [t.getD k 0] := by rw [List.take_succ_eq_append_getElem h2]; simp [List.getD_eq_getElem?_getD, List.getElem?_eq_getElem h2]
        repeat' (first | apply Jbq | apply Jbr | apply Jbt | apply Jbx | apply Jby | apply Jbz | (apply Jcg; (first | exact Jaa rfl | exact Jab rfl | exact Jaf rfl rfl (by omega)); exact rfl))
        exact TN_round (k + 1) (subEnv_cons rfl (subEnv_cons rfl (subEnv_cons rfl (subEnv_nil _)))) ⟨h1, h2, by rw [q1, q2, htk, hq], e2.ext e3⟩ (by omega)
      · repeat' (first | apply Jbq | apply Jbr | apply Jbs | apply Jbt | apply Jbu | apply Jca | apply Jcb | apply Jcc | (apply Jcg; (first | exact Jaa rfl | exact Jab rfl); exact rfl))
        exact TR_of (res1 rfl rfl) ⟨by rw [share_is k s t htk hk hk2 (.inr (.inr fun h => hq (by rw [h])))], e2.ext e3⟩
    · repeat' (first | (apply Jck; (first | exact Jaa rfl | exact Jac Us.h rfl | exact Jad rfl rfl | exact Jah rfl rfl | exact Jai rfl rfl); exact rfl) | refine Jcl rfl rfl rfl ?_ | refine Jcm rfl rfl rfl rfl rfl ?_ | (refine Jcv rfl rfl (fun hb => ?_) (fun hb => ?_) <;> (try (exfalso; omega))))
      refine TQ_nil fun w3 e3 => ?_
      repeat' (first | apply Jbq | apply Jbr | apply Jbs | apply Jbt | apply Jbu | apply Jca | apply Jcb | apply Jcc | (refine Jcf rfl ?_) | (apply Jcg; (first | exact Jaa rfl | exact Jab rfl); exact rfl))
      exact TR_of (res1 rfl rfl) ⟨by rw [share_is k s t htk hk hk2 (by omega)], e2.ext e3⟩
  · repeat' (first | (apply Jck; (first | exact Jaa rfl | exact Jac Us.h rfl | exact Jad rfl rfl | exact Jai rfl rfl); exact rfl) | refine Jcm rfl rfl rfl rfl rfl ?_ | (refine Jcv rfl rfl (fun hb => ?_) (fun hb => ?_) <;> (try (exfalso; omega))))
    refine TQ_nil fun w3 e3 => ?_
    repeat' (first | apply Jbq | apply Jbr | apply Jbs | apply Jbt | apply Jbu | apply Jca | apply Jcb | apply Jcc | (refine Jcf rfl ?_) | (apply Jcg; (first | exact Jaa rfl | exact Jab rfl); exact rfl))
    exact TR_of (res1 rfl rfl) ⟨by rw [share_is k s t htk hk hk2 (by omega)], e2.ext e3⟩
theorem specTearSteps_c {A A2 : Option Addr} {c c2 lo hi lo2 hi2 : Nat} {s t : List UInt8} {w : World} (hr : Rd w lo hi 1 A s.length (u8s s)) (hr2 : Rd w lo2 hi2 1 A2 t.length (u8s t)) (hl : s.length ≤ 1099511627776) (hl2 : t.length ≤ 1099511627776) :
    Ret Tryz.prog 134 #[.slice A s.length c, .slice A2 t.length c2] w fun v w' => v = I (tearSteps s t) ∧ Ext w w' := by
  have hs := share_le s t
  refine Ret_enter Tryz.func134 rfl rfl rfl ?_
  repeat' (first | apply Jbq | apply Jbr | apply Jbs | apply Jbt | (apply Jcg; (first | exact Jaa rfl | exact Jab rfl); exact rfl))
  refine TL_call rfl en135 (specl04Share_c hr hr2 hl hl2) rfl rfl ?_
  rintro _ w1 ⟨rfl, e1⟩
  repeat' (first | apply Jbq | apply Jbr | apply Jbs | apply Jbt | apply Jbu | (apply Jcg; (first | exact Jaa rfl | exact Jab rfl | exact Jac Us.h rfl | exact Jaf rfl rfl (by omega) | exact Jap rfl rfl (by omega)); exact rfl))
  exact TR_of (res1 rfl rfl) ⟨by unfold tearSteps; exact congrArg I (by omega), e1⟩
theorem implTearSteps_c {A A2 : Option Addr} {c c2 lo hi lo2 hi2 : Nat} {s t : List UInt8} {w : World} (hr : Rd w lo hi 1 A s.length (u8s s)) (hr2 : Rd w lo2 hi2 1 A2 t.length (u8s t)) (hl : s.length ≤ 1099511627776) (hl2 : t.length ≤ 1099511627776) :
    Ret Tryz.prog 145 #[.slice A s.length c, .slice A2 t.length c2] w fun v w' => v = I (tearSteps s t) ∧ Ext w w' := by
  have hs := share_le s t
  refine Ret_enter Tryz.func145 rfl rfl rfl ?_
  repeat' (first | apply Jbq | apply Jbr | apply Jbs | apply Jbt | (apply Jcg; (first | exact Jaa rfl | exact Jab rfl | exact Jac Us.h rfl | exact Jaf rfl rfl (by omega)); exact rfl))
  refine TL_call rfl en146 (implcommonPrefix_c hr hr2 hl hl2) rfl rfl ?_
  rintro _ w1 ⟨rfl, e1⟩
  repeat' (first | apply Jbq | apply Jbr | apply Jbu | (apply Jcg; (first | exact Jab rfl | exact Jap rfl rfl (by omega) | exact Jbk rfl rfl (by omega)); exact rfl))
  exact TR_of (res1 rfl rfl) ⟨rfl, e1⟩
theorem specTear_c {A A2 : Option Addr} {c c2 lo hi lo2 hi2 : Nat} {s t : List UInt8} {k : Int} {w : World} (hr : Rd w lo hi 1 A s.length (u8s s)) (hr2 : Rd w lo2 hi2 1 A2 t.length (u8s t)) (hl : s.length ≤ 1099511627776) (hl2 : t.length ≤ 1099511627776) (hc : s.length ≤ c) (hc2 : t.length ≤ c2) :
    Ret Tryz.prog 61 #[.slice A s.length c, .slice A2 t.length c2, I k] w fun v w' => ∃ A' c', v = .slice A' (tear s t k).length c' ∧ Ext w w' ∧ Own w' w.heap.size w'.heap.size 5 1 A' (tear s t k).length c' (u8s (tear s t k)) := by
  have hs := share_le s t
  obtain ⟨K, hK⟩ : ∃ K, K = tearK s t k := ⟨_, rfl⟩
  have hTk : tearSteps s t = s.length + t.length - 2 * (share s t : Int) := rfl
  have hKd : (K : Int) = max 0 (min k (tearSteps s t)) := by rw [hK]; unfold tearK; omega
  refine Ret_enter Tryz.func61 rfl rfl rfl ?_
  apply Jbs
  repeat' (first | apply Jbq | apply Jbr | apply Jbt | (apply Jcg; exact Jab rfl; exact rfl))
  refine TC_join (ι := Unit) (fun _ => [(0, .slice A s.length c), (1, .slice A2 t.length c2), (2, I (max 0 k))]) (fun _ w' => w = w') ?_ ?_
  · repeat' (first | apply Jbq | apply Jbr | apply Jbs | apply Jbt | apply Jbz | (apply Jcg; (first | exact Jaa rfl | exact Jab rfl | exact Jad rfl rfl); exact rfl) | (refine Jcx rfl (fun hb => ?_) (fun hb => ?_) <;> (try (exfalso; omega))))
    · exact TN_join () (subEnv_cons rfl (subEnv_cons rfl (subEnv_cons (congrArg (fun z => some (I z)) (by omega)) (subEnv_nil _)))) rfl
    · exact TN_join () (subEnv_cons rfl (subEnv_cons rfl (subEnv_cons (congrArg (fun z => some (I z)) (by omega)) (subEnv_nil _)))) rfl
  rintro _ _ rfl
  refine TC_join (ι := Unit) (fun _ => [(0, .slice A s.length c), (1, .slice A2 t.length c2), (2, I K)]) (fun _ w' => Ext w w') ?_ ?_
  · repeat' (first | apply Jbs | apply Jbt | (apply Jcg; exact Jaa rfl; exact rfl))
    refine TL_call rfl en134 (specTearSteps_c hr hr2 hl hl2) rfl rfl ?_
    rintro _ w1 ⟨rfl, e1⟩
    repeat' (first | apply Jbq | apply Jbr | (apply Jcg; exact Jam rfl rfl; exact rfl))
    refine Jcx rfl (fun hb => ?_) (fun hb => ?_)
    · repeat' (first | apply Jbt | (apply Jcg; exact Jaa rfl; exact rfl))
      refine TL_call rfl en134 (specTearSteps_c (hr.ext e1) (hr2.ext e1) hl hl2) rfl rfl ?_
      rintro _ w2 ⟨rfl, e2⟩
      repeat' (first | apply Jbq | (apply Jcg; exact Jab rfl; exact rfl))
      exact TN_join () (subEnv_cons rfl (subEnv_cons rfl (subEnv_cons (congrArg (fun z => some (I z)) (by omega)) (subEnv_nil _)))) (e1.ext e2)
    · repeat' (apply Jbz)
      exact TN_join () (subEnv_cons rfl (subEnv_cons rfl (subEnv_cons (congrArg (fun z => some (I z)) (by omega)) (subEnv_nil _)))) e1
  intro _ w1 e1
  repeat' (first | apply Jbs | apply Jbt | (apply Jcg; exact Jaa rfl; exact rfl))
  refine TL_call rfl en135 (specl04Share_c (hr.ext e1) (hr2.ext e1) hl hl2) rfl rfl ?_
  rintro _ w2 ⟨rfl, e2⟩
  have E2 := e1.ext e2
  repeat' (first | apply Jbq | apply Jbr | apply Jbs | apply Jbt | apply Jbz | (apply Jcg; (first | exact Jaa rfl | exact Jab rfl | exact Jac Us.h rfl | exact Jan rfl rfl | exact Jap rfl rfl (by omega)); exact rfl) | (refine Jcx rfl (fun hb => ?_) (fun hb => ?_) <;> (try (exfalso; omega))))
  · refine TL_buildSlice0 Us.h Sz.h rfl ?_
    intro w3 g e3 hg hz3 hown
    have E3 := E2.ext e3
    have hsz := E2.size
    repeat' ((apply Jcg; (first | exact Jaa rfl | exact Jac Us.h rfl | exact Jap rfl rfl (by omega) | exact Jbe Us.h Sz.h rfl rfl (by omega)); exact rfl))
    refine TL_append Us.h Inf.h rfl rfl rfl rfl hown ((hr.ext E3).to8 (b := (s.length : Int) - K) (by omega) hc) (u8s_one _) (by omega) (by omega) (by omega) rfl ?_
    intro w4 hi4 A4 c4 ch4 h1 h2 h3 hown4
    have hT : tear s t k = s.take ((s.length : Int) - K).toNat := by unfold tear; rw [← hK, if_pos (by omega)]; congr 1; omega
    have hz4 := ch4.size
    have hlen : 0 + ((s.length : Int) - K).toNat = (tear s t k).length := by rw [hT]; simp <;> omega
    repeat' (first | apply Jbq | apply Jbr | apply Jbu | apply Jbv | (apply Jcg; exact Jab rfl; exact rfl))
    exact TR_of (res1 rfl rfl) ⟨A4, c4, cast_slice hlen, Ext.then_iv E3 ch4 (by omega), (hown4.wide (by omega) (by omega) (Nat.le_refl _)).cast hlen (by rw [hT]; rfl)⟩
  · refine TL_buildSlice0 Us.h Sz.h rfl ?_
    intro w3 g e3 hg hz3 hown
    have E3 := E2.ext e3
    have hsz := E2.size
    repeat' ((apply Jcg; (first | exact Jaa rfl | exact Jac Us.h rfl | exact Jaf rfl rfl (by omega) | exact Jap rfl rfl (by omega) | exact Jbe Us.h Sz.h rfl rfl (by omega)); exact rfl))
    refine TL_append Us.h Inf.h rfl rfl rfl rfl hown ((hr2.ext E3).to8 (b := (share s t : Int) + K - ((s.length : Int) - share s t)) (by omega) hc2) (u8s_one _) (by omega) (by omega) (by omega) rfl ?_
    intro w4 hi4 A4 c4 ch4 h1 h2 h3 hown4
    have hT : tear s t k = t.take ((share s t : Int) + K - ((s.length : Int) - share s t)).toNat := by unfold tear; rw [← hK, if_neg (by omega)]; congr 1; omega
    have hz4 := ch4.size
    have hlen : 0 + ((share s t : Int) + K - ((s.length : Int) - share s t)).toNat = (tear s t k).length := by rw [hT]; simp <;> omega
    repeat' (first | apply Jbq | apply Jbr | apply Jbu | (apply Jcg; exact Jab rfl; exact rfl))
    exact TR_of (res1 rfl rfl) ⟨A4, c4, cast_slice hlen, Ext.then_iv E3 ch4 (by omega), (hown4.wide (by omega) (by omega) (Nat.le_refl _)).cast hlen (by rw [hT]; rfl)⟩
theorem implTear_c {A A2 : Option Addr} {c c2 lo hi lo2 hi2 : Nat} {s t : List UInt8} {k : Int} {w : World} (hr : Rd w lo hi 1 A s.length (u8s s)) (hr2 : Rd w lo2 hi2 1 A2 t.length (u8s t)) (hl : s.length ≤ 1099511627776) (hl2 : t.length ≤ 1099511627776) (hc : s.length ≤ c) (hc2 : t.length ≤ c2) :
    Ret Tryz.prog 70 #[.slice A s.length c, .slice A2 t.length c2, I k] w fun v w' => ∃ A' c', v = .slice A' (tear s t k).length c' ∧ Ext w w' ∧ Own w' w.heap.size w'.heap.size 5 1 A' (tear s t k).length c' (u8s (tear s t k)) := by
  have hs := share_le s t
  obtain ⟨K, hK⟩ : ∃ K, K = tearK s t k := ⟨_, rfl⟩
  have hTk : tearSteps s t = s.length + t.length - 2 * (share s t : Int) := rfl
  have hKd : max 0 (min k (tearSteps s t)) = (K : Int) := by rw [hK]; unfold tearK; omega
  refine Ret_enter Tryz.func70 rfl rfl rfl ?_
  repeat' (first | apply Jbq | apply Jbr | apply Jbs | apply Jbt | (apply Jcg; (first | exact Jaa rfl | exact Jab rfl); exact rfl))
  refine TL_call rfl en145 (implTearSteps_c hr hr2 hl hl2) rfl rfl ?_
  rintro _ w1 ⟨rfl, e1⟩
  repeat' (first | apply Jbq | apply Jbr | apply Jbs | apply Jbt | (apply Jcg; (first | exact Jaa rfl | exact Jab rfl | exact Jay rfl rfl | exact Jaz rfl rfl); exact rfl))
  rw [hKd]
  refine TL_call rfl en146 (implcommonPrefix_c (hr.ext e1) (hr2.ext e1) hl hl2) rfl rfl ?_
  rintro _ w2 ⟨rfl, e2⟩
  have E2 := e1.ext e2
  have hsz := E2.size
  repeat' (first | apply Jbq | apply Jbr | apply Jbs | apply Jbt | apply Jbz | (apply Jcg; (first | exact Jaa rfl | exact Jab rfl | exact Jac Us.h rfl | exact Jaf rfl rfl (by omega) | exact Jam rfl rfl | exact Jap rfl rfl (by omega) | exact Jbe Us.h Sz.h rfl rfl (by omega)); exact rfl) | (refine Jcx rfl (fun hb => ?_) (fun hb => ?_) <;> (try (exfalso; omega))))
  · have hT : tear s t k = t.take ((share s t : Int) + K - ((s.length : Int) - share s t)).toNat := by unfold tear; rw [← hK, if_neg (by omega)]; congr 1; omega
    have hlen : ((share s t : Int) + K - ((s.length : Int) - share s t)).toNat = (tear s t k).length := by rw [hT]; simp <;> omega
    have hR := (hr2.ext E2).to8 (b := (share s t : Int) + K - ((s.length : Int) - share s t)) (by omega) hc2
    rw [← hT, hlen] at hR
    rw [hlen]
    refine TL_call rfl en71 (copyBytes_c hR (by rw [← hlen]; omega)) rfl rfl ?_
    rintro _ w3 ⟨A3, c3, rfl, e3, hown⟩
    repeat' (first | apply Jbq | apply Jbr | apply Jbu | apply Jbv | (apply Jcg; exact Jab rfl; exact rfl))
    exact TR_of (res1 rfl rfl) ⟨A3, c3, rfl, E2.ext e3, hown.wide (by omega) (Nat.le_refl _) (Nat.le_refl _)⟩
  · have hT : tear s t k = s.take ((s.length : Int) - K).toNat := by unfold tear; rw [← hK, if_pos (by omega)]; congr 1; omega
    have hlen : ((s.length : Int) - K).toNat = (tear s t k).length := by rw [hT]; simp <;> omega
    have hR := (hr.ext E2).to8 (b := (s.length : Int) - K) (by omega) hc
    rw [← hT, hlen] at hR
    rw [hlen]
    refine TL_call rfl en71 (copyBytes_c hR (by rw [← hlen]; omega)) rfl rfl ?_
    rintro _ w3 ⟨A3, c3, rfl, e3, hown⟩
    repeat' (first | apply Jbq | apply Jbr | apply Jbu | (apply Jcg; exact Jab rfl; exact rfl))
    exact TR_of (res1 rfl rfl) ⟨A3, c3, rfl, E2.ext e3, hown.wide (by omega) (Nat.le_refl _) (Nat.le_refl _)⟩
end Go.Proofs.YtggaghghclomkaaGreat
