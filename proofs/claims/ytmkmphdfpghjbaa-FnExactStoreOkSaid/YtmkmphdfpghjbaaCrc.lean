/- Contracts: checksums. -/
import Derived.Test.YtmkmphdfpghjbaaNum
namespace Go.Proofs.Ytmkmphdfpghjbaa
open Go.RowKit
attribute [local irreducible] TL TC TN TX TR TQ TA Pu Ret

theorem xorI (a b : Nat) (ha : a < 4294967296) (hb : b < 4294967296) : bitv .xor .i64 (a : Int) (b : Int) = ((a ^^^ b : Nat) : Int) := bit_xor64 a b (by omega) (by omega)
theorem crcBit_odd {r : Nat} (h : r % 2 = 1) : crcBit r = (r / 2) ^^^ 3988292384 := by unfold crcBit; rw [if_pos h]
theorem crcBit_even {r : Nat} (h : ¬ r % 2 = 1) : crcBit r = r / 2 := by unfold crcBit; rw [if_neg h]
set_option maxHeartbeats 2000000 in
theorem specCrc32_k {lo hi : Nat} {vb : Value} {b : List UInt8} {w : World} (hR : RB w lo hi vb b) (hl : b.length ≤ 1048576) :
    Ret Try.prog 147 #[vb] w fun v w' => v = I (crc b) ∧ Ext w w' := by
  obtain ⟨A, c, rfl, hc, hr⟩ := hR
  refine Ret_enter Try.func147 rfl rfl rfl ?_
  repeat' (first | apply Jbq | apply Jbr | apply Jbs | apply Jbt | apply Jbu | apply Jbv | apply Jbw | apply Jbx | apply Jby | apply Jbz | apply Jca | apply Jcb | apply Jcc | (refine Jcd rfl ?_) | (refine Jce rfl ?_) | (refine Jcf rfl ?_) | (apply Jcg; (first | exact Jaa rfl | exact Jab rfl | exact Jac Us.h rfl | exact Jad rfl rfl | exact Jaf rfl rfl (by omega) | exact Jag Us.h Sz.h rfl rfl (by omega) | exact Jak rfl rfl | exact Jaq Us.h rfl | exact Jar Us.h Sz.h rfl rfl (by omega) | exact Jas rfl rfl | exact Jau Us.h rfl rfl | exact Jaw Us.h Us.h rfl | exact Jax Us.h Us.h rfl (by omega) | exact Jbi rfl rfl (by omega) | exact Jbj rfl rfl (by omega)); exact rfl) | refine Jch rfl rfl rfl ?_ | refine Jci rfl rfl rfl rfl rfl ?_ | refine Jcj rfl rfl rfl rfl ?_)
  refine TC_loop (ι := Nat) (fun i => [(0, .slice A b.length c), (3, I (crcR 4294967295 (b.take i))), (4, I i)]) (fun i w' => i ≤ b.length ∧ w = w') (fun i => b.length - i) 0 (subEnv_cons rfl (subEnv_cons rfl (subEnv_cons rfl (subEnv_nil _)))) ⟨Nat.zero_le _, rfl⟩ ?_
  rintro i _ ⟨hi, rfl⟩
  repeat' (first | apply Jbq | apply Jbr | apply Jbs | apply Jbt | apply Jbu | apply Jbv | apply Jbw | apply Jbx | apply Jby | apply Jbz | apply Jca | apply Jcb | apply Jcc | (refine Jcd rfl ?_) | (refine Jce rfl ?_) | (refine Jcf rfl ?_) | (apply Jcg; (first | exact Jaa rfl | exact Jab rfl | exact Jac Us.h rfl | exact Jad rfl rfl | exact Jaf rfl rfl (by omega) | exact Jag Us.h Sz.h rfl rfl (by omega) | exact Jak rfl rfl | exact Jaq Us.h rfl | exact Jar Us.h Sz.h rfl rfl (by omega) | exact Jas rfl rfl | exact Jau Us.h rfl rfl | exact Jaw Us.h Us.h rfl | exact Jax Us.h Us.h rfl (by omega) | exact Jbi rfl rfl (by omega) | exact Jbj rfl rfl (by omega)); exact rfl) | refine Jch rfl rfl rfl ?_ | refine Jci rfl rfl rfl rfl rfl ?_ | refine Jcj rfl rfl rfl rfl ?_)
  refine Jcx rfl (fun hb => ?_) (fun hb => ?_)
  · have hlt : i < b.length := by omega
    obtain ⟨ad, rfl, hcell⟩ := hr.get hlt
    rw [u8s_get b hlt] at hcell
    have hx := (b.getD i 0).toNat_lt
    have hR := crcR_lt (b.take i) (r := 4294967295) (by omega)
    repeat' (first | apply Jbq | apply Jbr | apply Jbs | apply Jbt | apply Jbu | apply Jbv | apply Jbw | apply Jbx | apply Jby | apply Jbz | apply Jca | apply Jcb | apply Jcc | (refine Jcd rfl ?_) | (refine Jce rfl ?_) | (refine Jcf rfl ?_) | (apply Jcg; (first | exact Jaa rfl | exact Jab rfl | exact Jac Us.h rfl | exact Jad rfl rfl | exact Jaf rfl rfl (by omega) | exact Jag Us.h Sz.h rfl rfl (by omega) | exact Jak rfl rfl | exact Jaq Us.h rfl | exact Jar Us.h Sz.h rfl rfl (by omega) | exact Jas rfl rfl | exact Jau Us.h rfl rfl | exact Jaw Us.h Us.h rfl | exact Jax Us.h Us.h rfl (by omega) | exact Jbi rfl rfl (by omega) | exact Jbj rfl rfl (by omega)); exact rfl) | refine Jch rfl rfl rfl ?_ | refine Jci rfl rfl rfl rfl rfl ?_ | refine Jcj rfl rfl rfl rfl ?_ | refine Jcg (Pu_load Fl.h rfl (fun _ e => by rw [e]; exact hcell)) rfl ?_ | refine Jcg (Pu_xor rfl rfl) rfl ?_)
    rw [xorI _ _ hR (by omega)]
    obtain ⟨x, hxx⟩ : ∃ x, x = crcR 4294967295 (b.take i) ^^^ (b.getD i 0).toNat := ⟨_, rfl⟩
    have hxl : x < 4294967296 := by rw [hxx]; exact xor8_lt hR _
    rw [← hxx]
    refine TC_loop (ι := Nat) (fun k => [(0, .slice (some ad) b.length c), (3, I (crcBits x k)), (4, I i), (5, I k)]) (fun k w' => k ≤ 8 ∧ w = w') (fun k => 8 - k) 0 (subEnv_cons rfl (subEnv_cons rfl (subEnv_cons rfl (subEnv_cons rfl (subEnv_nil _))))) ⟨Nat.zero_le _, rfl⟩ ?_
    rintro k _ ⟨hk, rfl⟩
    have hk2 := crcBits_lt hxl k
    repeat' (first | apply Jbq | apply Jbr | apply Jbs | apply Jbt | apply Jbu | apply Jbv | apply Jbw | apply Jbx | apply Jby | apply Jbz | apply Jca | apply Jcb | apply Jcc | (refine Jcd rfl ?_) | (refine Jce rfl ?_) | (refine Jcf rfl ?_) | (apply Jcg; (first | exact Jaa rfl | exact Jab rfl | exact Jac Us.h rfl | exact Jad rfl rfl | exact Jaf rfl rfl (by omega) | exact Jag Us.h Sz.h rfl rfl (by omega) | exact Jak rfl rfl | exact Jaq Us.h rfl | exact Jar Us.h Sz.h rfl rfl (by omega) | exact Jas rfl rfl | exact Jau Us.h rfl rfl | exact Jaw Us.h Us.h rfl | exact Jax Us.h Us.h rfl (by omega) | exact Jbi rfl rfl (by omega) | exact Jbj rfl rfl (by omega)); exact rfl) | refine Jch rfl rfl rfl ?_ | refine Jci rfl rfl rfl rfl rfl ?_ | refine Jcj rfl rfl rfl rfl ?_)
    refine Jcx rfl (fun hb => ?_) (fun hb => ?_)
    · repeat' (first | apply Jbq | apply Jbr | apply Jbs | apply Jbt | apply Jbu | apply Jbv | apply Jbw | apply Jbx | apply Jby | apply Jbz | apply Jca | apply Jcb | apply Jcc | (refine Jcd rfl ?_) | (refine Jce rfl ?_) | (refine Jcf rfl ?_) | (apply Jcg; (first | exact Jaa rfl | exact Jab rfl | exact Jac Us.h rfl | exact Jad rfl rfl | exact Jaf rfl rfl (by omega) | exact Jag Us.h Sz.h rfl rfl (by omega) | exact Jak rfl rfl | exact Jaq Us.h rfl | exact Jar Us.h Sz.h rfl rfl (by omega) | exact Jas rfl rfl | exact Jau Us.h rfl rfl | exact Jaw Us.h Us.h rfl | exact Jax Us.h Us.h rfl (by omega) | exact Jbi rfl rfl (by omega) | exact Jbj rfl rfl (by omega)); exact rfl) | refine Jch rfl rfl rfl ?_ | refine Jci rfl rfl rfl rfl rfl ?_ | refine Jcj rfl rfl rfl rfl ?_)
      refine Jcx rfl (fun ho => ?_) (fun ho => ?_)
      · repeat' (first | apply Jbq | apply Jbr | apply Jbs | apply Jbt | apply Jbu | apply Jbv | apply Jbw | apply Jbx | apply Jby | apply Jbz | apply Jca | apply Jcb | apply Jcc | (refine Jcd rfl ?_) | (refine Jce rfl ?_) | (refine Jcf rfl ?_) | (apply Jcg; (first | exact Jaa rfl | exact Jab rfl | exact Jac Us.h rfl | exact Jad rfl rfl | exact Jaf rfl rfl (by omega) | exact Jag Us.h Sz.h rfl rfl (by omega) | exact Jak rfl rfl | exact Jaq Us.h rfl | exact Jar Us.h Sz.h rfl rfl (by omega) | exact Jas rfl rfl | exact Jau Us.h rfl rfl | exact Jaw Us.h Us.h rfl | exact Jax Us.h Us.h rfl (by omega) | exact Jbi rfl rfl (by omega) | exact Jbj rfl rfl (by omega)); exact rfl) | refine Jch rfl rfl rfl ?_ | refine Jci rfl rfl rfl rfl rfl ?_ | refine Jcj rfl rfl rfl rfl ?_ | refine Jcg (Pu_xor rfl rfl) rfl ?_)
        have e : bitv .xor .i64 ((crcBits x k : Int) / 2) 3988292384 = (crcBits x (k + 1) : Nat) := by
          have := xorI (crcBits x k / 2) 3988292384 (by omega) (by omega)
          rw [crcBits, crcBit_odd (by omega)]
          exact this
        rw [e]
        exact TN_round (k + 1) (subEnv_cons rfl (subEnv_cons rfl (subEnv_cons rfl (subEnv_cons rfl (subEnv_nil _))))) ⟨by omega, rfl⟩ (by omega)
      · repeat' (first | apply Jbq | apply Jbr | apply Jbs | apply Jbt | apply Jbu | apply Jbv | apply Jbw | apply Jbx | apply Jby | apply Jbz | apply Jca | apply Jcb | apply Jcc | (refine Jcd rfl ?_) | (refine Jce rfl ?_) | (refine Jcf rfl ?_) | (apply Jcg; (first | exact Jaa rfl | exact Jab rfl | exact Jac Us.h rfl | exact Jad rfl rfl | exact Jaf rfl rfl (by omega) | exact Jag Us.h Sz.h rfl rfl (by omega) | exact Jak rfl rfl | exact Jaq Us.h rfl | exact Jar Us.h Sz.h rfl rfl (by omega) | exact Jas rfl rfl | exact Jau Us.h rfl rfl | exact Jaw Us.h Us.h rfl | exact Jax Us.h Us.h rfl (by omega) | exact Jbi rfl rfl (by omega) | exact Jbj rfl rfl (by omega)); exact rfl) | refine Jch rfl rfl rfl ?_ | refine Jci rfl rfl rfl rfl rfl ?_ | refine Jcj rfl rfl rfl rfl ?_)
        have e : (crcBits x k : Int) / 2 = (crcBits x (k + 1) : Nat) := by
          rw [crcBits, crcBit_even (by omega)]; omega
        rw [e]
        exact TN_round (k + 1) (subEnv_cons rfl (subEnv_cons rfl (subEnv_cons rfl (subEnv_cons rfl (subEnv_nil _))))) ⟨by omega, rfl⟩ (by omega)
    · obtain rfl : k = 8 := by omega
      have e : crcBits x 8 = crcR 4294967295 (b.take (i + 1)) := by rw [crcR_take hlt, hxx]; rfl
      rw [e]
      repeat' (first | apply Jbq | apply Jbr | apply Jbs | apply Jbt | apply Jbu | apply Jbv | apply Jbw | apply Jbx | apply Jby | apply Jbz | apply Jca | apply Jcb | apply Jcc | (refine Jcd rfl ?_) | (refine Jce rfl ?_) | (refine Jcf rfl ?_) | (apply Jcg; (first | exact Jaa rfl | exact Jab rfl | exact Jac Us.h rfl | exact Jad rfl rfl | exact Jaf rfl rfl (by omega) | exact Jag Us.h Sz.h rfl rfl (by omega) | exact Jak rfl rfl | exact Jaq Us.h rfl | exact Jar Us.h Sz.h rfl rfl (by omega) | exact Jas rfl rfl | exact Jau Us.h rfl rfl | exact Jaw Us.h Us.h rfl | exact Jax Us.h Us.h rfl (by omega) | exact Jbi rfl rfl (by omega) | exact Jbj rfl rfl (by omega)); exact rfl) | refine Jch rfl rfl rfl ?_ | refine Jci rfl rfl rfl rfl rfl ?_ | refine Jcj rfl rfl rfl rfl ?_)
      exact TN_round (i + 1) (subEnv_cons rfl (subEnv_cons rfl (subEnv_cons rfl (subEnv_nil _)))) ⟨by omega, rfl⟩ (by omega)
  · obtain rfl : i = b.length := by omega
    rw [List.take_length]
    repeat' (first | apply Jbq | apply Jbr | apply Jbs | apply Jbt | apply Jbu | apply Jbv | apply Jbw | apply Jbx | apply Jby | apply Jbz | apply Jca | apply Jcb | apply Jcc | (refine Jcd rfl ?_) | (refine Jce rfl ?_) | (refine Jcf rfl ?_) | (apply Jcg; (first | exact Jaa rfl | exact Jab rfl | exact Jac Us.h rfl | exact Jad rfl rfl | exact Jaf rfl rfl (by omega) | exact Jag Us.h Sz.h rfl rfl (by omega) | exact Jak rfl rfl | exact Jaq Us.h rfl | exact Jar Us.h Sz.h rfl rfl (by omega) | exact Jas rfl rfl | exact Jau Us.h rfl rfl | exact Jaw Us.h Us.h rfl | exact Jax Us.h Us.h rfl (by omega) | exact Jbi rfl rfl (by omega) | exact Jbj rfl rfl (by omega)); exact rfl) | refine Jch rfl rfl rfl ?_ | refine Jci rfl rfl rfl rfl rfl ?_ | refine Jcj rfl rfl rfl rfl ?_ | refine Jcg (Pu_xor rfl rfl) rfl ?_)
    exact TR_of (res1 rfl rfl) ⟨congrArg I (xorI _ 4294967295 (crcR_lt b (by omega)) (by omega)), Ch.refl _ _⟩
theorem xorU (a b : Nat) (ha : a < 4294967296) (hb : b < 4294967296) : bitv .xor .u32 (a : Int) (b : Int) = ((a ^^^ b : Nat) : Int) := bit_xor32 a b ha hb
theorem shr1 (a : Nat) : (a : Int).fdiv (2 ^ min (1 : Int).toNat IntKind.u32.bits) = ((a / 2 : Nat) : Int) := by
  rw [Int.fdiv_eq_ediv_of_nonneg _ (by exact Int.pow_nonneg (by omega)), show (2 : Int) ^ min (1 : Int).toNat IntKind.u32.bits = 2 from by decide]; omega
theorem wrapU (x : UInt8) : IntKind.u32.wrap (x.toNat : Int) = (x.toNat : Int) := by have := x.toNat_lt; rw [IntKind.wrap_u32]; omega
set_option maxHeartbeats 2000000 in
theorem implCrc32_k {lo hi : Nat} {vb : Value} {b : List UInt8} {w : World} (hR : RB w lo hi vb b) (hl : b.length ≤ 1048576) :
    Ret Try.prog 149 #[vb] w fun v w' => v = I (crc b) ∧ Ext w w' := by
  obtain ⟨A, c, rfl, hc, hr⟩ := hR
  refine Ret_enter Try.func149 rfl rfl rfl ?_
  repeat' (first | apply Jbq | apply Jbr | apply Jbs | apply Jbt | apply Jbu | apply Jbv | apply Jbw | apply Jbx | apply Jby | apply Jbz | apply Jca | apply Jcb | apply Jcc | (refine Jcd rfl ?_) | (refine Jce rfl ?_) | (refine Jcf rfl ?_) | (apply Jcg; (first | exact Jaa rfl | exact Jab rfl | exact Jac Us.h rfl | exact Jad rfl rfl | exact Jaf rfl rfl (by omega) | exact Jag Us.h Sz.h rfl rfl (by omega) | exact Jak rfl rfl | exact Jaq Us.h rfl | exact Jar Us.h Sz.h rfl rfl (by omega) | exact Jas rfl rfl | exact Jau Us.h rfl rfl | exact Jaw Us.h Us.h rfl | exact Jax Us.h Us.h rfl (by omega) | exact Jbi rfl rfl (by omega) | exact Jbj rfl rfl (by omega)); exact rfl) | refine Jch rfl rfl rfl ?_ | refine Jci rfl rfl rfl rfl rfl ?_ | refine Jcj rfl rfl rfl rfl ?_)
  refine TC_loop (ι := Nat) (fun i => [(3, .int .u32 (crcR 4294967295 (b.take i) : Nat)), (7, .slice A b.length c), (8, I b.length), (9, I i)]) (fun i w' => i ≤ b.length ∧ w = w') (fun i => b.length - i) 0 (subEnv_cons rfl (subEnv_cons rfl (subEnv_cons rfl (subEnv_cons rfl (subEnv_nil _))))) ⟨Nat.zero_le _, rfl⟩ ?_
  rintro i _ ⟨hi, rfl⟩
  repeat' (first | apply Jbq | apply Jbr | apply Jbs | apply Jbt | apply Jbu | apply Jbv | apply Jbw | apply Jbx | apply Jby | apply Jbz | apply Jca | apply Jcb | apply Jcc | (refine Jcd rfl ?_) | (refine Jce rfl ?_) | (refine Jcf rfl ?_) | (apply Jcg; (first | exact Jaa rfl | exact Jab rfl | exact Jac Us.h rfl | exact Jad rfl rfl | exact Jaf rfl rfl (by omega) | exact Jag Us.h Sz.h rfl rfl (by omega) | exact Jak rfl rfl | exact Jaq Us.h rfl | exact Jar Us.h Sz.h rfl rfl (by omega) | exact Jas rfl rfl | exact Jau Us.h rfl rfl | exact Jaw Us.h Us.h rfl | exact Jax Us.h Us.h rfl (by omega) | exact Jbi rfl rfl (by omega) | exact Jbj rfl rfl (by omega)); exact rfl) | refine Jch rfl rfl rfl ?_ | refine Jci rfl rfl rfl rfl rfl ?_ | refine Jcj rfl rfl rfl rfl ?_)
  refine Jcx rfl (fun hb => ?_) (fun hb => ?_)
  · have hlt : i < b.length := by omega
    obtain ⟨ad, rfl, hcell⟩ := hr.get hlt
    rw [u8s_get b hlt] at hcell
    have hx := (b.getD i 0).toNat_lt
    have hR := crcR_lt (b.take i) (r := 4294967295) (by omega)
    repeat' (first | apply Jbq | apply Jbr | apply Jbs | apply Jbt | apply Jbu | apply Jbv | apply Jbw | apply Jbx | apply Jby | apply Jbz | apply Jca | apply Jcb | apply Jcc | (refine Jcd rfl ?_) | (refine Jce rfl ?_) | (refine Jcf rfl ?_) | (apply Jcg; (first | exact Jaa rfl | exact Jab rfl | exact Jac Us.h rfl | exact Jad rfl rfl | exact Jaf rfl rfl (by omega) | exact Jag Us.h Sz.h rfl rfl (by omega) | exact Jak rfl rfl | exact Jaq Us.h rfl | exact Jar Us.h Sz.h rfl rfl (by omega) | exact Jas rfl rfl | exact Jau Us.h rfl rfl | exact Jaw Us.h Us.h rfl | exact Jax Us.h Us.h rfl (by omega) | exact Jbi rfl rfl (by omega) | exact Jbj rfl rfl (by omega)); exact rfl) | refine Jch rfl rfl rfl ?_ | refine Jci rfl rfl rfl rfl rfl ?_ | refine Jcj rfl rfl rfl rfl ?_ | refine Jcg (Pu_load Fl.h rfl (fun _ e => by rw [e]; exact hcell)) rfl ?_ | refine Jcg (Pu_xor rfl rfl) rfl ?_ | refine Jcg (Pu_convw (k2 := .u32) Us.h Us.h rfl) rfl ?_)
    rw [wrapU, xorU _ _ hR (by omega)]
    obtain ⟨x, hxx⟩ : ∃ x, x = crcR 4294967295 (b.take i) ^^^ (b.getD i 0).toNat := ⟨_, rfl⟩
    have hxl : x < 4294967296 := by rw [hxx]; exact xor8_lt hR _
    rw [← hxx]
    refine TC_loop (ι := Nat) (fun k => [(3, .int .u32 (crcBits x k : Nat)), (7, .slice (some ad) b.length c), (8, I b.length), (9, I i), (17, I k)]) (fun k w' => k ≤ 8 ∧ w = w') (fun k => 8 - k) 0 (subEnv_cons rfl (subEnv_cons rfl (subEnv_cons rfl (subEnv_cons rfl (subEnv_cons rfl (subEnv_nil _)))))) ⟨Nat.zero_le _, rfl⟩ ?_
    rintro k _ ⟨hk, rfl⟩
    have hk2 := crcBits_lt hxl k
    repeat' (first | apply Jbq | apply Jbr | apply Jbs | apply Jbt | apply Jbu | apply Jbv | apply Jbw | apply Jbx | apply Jby | apply Jbz | apply Jca | apply Jcb | apply Jcc | (refine Jcd rfl ?_) | (refine Jce rfl ?_) | (refine Jcf rfl ?_) | (apply Jcg; (first | exact Jaa rfl | exact Jab rfl | exact Jac Us.h rfl | exact Jad rfl rfl | exact Jaf rfl rfl (by omega) | exact Jag Us.h Sz.h rfl rfl (by omega) | exact Jak rfl rfl | exact Jaq Us.h rfl | exact Jar Us.h Sz.h rfl rfl (by omega) | exact Jas rfl rfl | exact Jau Us.h rfl rfl | exact Jaw Us.h Us.h rfl | exact Jax Us.h Us.h rfl (by omega) | exact Jbi rfl rfl (by omega) | exact Jbj rfl rfl (by omega)); exact rfl) | refine Jch rfl rfl rfl ?_ | refine Jci rfl rfl rfl rfl rfl ?_ | refine Jcj rfl rfl rfl rfl ?_)
    refine Jcx rfl (fun hb => ?_) (fun hb => ?_)
    · repeat' (first | apply Jbq | apply Jbr | apply Jbs | apply Jbt | apply Jbu | apply Jbv | apply Jbw | apply Jbx | apply Jby | apply Jbz | apply Jca | apply Jcb | apply Jcc | (refine Jcd rfl ?_) | (refine Jce rfl ?_) | (refine Jcf rfl ?_) | (apply Jcg; (first | exact Jaa rfl | exact Jab rfl | exact Jac Us.h rfl | exact Jad rfl rfl | exact Jaf rfl rfl (by omega) | exact Jag Us.h Sz.h rfl rfl (by omega) | exact Jak rfl rfl | exact Jaq Us.h rfl | exact Jar Us.h Sz.h rfl rfl (by omega) | exact Jas rfl rfl | exact Jau Us.h rfl rfl | exact Jaw Us.h Us.h rfl | exact Jax Us.h Us.h rfl (by omega) | exact Jbi rfl rfl (by omega) | exact Jbj rfl rfl (by omega)); exact rfl) | refine Jch rfl rfl rfl ?_ | refine Jci rfl rfl rfl rfl rfl ?_ | refine Jcj rfl rfl rfl rfl ?_ | refine Jcg (Pu_and rfl rfl) rfl ?_ | refine Jcg (Pu_shr rfl rfl (by omega)) rfl ?_)
      rw [and_one32 _ hk2, shr1]
      repeat' (first | apply Jbq | apply Jbr | apply Jbs | apply Jbt | apply Jbu | apply Jbv | apply Jbw | apply Jbx | apply Jby | apply Jbz | apply Jca | apply Jcb | apply Jcc | (refine Jcd rfl ?_) | (refine Jce rfl ?_) | (refine Jcf rfl ?_) | (apply Jcg; (first | exact Jaa rfl | exact Jab rfl | exact Jac Us.h rfl | exact Jad rfl rfl | exact Jaf rfl rfl (by omega) | exact Jag Us.h Sz.h rfl rfl (by omega) | exact Jak rfl rfl | exact Jaq Us.h rfl | exact Jar Us.h Sz.h rfl rfl (by omega) | exact Jas rfl rfl | exact Jau Us.h rfl rfl | exact Jaw Us.h Us.h rfl | exact Jax Us.h Us.h rfl (by omega) | exact Jbi rfl rfl (by omega) | exact Jbj rfl rfl (by omega)); exact rfl) | refine Jch rfl rfl rfl ?_ | refine Jci rfl rfl rfl rfl rfl ?_ | refine Jcj rfl rfl rfl rfl ?_)
      refine Jcx rfl (fun ho => ?_) (fun ho => ?_)
      · repeat' (first | apply Jbq | apply Jbr | apply Jbs | apply Jbt | apply Jbu | apply Jbv | apply Jbw | apply Jbx | apply Jby | apply Jbz | apply Jca | apply Jcb | apply Jcc | (refine Jcd rfl ?_) | (refine Jce rfl ?_) | (refine Jcf rfl ?_) | (apply Jcg; (first | exact Jaa rfl | exact Jab rfl | exact Jac Us.h rfl | exact Jad rfl rfl | exact Jaf rfl rfl (by omega) | exact Jag Us.h Sz.h rfl rfl (by omega) | exact Jak rfl rfl | exact Jaq Us.h rfl | exact Jar Us.h Sz.h rfl rfl (by omega) | exact Jas rfl rfl | exact Jau Us.h rfl rfl | exact Jaw Us.h Us.h rfl | exact Jax Us.h Us.h rfl (by omega) | exact Jbi rfl rfl (by omega) | exact Jbj rfl rfl (by omega)); exact rfl) | refine Jch rfl rfl rfl ?_ | refine Jci rfl rfl rfl rfl rfl ?_ | refine Jcj rfl rfl rfl rfl ?_ | refine Jcg (Pu_xor rfl rfl) rfl ?_)
        have e : bitv .xor .u32 ((crcBits x k / 2 : Nat) : Int) 3988292384 = (crcBits x (k + 1) : Nat) := by
          have := xorU (crcBits x k / 2) 3988292384 (by omega) (by omega)
          rw [crcBits, crcBit_odd (by omega)]
          exact this
        rw [e]
        exact TN_round (k + 1) (subEnv_cons rfl (subEnv_cons rfl (subEnv_cons rfl (subEnv_cons rfl (subEnv_cons rfl (subEnv_nil _)))))) ⟨by omega, rfl⟩ (by omega)
      · repeat' (first | apply Jbq | apply Jbr | apply Jbs | apply Jbt | apply Jbu | apply Jbv | apply Jbw | apply Jbx | apply Jby | apply Jbz | apply Jca | apply Jcb | apply Jcc | (refine Jcd rfl ?_) | (refine Jce rfl ?_) | (refine Jcf rfl ?_) | (apply Jcg; (first | exact Jaa rfl | exact Jab rfl | exact Jac Us.h rfl | exact Jad rfl rfl | exact Jaf rfl rfl (by omega) | exact Jag Us.h Sz.h rfl rfl (by omega) | exact Jak rfl rfl | exact Jaq Us.h rfl | exact Jar Us.h Sz.h rfl rfl (by omega) | exact Jas rfl rfl | exact Jau Us.h rfl rfl | exact Jaw Us.h Us.h rfl | exact Jax Us.h Us.h rfl (by omega) | exact Jbi rfl rfl (by omega) | exact Jbj rfl rfl (by omega)); exact rfl) | refine Jch rfl rfl rfl ?_ | refine Jci rfl rfl rfl rfl rfl ?_ | refine Jcj rfl rfl rfl rfl ?_)
        have e : ((crcBits x k / 2 : Nat) : Int) = (crcBits x (k + 1) : Nat) := by
          rw [crcBits, crcBit_even (by omega)]
        rw [e]
        exact TN_round (k + 1) (subEnv_cons rfl (subEnv_cons rfl (subEnv_cons rfl (subEnv_cons rfl (subEnv_cons rfl (subEnv_nil _)))))) ⟨by omega, rfl⟩ (by omega)
    · obtain rfl : k = 8 := by omega
      have e : crcBits x 8 = crcR 4294967295 (b.take (i + 1)) := by rw [crcR_take hlt, hxx]; rfl
      rw [e]
      repeat' (first | apply Jbq | apply Jbr | apply Jbs | apply Jbt | apply Jbu | apply Jbv | apply Jbw | apply Jbx | apply Jby | apply Jbz | apply Jca | apply Jcb | apply Jcc | (refine Jcd rfl ?_) | (refine Jce rfl ?_) | (refine Jcf rfl ?_) | (apply Jcg; (first | exact Jaa rfl | exact Jab rfl | exact Jac Us.h rfl | exact Jad rfl rfl | exact Jaf rfl rfl (by omega) | exact Jag Us.h Sz.h rfl rfl (by omega) | exact Jak rfl rfl | exact Jaq Us.h rfl | exact Jar Us.h Sz.h rfl rfl (by omega) | exact Jas rfl rfl | exact Jau Us.h rfl rfl | exact Jaw Us.h Us.h rfl | exact Jax Us.h Us.h rfl (by omega) | exact Jbi rfl rfl (by omega) | exact Jbj rfl rfl (by omega)); exact rfl) | refine Jch rfl rfl rfl ?_ | refine Jci rfl rfl rfl rfl rfl ?_ | refine Jcj rfl rfl rfl rfl ?_)
      exact TN_round (i + 1) (subEnv_cons rfl (subEnv_cons rfl (subEnv_cons rfl (subEnv_cons rfl (subEnv_nil _))))) ⟨by omega, rfl⟩ (by omega)
  · obtain rfl : i = b.length := by omega
    rw [List.take_length]
    have hR := crcR_lt b (r := 4294967295) (by omega)
    have hcl := crc_lt b
    repeat' (first | apply Jbq | apply Jbr | apply Jbs | apply Jbt | apply Jbu | apply Jbv | apply Jbw | apply Jbx | apply Jby | apply Jbz | apply Jca | apply Jcb | apply Jcc | (refine Jcd rfl ?_) | (refine Jce rfl ?_) | (refine Jcf rfl ?_) | (apply Jcg; (first | exact Jaa rfl | exact Jab rfl | exact Jac Us.h rfl | exact Jad rfl rfl | exact Jaf rfl rfl (by omega) | exact Jag Us.h Sz.h rfl rfl (by omega) | exact Jak rfl rfl | exact Jaq Us.h rfl | exact Jar Us.h Sz.h rfl rfl (by omega) | exact Jas rfl rfl | exact Jau Us.h rfl rfl | exact Jaw Us.h Us.h rfl | exact Jax Us.h Us.h rfl (by omega) | exact Jbi rfl rfl (by omega) | exact Jbj rfl rfl (by omega)); exact rfl) | refine Jch rfl rfl rfl ?_ | refine Jci rfl rfl rfl rfl rfl ?_ | refine Jcj rfl rfl rfl rfl ?_ | refine Jcg (Pu_com rfl) rfl ?_)
    have e : bitv .xor .u32 (if IntKind.u32.signed then -1 else IntKind.u32.max) (crcR 4294967295 b : Nat) = (crc b : Nat) := by
      have := xorU 4294967295 (crcR 4294967295 b) (by omega) hR
      rw [Nat.xor_comm] at this
      exact this
    rw [e]
    repeat' (first | apply Jbq | apply Jbr | apply Jbs | apply Jbt | apply Jbu | apply Jbv | apply Jbw | apply Jbx | apply Jby | apply Jbz | apply Jca | apply Jcb | apply Jcc | (refine Jcd rfl ?_) | (refine Jce rfl ?_) | (refine Jcf rfl ?_) | (apply Jcg; (first | exact Jaa rfl | exact Jab rfl | exact Jac Us.h rfl | exact Jad rfl rfl | exact Jaf rfl rfl (by omega) | exact Jag Us.h Sz.h rfl rfl (by omega) | exact Jak rfl rfl | exact Jaq Us.h rfl | exact Jar Us.h Sz.h rfl rfl (by omega) | exact Jas rfl rfl | exact Jau Us.h rfl rfl | exact Jaw Us.h Us.h rfl | exact Jax Us.h Us.h rfl (by omega) | exact Jbi rfl rfl (by omega) | exact Jbj rfl rfl (by omega)); exact rfl) | refine Jch rfl rfl rfl ?_ | refine Jci rfl rfl rfl rfl rfl ?_ | refine Jcj rfl rfl rfl rfl ?_)
    exact TR_of (res1 rfl rfl) ⟨rfl, Ch.refl _ _⟩
end Go.Proofs.Ytmkmphdfpghjbaa
