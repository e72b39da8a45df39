/- Texts of this proof laid together, in the order in which they build; what each proves stands ahead of it. No condition but those told there. -/
import Derived.Test.YtggaghghclomkaaGreatQFT8b
import Derived.Lib.Bytealg
import Derived.Deep.MidRow
import Derived.Maps.OwnSet
import Derived.WideShapes
import Derived.Carry
import Derived.WalkArith
import Derived.Shelf.GgSortFunc.RowK
import Derived.Sort.OwnSorted
import Derived.Sort.KeysCollected
import Derived.Shelf.GgSortFunc.SmallK
import Derived.Shelf.GgSortFunc.Tiny
import Derived.Test.YtggaghghclomkaaGreatProg

/- Contracts: numbers in bytes, checksums, digits. -/
namespace Go.Proofs.YtggaghghclomkaaGreat
open Go.RowKit
attribute [local irreducible] TL TC TN TX TR TQ TA Pu Ret

section
variable {P : Program} {C : World → Prop} {n : Nat} {l : Env} {dd : Option Nat} {ty : TypeId} {pos : String} {af : Array Edge} {v : Value}
end
theorem l01Pow_c (k : Nat) (w : World) (hk : k ≤ 4) : Ret Tryz.prog 181 #[I k] w fun v w' => v = I (256 ^ k) ∧ w = w' := by
  refine Ret_enter Tryz.func181 rfl rfl rfl ?_
  repeat' (first | apply Jbq | apply Jbr | apply Jbs | apply Jbt | apply Jby | (apply Jcg; exact Jab rfl; exact rfl))
  refine TC_loop (ι := Nat) (fun i => [(0, I k), (3, I (256 ^ i)), (4, I i)]) (fun i w' => i ≤ k ∧ w = w') (fun i => k - i) 0 (subEnv_cons rfl (subEnv_cons rfl (subEnv_cons rfl (subEnv_nil _)))) ⟨Nat.zero_le _, rfl⟩ ?_
  rintro i _ ⟨hi, rfl⟩
  have hp := pow4 i (by omega)
  repeat' (first | apply Jbq | apply Jbr | apply Jbs | apply Jbt | (apply Jcg; (first | exact Jaa rfl | exact Jad rfl rfl); exact rfl))
  refine Jcx rfl (fun hb => ?_) (fun hb => ?_)
  · repeat' (first | apply Jbq | apply Jbr | apply Jbs | apply Jbt | apply Jbx | apply Jby | apply Jbz | (apply Jcg; (first | exact Jaa rfl | exact Jab rfl | exact Jaf rfl rfl (by omega) | exact Jbk rfl rfl (by omega)); exact rfl))
    exact TN_round (i + 1) (subEnv_cons rfl (subEnv_cons (congrArg (fun z => some (I z)) (Int.pow_succ _ _).symm) (subEnv_cons rfl (subEnv_nil _)))) ⟨by omega, rfl⟩ (by omega)
  · obtain rfl : i = k := by omega
    repeat' (first | apply Jbq | apply Jbr | apply Jbs | apply Jbt | apply Jbu | apply Jca | apply Jcb | apply Jcc | (apply Jcg; (first | exact Jaa rfl | exact Jab rfl); exact rfl))
    exact TR_of (res1 rfl rfl) ⟨rfl, rfl⟩
theorem shr_pow {n : Int} (k : Nat) (hk : k < 4) : n.fdiv (2 ^ (min (8 * (k : Int)).toNat IntKind.i64.bits)) = n / 256 ^ k := by
  rw [Int.fdiv_eq_ediv_of_nonneg _ (by exact Int.pow_nonneg (by omega))]
  congr 1
  match k, hk with
  | 0, _ | 1, _ | 2, _ | 3, _ => decide
set_option maxHeartbeats 1000000 in
theorem putNum_c {lo : Nat} {v : Value} {b : List UInt8} {n : Int} {k : Nat} {w : World} (ho : OB w lo w.heap.size v b) (hlo : lo ≤ w.heap.size) (hl : b.length ≤ 1048576) (hk : k ≤ 4) :
    Ret Tryz.prog 163 #[v, I n, I k] w fun v' w' => Ch (Iv lo w.heap.size) w w' ∧ OB w' lo w'.heap.size v' (b ++ putR n k) := by
  refine Ret_enter Tryz.func163 rfl rfl rfl ?_
  repeat' (first | apply Jbq | apply Jbr | apply Jbs | apply Jbt | apply Jby | (apply Jcg; (first | exact Jaa rfl | exact Jab rfl | exact Jap rfl rfl (by omega)); exact rfl))
  refine TC_loop (ι := Nat × List UInt8 × Value) (fun x => [(0, x.2.2), (1, I n), (7, I ((x.1 : Int) - 1))])
    (fun x w' => x.1 ≤ k ∧ x.2.1 ++ putR n x.1 = b ++ putR n k ∧ x.2.1.length + x.1 = b.length + k ∧ Ch (Iv lo w.heap.size) w w' ∧ OB w' lo w'.heap.size x.2.2 x.2.1) (fun x => x.1) (k, b, v) (subEnv_cons rfl (subEnv_cons rfl (subEnv_cons rfl (subEnv_nil _)))) ⟨Nat.le_refl _, rfl, rfl, Ch.refl _ _, ho⟩ ?_
  rintro ⟨m, acc, va⟩ w2 ⟨hm, heq, hlen, e2, ho2⟩
  simp only at hm heq hlen ho2
  repeat' (first | apply Jbq | apply Jbr | apply Jbs | apply Jbt | (apply Jcg; (first | exact Jaa rfl | exact Jao rfl rfl); exact rfl))
  refine Jcx rfl (fun hb => ?_) (fun hb => ?_)
  · obtain ⟨j, rfl⟩ : ∃ j, m = j + 1 := ⟨m - 1, by omega⟩
    rw [show ((j + 1 : Nat) : Int) - 1 = j by omega]
    repeat' (first | apply Jbr | apply Jbs | apply Jbt | apply Jby | apply Jbz | (apply Jcg; (first | exact Jaa rfl | exact Jaw Us.h Us.h rfl | exact Jbk rfl rfl (by omega)); exact rfl) | refine Jcg (Pu_shr rfl rfl (by omega)) rfl ?_)
    rw [shr_pow j (by omega)]
    skip
    refine TL_buildSlice Us.h Zi.h rfl rfl rfl rfl (fillu1 _) rfl rfl ?_
    intro w3 g e3 hg hz3 hown
    refine TL_appendB Us.h rfl rfl (ho2.ext e3) (OB_new (s := [_]) rfl hown hg hz3).rd (by have := e2.size; have := e3.size; omega) (by simp only [List.length_cons, List.length_nil]; omega) rfl ?_
    intro w4 v4 c4 ho4
    have hs2 := e2.size
    have hs3 := e3.size
    repeat' (first | apply Jbq | apply Jbr | apply Jbt | apply Jbx | (apply Jcg; (first | exact Jaa rfl | exact Jab rfl | exact Jap rfl rfl (by omega)); exact rfl))
    refine TN_round (j, acc ++ [pb (n / 256 ^ j)], v4) (subEnv_cons rfl (subEnv_cons rfl (subEnv_cons rfl (subEnv_nil _)))) ⟨by omega, ?_, by simp only [List.length_append, List.length_cons, List.length_nil]; omega, ?_, ho4⟩ (by simp only; omega)
    · rw [← heq, putR]; simp
    · exact (e2.ext e3).trans c4 (fun _ _ t => t) (fun i hi t => ⟨t.1, hi⟩)
  · obtain rfl : m = 0 := by omega
    simp only [putR, List.append_nil] at heq
    subst heq
    repeat' (first | apply Jbq | apply Jbr | apply Jbs | apply Jbt | apply Jbu | apply Jca | apply Jcb | apply Jcc | (apply Jcg; (first | exact Jaa rfl | exact Jab rfl); exact rfl))
    exact TR_of (res1 rfl rfl) ⟨e2, ho2⟩
theorem l01Pow_i {k : Int} (w : World) (hk : 0 ≤ k ∧ k ≤ 4) : Ret Tryz.prog 181 #[I k] w fun v w' => v = I (256 ^ k.toNat) ∧ w = w' := by
  obtain ⟨m, rfl⟩ := Int.eq_ofNat_of_zero_le hk.1
  exact l01Pow_c m w (by omega)
theorem pb_rem (x : Int) : UInt8.ofNat (x % 256 % 256).toNat = pb x := by unfold pb; rw [Int.emod_emod_of_dvd _ (Int.dvd_refl 256)]
theorem pPut_no {b : List UInt8} {n size : Int} (h : ¬ (1 ≤ size ∧ size ≤ 4 ∧ 0 ≤ n ∧ n < 256 ^ size.toNat ∧ (b.length : Int) + size ≤ 65536)) : pPut b n size = ([], false) := by unfold pPut; rw [if_neg h]
theorem pPut_yes {b : List UInt8} {n size : Int} (h : 1 ≤ size ∧ size ≤ 4 ∧ 0 ≤ n ∧ n < 256 ^ size.toNat ∧ (b.length : Int) + size ≤ 65536) : pPut b n size = (b ++ putR n size.toNat, true) := by unfold pPut; rw [if_pos h]
set_option maxHeartbeats 2000000 in
theorem specPutNum_k {lo hi : Nat} {vb : Value} {b : List UInt8} {n size : Int} {w : World} (hR : RB w lo hi vb b) (hl : b.length ≤ 1048576) :
    Ret Tryz.prog 166 #[vb, I n, I size] w fun v w' => ∃ v', v = .tuple #[v', .bool (pPut b n size).2] ∧ Ext w w' ∧ OB w' w.heap.size w'.heap.size v' (pPut b n size).1 := by
  have hr := hR
  obtain ⟨A, c, rfl, hc, _⟩ := hr
  refine Ret_enter Tryz.func166 rfl rfl rfl ?_
  by_cases h : 1 ≤ size ∧ size ≤ 4 ∧ 0 ≤ n ∧ n < 256 ^ size.toNat ∧ (b.length : Int) + size ≤ 65536
  · rw [pPut_yes h]
    obtain ⟨k, rfl⟩ := Int.eq_ofNat_of_zero_le (show 0 ≤ size by omega)
    rw [Int.toNat_natCast] at h ⊢
    have hk : k ≤ 4 := by omega
    have hp := pow4 k hk
    repeat' (first | apply Jbq | apply Jbr | apply Jbs | apply Jbt | apply Jbz | (apply Jcg; (first | exact Jaa rfl | exact Jab rfl | exact Jac Us.h rfl | exact Jad rfl rfl | exact Jai rfl rfl | exact Jam rfl rfl | exact Jao rfl rfl | exact Jap rfl rfl (by omega)); exact rfl) | refine Jch rfl rfl rfl ?_ | (refine TL_call rfl en181 (l01Pow_c k _ (by omega)) rfl rfl ?_; rintro _ _ ⟨rfl, rfl⟩) | (refine TL_buildSlice0 Us.h Sz.h rfl ?_; intro w1 g1 e1 hg1 hz1 hown1) | (refine Jcs rfl rfl (fun hb => ?_) (fun hb => ?_) <;> (try (exfalso; omega))) | (refine Jcx rfl (fun hb => ?_) (fun hb => ?_) <;> (try (exfalso; omega))))
    refine TL_appendB Us.h rfl rfl (OB_new (s := []) rfl hown1 hg1 hz1) (hR.ext e1) e1.size (by simp only [List.length_nil]; omega) rfl ?_
    intro w2 v2 c2 ho2
    have e2 := Ext.then_iv e1 c2 (Nat.le_refl _)
    have hz2 := e2.size
    rw [List.nil_append] at ho2
    repeat' (first | apply Jbq | apply Jbr | apply Jbs | apply Jbt | apply Jby | (apply Jcg; (first | exact Jaa rfl | exact Jab rfl | exact Jap rfl rfl (by omega)); exact rfl))
    refine TC_loop (ι := Nat × List UInt8 × Value) (fun x => [(1, I n), (8, x.2.2), (9, I ((x.1 : Int) - 1))])
      (fun x w' => x.1 ≤ k ∧ x.2.1 ++ putR n x.1 = b ++ putR n k ∧ x.2.1.length + x.1 = b.length + k ∧ Ext w w' ∧ OB w' w.heap.size w'.heap.size x.2.2 x.2.1) (fun x => x.1) (k, b, v2) (subEnv_cons rfl (subEnv_cons rfl (subEnv_cons rfl (subEnv_nil _)))) ⟨Nat.le_refl _, rfl, rfl, e2, ho2⟩ ?_
    rintro ⟨m, acc, va⟩ w3 ⟨hm, heq, hlen, e3, ho3⟩
    simp only at hm heq hlen ho3
    repeat' (first | apply Jbq | apply Jbr | apply Jbs | apply Jbt | (apply Jcg; (first | exact Jaa rfl | exact Jao rfl rfl); exact rfl))
    refine Jcx rfl (fun hb => ?_) (fun hb => ?_)
    · obtain ⟨j, rfl⟩ : ∃ j, m = j + 1 := ⟨m - 1, by omega⟩
      rw [show ((j + 1 : Nat) : Int) - 1 = j by omega]
      have hpj := pow4 j (by omega)
      have hq : 0 ≤ n / 256 ^ j := Int.ediv_nonneg (by omega) (by omega)
      repeat' (first | apply Jbr | apply Jbs | apply Jbt | apply Jby | apply Jbz | (apply Jcg; (first | exact Jaa rfl | exact Jaw Us.h Us.h rfl | exact Jbi rfl rfl (by omega) | exact Jbj rfl rfl (by omega)); exact rfl) | (refine TL_call rfl en181 (l01Pow_c j _ (by omega)) rfl rfl ?_; rintro _ _ ⟨rfl, rfl⟩))
      rw [pb_rem]
      refine TL_buildSlice Us.h Zi.h rfl rfl rfl rfl (fillu1 _) rfl rfl ?_
      intro w4 g4 e4 hg4 hz4 hown4
      refine TL_appendB Us.h rfl rfl (ho3.ext e4) (OB_new (s := [_]) rfl hown4 hg4 hz4).rd (by have := e3.size; have := e4.size; omega) (by simp only [List.length_cons, List.length_nil]; omega) rfl ?_
      intro w5 v5 c5 ho5
      repeat' (first | apply Jbq | apply Jbr | apply Jbt | apply Jbx | (apply Jcg; (first | exact Jaa rfl | exact Jab rfl | exact Jap rfl rfl (by omega)); exact rfl))
      refine TN_round (j, acc ++ [pb (n / 256 ^ j)], v5) (subEnv_cons rfl (subEnv_cons rfl (subEnv_cons rfl (subEnv_nil _)))) ⟨by omega, ?_, by simp only [List.length_append, List.length_cons, List.length_nil]; omega, Ext.then_iv (e3.ext e4) c5 (Nat.le_refl _), ho5⟩ (by simp only; omega)
      rw [← heq, putR]; simp
    · obtain rfl : m = 0 := by omega
      simp only [putR, List.append_nil] at heq
      subst heq
      repeat' (first | apply Jbq | apply Jbr | apply Jbs | apply Jbt | apply Jbu | apply Jca | apply Jcb | apply Jcc | (apply Jcg; (first | exact Jaa rfl | exact Jab rfl); exact rfl))
      exact TR_of (res2 rfl rfl rfl) ⟨_, rfl, e3, ho3⟩
  · rw [pPut_no h]
    repeat' (first | apply Jbq | apply Jbr | apply Jbs | apply Jbt | apply Jbu | apply Jbv | (refine Jce rfl ?_) | (apply Jcg; (first | exact Jaa rfl | exact Jab rfl | exact Jac Us.h rfl | exact Jad rfl rfl | exact Jah rfl rfl | exact Jai rfl rfl | exact Jam rfl rfl | exact Jao rfl rfl | exact Jap rfl rfl (by omega)); exact rfl) | refine Jch rfl rfl rfl ?_ | refine Jci rfl rfl rfl rfl rfl ?_ | (refine TL_call rfl en181 (l01Pow_i _ (by omega)) rfl rfl ?_; rintro _ _ ⟨rfl, rfl⟩) | (refine Jcs rfl rfl (fun hb => ?_) (fun hb => ?_) <;> (try (exfalso; omega))) | (refine Jcx rfl (fun hb => ?_) (fun hb => ?_) <;> (try (exfalso; omega))))
    all_goals exact TR_of (res2 rfl rfl rfl) ⟨_, rfl, Ch.refl _ _, OB.nil _ _ (Nat.le_refl _)⟩
theorem in_t {n lo hi : Int} (w : World) (h : lo ≤ n ∧ n ≤ hi) : Ret Tryz.prog 101 #[I n, I lo, I hi] w fun v w' => v = .bool true ∧ w = w' := (in_c n lo hi w).mono fun v w' ⟨h1, h2⟩ => ⟨by rw [h1]; simp [inB, h], h2⟩
theorem in_f {n lo hi : Int} (w : World) (h : ¬ (lo ≤ n ∧ n ≤ hi)) : Ret Tryz.prog 101 #[I n, I lo, I hi] w fun v w' => v = .bool false ∧ w = w' := (in_c n lo hi w).mono fun v w' ⟨h1, h2⟩ => ⟨by rw [h1]; unfold inB; rw [decide_eq_false h], h2⟩
theorem pGet_no {b : List UInt8} {a size : Int} (h : ¬ (1 ≤ size ∧ size ≤ 4 ∧ 0 ≤ a ∧ a ≤ b.length - size)) : pGet b a size = (0, false) := by unfold pGet; rw [if_neg h]
theorem pGet_yes {b : List UInt8} {a size : Int} (h : 1 ≤ size ∧ size ≤ 4 ∧ 0 ≤ a ∧ a ≤ b.length - size) : pGet b a size = (getF b a.toNat size.toNat, true) := by unfold pGet; rw [if_pos h]
theorem pow3 : ∀ k : Nat, k ≤ 3 → (256 : Int) ^ k ≤ 16777216
  | 0, _ => by decide
  | 1, _ => by decide
  | 2, _ => by decide
  | 3, _ => by decide
  | k + 4, h => by omega
theorem getF_bound (b : List UInt8) (a : Nat) {k : Nat} (hk : k < 4) : 0 ≤ getF b a k ∧ getF b a k < 16777216 := by
  have h := getF_lt b a k
  refine ⟨getF_nn b a k, ?_⟩
  have := pow3 k (by omega)
  omega
set_option maxHeartbeats 2000000 in
theorem specGetNum_k {lo hi : Nat} {vb : Value} {b : List UInt8} {a size : Int} {w : World} (hR : RB w lo hi vb b) (hl : b.length ≤ 1048576) :
    Ret Tryz.prog 179 #[vb, I a, I size] w fun v w' => v = .tuple #[I (pGet b a size).1, .bool (pGet b a size).2] ∧ Ext w w' := by
  obtain ⟨A, c, rfl, hc, hr⟩ := hR
  refine Ret_enter Tryz.func179 rfl rfl rfl ?_
  by_cases h : 1 ≤ size ∧ size ≤ 4 ∧ 0 ≤ a ∧ a ≤ b.length - size
  · rw [pGet_yes h]
    obtain ⟨k, rfl⟩ := Int.eq_ofNat_of_zero_le (show 0 ≤ size by omega)
    obtain ⟨a, rfl⟩ := Int.eq_ofNat_of_zero_le h.2.2.1
    rw [Int.toNat_natCast, Int.toNat_natCast] at *
    repeat' (first | apply Jbq | apply Jbr | apply Jbs | apply Jbt | apply Jby | apply Jbz | (apply Jcg; (first | exact Jaa rfl | exact Jab rfl | exact Jac Us.h rfl | exact Jad rfl rfl | exact Jai rfl rfl | exact Jam rfl rfl | exact Jap rfl rfl (by omega)); exact rfl) | refine Jch rfl rfl rfl ?_ | (refine Jcs rfl rfl (fun hb => ?_) (fun hb => ?_) <;> (try (exfalso; omega))) | (refine Jcx rfl (fun hb => ?_) (fun hb => ?_) <;> (try (exfalso; omega))))
    refine TC_loop (ι := Nat) (fun i => [(0, .slice A b.length c), (1, I a), (2, I k), (8, I (getF b a i)), (9, I i)]) (fun i w' => i ≤ k ∧ w = w') (fun i => k - i) 0 (subEnv_cons rfl (subEnv_cons rfl (subEnv_cons rfl (subEnv_cons rfl (subEnv_cons rfl (subEnv_nil _)))))) ⟨Nat.zero_le _, rfl⟩ ?_
    rintro i _ ⟨hi, rfl⟩
    repeat' (first | apply Jbq | apply Jbr | apply Jbs | apply Jbt | (apply Jcg; (first | exact Jaa rfl | exact Jad rfl rfl); exact rfl))
    refine Jcx rfl (fun hb => ?_) (fun hb => ?_)
    · obtain ⟨ad, rfl, hcell⟩ := hr.get (show a + i < b.length by omega)
      rw [u8s_get b (by omega)] at hcell
      have hg := getF_bound b a (k := i) (by omega)
      have hx := (b.getD (a + i) 0).toNat_lt
      repeat' (first | apply Jbq | apply Jbr | apply Jbs | apply Jbt | apply Jbx | apply Jby | apply Jbz | (apply Jcg; (first | exact Jaa rfl | exact Jab rfl | exact Jaf rfl rfl (by omega) | exact Jag Us.h Sz.h rfl rfl (by omega) | exact Jax Us.h Us.h rfl (by omega) | exact Jbk rfl rfl (by omega)); exact rfl) | refine Jcg (Pu_load Fl.h rfl (fun _ e => by rw [e]; exact hcell)) rfl ?_)
      exact TN_round (i + 1) (subEnv_cons rfl (subEnv_cons rfl (subEnv_cons rfl (subEnv_cons rfl (subEnv_cons rfl (subEnv_nil _)))))) ⟨by omega, rfl⟩ (by omega)
    · obtain rfl : i = k := by omega
      repeat' (first | apply Jbq | apply Jbr | apply Jbs | apply Jbt | apply Jbu | apply Jca | apply Jcb | apply Jcc | (apply Jcg; (first | exact Jaa rfl | exact Jab rfl); exact rfl))
      exact TR_of (res2 rfl rfl rfl) ⟨rfl, Ch.refl _ _⟩
  · rw [pGet_no h]
    repeat' (first | apply Jbq | apply Jbr | apply Jbs | apply Jbt | apply Jbu | apply Jbv | (refine Jce rfl ?_) | (apply Jcg; (first | exact Jaa rfl | exact Jab rfl | exact Jac Us.h rfl | exact Jad rfl rfl | exact Jah rfl rfl | exact Jai rfl rfl | exact Jam rfl rfl | exact Jap rfl rfl (by omega)); exact rfl) | refine Jch rfl rfl rfl ?_ | refine Jci rfl rfl rfl rfl rfl ?_ | (refine Jcs rfl rfl (fun hb => ?_) (fun hb => ?_) <;> (try (exfalso; omega))) | (refine Jcx rfl (fun hb => ?_) (fun hb => ?_) <;> (try (exfalso; omega))))
    all_goals exact TR_of (res2 rfl rfl rfl) ⟨rfl, Ch.refl _ _⟩
theorem bit_or8 (m : Int) (x : UInt8) (h0 : 0 ≤ m) (h1 : m < 16777216) : bitv .or .i64 (IntKind.i64.wrap (m * 2 ^ min (8 : Int).toNat IntKind.i64.bits)) (x.toNat : Int) = m * 256 + x.toNat := by
  have hx := x.toNat_lt
  obtain ⟨a, rfl⟩ := Int.eq_ofNat_of_zero_le h0
  have e1 : IntKind.i64.wrap ((a : Int) * 2 ^ min (8 : Int).toNat IntKind.i64.bits) = ((a * 256 : Nat) : Int) := by
    rw [show min (8 : Int).toNat IntKind.i64.bits = 8 from by decide, IntWalk.i64_in _ (by omega)]; omega
  rw [e1]
  have e3 : a * 256 ||| x.toNat = a * 256 + x.toNat := by
    have := Nat.shiftLeft_add_eq_or_of_lt (i := 8) (b := x.toNat) (by omega) a
    rw [Nat.shiftLeft_eq] at this
    exact this.symm
  have e2 : (BitVec.ofInt 64 ((a * 256 : Nat) : Int) ||| BitVec.ofInt 64 (x.toNat : Int)).toNat = a * 256 + x.toNat := by
    rw [BitVec.ofInt_natCast, BitVec.ofInt_natCast, BitVec.toNat_or, BitVec.toNat_ofNat, BitVec.toNat_ofNat, Nat.mod_eq_of_lt (by omega), Nat.mod_eq_of_lt (by omega), e3]
  show IntKind.i64.wrap (((BitVec.ofInt 64 ((a * 256 : Nat) : Int) ||| BitVec.ofInt 64 (x.toNat : Int)).toNat : Nat) : Int) = _
  rw [e2, IntWalk.i64_in _ (by omega)]; omega
set_option maxHeartbeats 2000000 in
theorem implGetNum_k {lo hi : Nat} {vb : Value} {b : List UInt8} {a size : Int} {w : World} (hR : RB w lo hi vb b) (hl : b.length ≤ 1048576) :
    Ret Tryz.prog 178 #[vb, I a, I size] w fun v w' => v = .tuple #[I (pGet b a size).1, .bool (pGet b a size).2] ∧ Ext w w' := by
  obtain ⟨A, c, rfl, hc, hr⟩ := hR
  refine Ret_enter Tryz.func178 rfl rfl rfl ?_
  by_cases hs : 1 ≤ size ∧ size ≤ 4
  · by_cases h : 0 ≤ a ∧ a ≤ b.length - size
    · rw [pGet_yes ⟨hs.1, hs.2, h⟩]
      obtain ⟨k, rfl⟩ := Int.eq_ofNat_of_zero_le (show 0 ≤ size by omega)
      obtain ⟨a, rfl⟩ := Int.eq_ofNat_of_zero_le h.1
      rw [Int.toNat_natCast, Int.toNat_natCast] at *
      have hm := Rd.mid8 (a := a) (b := a + k) hr (by omega) hc
      repeat' (first | apply Jbq | apply Jbr | apply Jbs | apply Jbt | apply Jby | apply Jbz | (apply Jcg; (first | exact Jaa rfl | exact Jab rfl | exact Jac Us.h rfl | exact Jad rfl rfl | exact Jaf rfl rfl (by omega) | exact Jai rfl rfl | exact Jaj rfl | exact Jam rfl rfl | exact Jap rfl rfl (by omega) | exact Jbc Us.h Sz.h rfl rfl rfl (by omega)); exact rfl) | refine Jch rfl rfl rfl ?_ | (refine TL_call rfl en101 (in_t _ hs) rfl rfl ?_; rintro _ _ ⟨rfl, rfl⟩) | (refine Jcx rfl (fun hb => ?_) (fun hb => ?_) <;> (try (exfalso; omega))))
      obtain ⟨t, ht⟩ : ∃ t, t = (b.take ((a : Int) + k).toNat).drop (a : Int).toNat := ⟨_, rfl⟩
      have hd : ((a : Int) + k).toNat - (a : Int).toNat = k := by omega
      have htl : t.length = k := by rw [ht, List.length_drop, List.length_take]; omega
      rw [hd, ← ht] at hm
      rw [hd]
      obtain ⟨A2, hA2⟩ : ∃ A2, A2 = cutA A c (a : Int).toNat 1 := ⟨_, rfl⟩
      rw [← hA2] at hm ⊢
      obtain ⟨c2, hc2⟩ : ∃ c2, c2 = c - (a : Int).toNat := ⟨_, rfl⟩
      rw [← hc2]
      skip
      refine TC_loop (ι := Nat) (fun i => [(31, .slice A2 k c2), (32, I k), (8, I (getF b a i)), (33, I i)]) (fun i w' => i ≤ k ∧ w = w') (fun i => k - i) 0 (subEnv_cons rfl (subEnv_cons rfl (subEnv_cons rfl (subEnv_cons rfl (subEnv_nil _))))) ⟨Nat.zero_le _, rfl⟩ ?_
      rintro i _ ⟨hi, rfl⟩
      repeat' (first | apply Jbq | apply Jbr | apply Jbs | apply Jbt | (apply Jcg; exact Jad rfl rfl; exact rfl))
      refine Jcx rfl (fun hb => ?_) (fun hb => ?_)
      · obtain ⟨ad, rfl, hcell⟩ := hm.get (show i < k by omega)
        rw [u8s_get t (by omega)] at hcell
        have hg := getF_bound b a (k := i) (by omega)
        have hx : t.getD i 0 = b.getD (a + i) 0 := by
          rw [ht, List.getD_eq_getElem?_getD, List.getElem?_drop, List.getElem?_take_of_lt (by omega), List.getD_eq_getElem?_getD, Int.toNat_natCast]
        rw [hx] at hcell
        have hx2 := (b.getD (a + i) 0).toNat_lt
        repeat' (first | apply Jbq | apply Jbr | apply Jbs | apply Jbt | apply Jbx | apply Jby | apply Jbz | (apply Jcg; (first | exact Jaa rfl | exact Jab rfl | exact Jaf rfl rfl (by omega) | exact Jag Us.h Sz.h rfl rfl (by omega) | exact Jax Us.h Us.h rfl (by omega)); exact rfl) | refine Jcg (Pu_load Fl.h rfl (fun _ e => by rw [e]; exact hcell)) rfl ?_ | (refine Jcg (Pu_shl rfl rfl (by omega)) rfl ?_) | (refine Jcg (Pu_or rfl rfl) rfl ?_))
        rw [bit_or8 _ _ hg.1 hg.2]
        exact TN_round (i + 1) (subEnv_cons rfl (subEnv_cons rfl (subEnv_cons rfl (subEnv_cons rfl (subEnv_nil _))))) ⟨by omega, rfl⟩ (by omega)
      · obtain rfl : i = k := by omega
        repeat' (first | apply Jbq | apply Jbr | apply Jbs | apply Jbt | apply Jbu | apply Jca | apply Jcb | apply Jcc | (apply Jcg; (first | exact Jaa rfl | exact Jab rfl); exact rfl))
        exact TR_of (res2 rfl rfl rfl) ⟨rfl, Ch.refl _ _⟩
    · rw [pGet_no (fun q => h q.2.2)]
      repeat' (first | apply Jbq | apply Jbr | apply Jbs | apply Jbt | apply Jbu | apply Jbv | (refine Jce rfl ?_) | (apply Jcg; (first | exact Jaa rfl | exact Jab rfl | exact Jac Us.h rfl | exact Jad rfl rfl | exact Jah rfl rfl | exact Jai rfl rfl | exact Jaj rfl | exact Jam rfl rfl | exact Jap rfl rfl (by omega)); exact rfl) | refine Jch rfl rfl rfl ?_ | refine Jci rfl rfl rfl rfl rfl ?_ | (refine TL_call rfl en101 (in_t _ hs) rfl rfl ?_; rintro _ _ ⟨rfl, rfl⟩) | (refine Jcs rfl rfl (fun hb => ?_) (fun hb => ?_) <;> (try (exfalso; omega))) | (refine Jcx rfl (fun hb => ?_) (fun hb => ?_) <;> (try (exfalso; omega))))
      all_goals exact TR_of (res2 rfl rfl rfl) ⟨rfl, Ch.refl _ _⟩
  · rw [pGet_no (fun q => hs ⟨q.1, q.2.1⟩)]
    repeat' (first | apply Jbq | apply Jbr | apply Jbs | apply Jbt | apply Jbu | apply Jbv | (refine Jce rfl ?_) | (apply Jcg; (first | exact Jaa rfl | exact Jab rfl | exact Jah rfl rfl | exact Jaj rfl); exact rfl) | refine Jci rfl rfl rfl rfl rfl ?_ | (refine TL_call rfl en101 (in_f _ hs) rfl rfl ?_; rintro _ _ ⟨rfl, rfl⟩))
    all_goals exact TR_of (res2 rfl rfl rfl) ⟨rfl, Ch.refl _ _⟩
end Go.Proofs.YtggaghghclomkaaGreat

/- Operations on a disk: their values, the laws' helpers on them, whether they are right. -/
namespace Go.Proofs.YtggaghghclomkaaGreat
open Go.RowKit
attribute [local irreducible] TL TC TN TX TR TQ TA Pu Ret

structure OpD where
  kind : Int
  name : List UInt8
  to : List UInt8
  size : Int
  data : List UInt8
def opC (o : OpD) (v : Value) : List Value := [I o.kind, S o.name, S o.to, I o.size, v]
def OpD.fits (o : OpD) : Prop := (-9223372036854775808 ≤ o.kind ∧ o.kind ≤ 9223372036854775807) ∧ (-9223372036854775808 ≤ o.size ∧ o.size ≤ 9223372036854775807) ∧ o.name.length ≤ 9223372036854775807 ∧ o.to.length ≤ 9223372036854775807
def pOp (o : OpD) : Bool :=
  decide (1 ≤ o.kind ∧ o.kind ≤ 7) && (if o.kind = 7 then decide (o.name = []) else pName o.name) && (if o.kind = 5 then pName o.to else decide (o.to = [])) &&
    (if o.kind = 4 then decide (0 ≤ o.size ∧ o.size ≤ 60000) else decide (o.size = 0)) && decide (o.data.length ≤ 60000 ∧ (o.kind = 2 ∨ o.data.length = 0))
set_option maxRecDepth 100000 in
set_option maxHeartbeats 8000000 in
theorem specOpOk_c {w : World} {lo hi : Nat} {v : Value} {o : OpD} (h : RB w lo hi v o.data) (hf : o.fits) :
    Ret Tryz.prog 82 #[.agg (opC o v).toArray] w fun v' w' => v' = .bool (pOp o) ∧ Ext w w' := by
  obtain ⟨_, _, hn, ht⟩ := hf
  obtain ⟨kind, name, to, size, data⟩ := o
  simp only at hn ht h
  obtain ⟨A, c, rfl, _, _⟩ := h
  refine Ret_enter Tryz.func82 rfl rfl rfl ?_
  repeat' (first | apply Jbs | apply Jbt)
  refine TL_box (cs := opC ⟨kind, name, to, size, data⟩ (.slice A data.length c)) rfl rfl ?_
  intro w1 g e1 hg hz hbk
  clear hg hz
  repeat' (first | apply Jbq | apply Jbr | apply Jbs | apply Jbt | apply Jbu | apply Jbv | apply Jbz | (refine Jce rfl ?_) | (refine Jcf rfl ?_) | (apply Jcg; (first | exact Jaa rfl | exact Jab rfl | exact Jac Us.h rfl | exact Jad rfl rfl | exact Jah rfl rfl | exact Jai rfl rfl | exact Jaj rfl | exact Jak rfl rfl | exact Jal rfl rfl | exact Jam rfl rfl | exact Jan rfl rfl | exact Jat rfl rfl | (apply Jbl; exact Us.h; exact rfl; exact Sz.h; exact rfl)); exact rfl) | refine Jch rfl rfl rfl ?_ | refine Jci rfl rfl rfl rfl rfl ?_ | refine Jcj rfl rfl rfl rfl ?_ | refine Jcg (Pu_load Fl.h rfl (fun _ e => by rw [e]; exact hbk.ld rfl)) rfl ?_ | (refine TL_call rfl en131 (specNameOk_c _ _ (by assumption)) rfl rfl ?_; rintro _ _ ⟨rfl, rfl⟩) | (refine Jcs rfl rfl (fun hb => ?_) (fun hb => ?_) <;> (try (exfalso; omega))) | (refine Jct rfl rfl (fun hb => ?_) (fun hb => ?_) <;> (try (exfalso; omega))) | refine Jcr rfl rfl (fun hb => ?_) (fun hb => ?_) | (refine Jcx rfl (fun hb => ?_) (fun hb => ?_) <;> (try (exfalso; omega))) | (refine Jcy rfl (fun hb => ?_) (fun hb => ?_) <;> (try (exfalso; omega))) | refine Jcz rfl (fun hb => ?_) (fun hb => ?_))
  all_goals (refine TR_of (res1 rfl rfl) ⟨boolv ?_, e1⟩; clear hbk e1; simp only [pOp]; generalize data.length = n at *; simp_all; try omega)
set_option maxRecDepth 100000 in
set_option maxHeartbeats 8000000 in
theorem implOpOk_c {w : World} {lo hi : Nat} {v : Value} {o : OpD} (h : RB w lo hi v o.data) (hf : o.fits) :
    Ret Tryz.prog 92 #[.agg (opC o v).toArray] w fun v' w' => v' = .bool (pOp o) ∧ Ext w w' := by
  obtain ⟨_, _, hn, ht⟩ := hf
  obtain ⟨kind, name, to, size, data⟩ := o
  simp only at hn ht h
  obtain ⟨A, c, rfl, _, _⟩ := h
  refine Ret_enter Tryz.func92 rfl rfl rfl ?_
  repeat' (first | apply Jbs | apply Jbt)
  refine TL_box (cs := opC ⟨kind, name, to, size, data⟩ (.slice A data.length c)) rfl rfl ?_
  intro w1 g e1 hg hz hbk
  clear hg hz
  repeat' (first | apply Jbq | apply Jbr | apply Jbs | apply Jbt | apply Jbu | apply Jbv | apply Jbz | (refine Jce rfl ?_) | (refine Jcf rfl ?_) | (apply Jcg; (first | exact Jaa rfl | exact Jab rfl | exact Jac Us.h rfl | exact Jah rfl rfl | exact Jai rfl rfl | exact Jaj rfl | exact Jak rfl rfl | exact Jal rfl rfl | exact Jan rfl rfl | exact Jat rfl rfl | (apply Jbl; exact Us.h; exact rfl; exact Sz.h; exact rfl)); exact rfl) | refine Jch rfl rfl rfl ?_ | refine Jci rfl rfl rfl rfl rfl ?_ | refine Jcj rfl rfl rfl rfl ?_ | refine Jcg (Pu_load Fl.h rfl (fun _ e => by rw [e]; exact hbk.ld rfl)) rfl ?_ | (refine TL_call rfl en139 (implNameOk_c _ _ (by assumption)) rfl rfl ?_; rintro _ _ ⟨rfl, rfl⟩) | (refine TL_call rfl en101 (in_c _ _ _ _) rfl rfl ?_; rintro _ _ ⟨rfl, rfl⟩) | (refine Jcs rfl rfl (fun hb => ?_) (fun hb => ?_) <;> (try (exfalso; omega))) | (refine Jct rfl rfl (fun hb => ?_) (fun hb => ?_) <;> (try (exfalso; omega))) | refine Jcr rfl rfl (fun hb => ?_) (fun hb => ?_) | (refine Jcy rfl (fun hb => ?_) (fun hb => ?_) <;> (try (exfalso; omega))) | refine Jcz rfl (fun hb => ?_) (fun hb => ?_))
  all_goals (refine TR_of (res1 rfl rfl) ⟨boolv ?_, e1⟩; clear hbk e1; simp only [pOp]; generalize data.length = n at *; simp_all; try omega)
end Go.Proofs.YtggaghghclomkaaGreat

/- Rows whose elements are several cells. No condition. -/
namespace Go.Proofs.YtggaghghclomkaaGreat
open Go.RowKit

def setL : List Value → Nat → List Value → List Value
  | xs, _, [] => xs
  | xs, o, v :: r => setL (xs.set o v) (o + 1) r
section
variable {w w' : World} {lo hi size m c g : Nat} {e : TypeId} {xs : List Value}
theorem Own.storedL : ∀ (us : List Value) (off : Nat) (w : World) (xs : List Value), Own w lo hi e size (some ⟨g, 0, none⟩) m c xs → Own (w.setCells g off us) lo hi e size (some ⟨g, 0, none⟩) m c (setL xs off us) ∧ Ch (Iv g (g + 1)) w (w.setCells g off us) ∧ (w.setCells g off us).heap.size = w.heap.size
  | [], off, w, xs, h => ⟨h, Ch.refl _ _, rfl⟩
  | v :: r, off, w, xs, h => by
    have h1 : Own (w.setCell ⟨g, off, none⟩ v) lo hi e size (some ⟨g, 0, none⟩) m c (xs.set off v) := ⟨by simpa using h.hi_le, (h.row.stored off v).1, h.lt⟩
    have c1 : Ch (Iv g (g + 1)) w (w.setCell ⟨g, off, none⟩ v) := ⟨rfl, rfl, rfl, by simp, fun k _ hk => heap_setCell_other w ⟨g, off, none⟩ k v (fun e => hk (by simp [Iv, e]))⟩
    obtain ⟨h2, c2, z2⟩ := Own.storedL r (off + 1) _ _ h1
    exact ⟨h2, c1.then c2, by rw [show (w.setCells g off (v :: r)) = (w.setCell ⟨g, off, none⟩ v).setCells g (off + 1) r from rfl, z2]; simp⟩
end
section
variable {P : Program} {L : List Oper} {Q : Exit → Act → World → Prop} {n : Nat} {l : Env} {w : World} {rest : List Oper} {ty t e : TypeId} {pos : String} {af : Array Edge} {x y : Operand}
/-- A value of several cells goes into an own row. -/
theorem TL_storeOwnAgg {g lo hi m c size off : Nat} {xs us : List Value} {ad : Addr} (hx : ev l x = some (.pointer (some ad))) (had : ad = ⟨g, off, none⟩) (hy : ev l y = some (.agg us.toArray)) (hz : (P.info? t).map (·.size) = some us.length) (hv : us.all (·.oneCell') = true)
    (ho : Own w lo hi e size (some ⟨g, 0, none⟩) m c xs) (hoff : off + us.length ≤ m * size)
    (h : ∀ w', Ch (Iv g (g + 1)) w w' → w'.heap.size = w.heap.size → Own w' lo hi e size (some ⟨g, 0, none⟩) m c (setL xs off us) → TL P L Q rest n l w') :
    TL P L Q (⟨none, .store t x y, ty, pos, af, none⟩ :: rest) n l w := by
  subst had
  have hlen := ho.len
  obtain ⟨h1, h2, h3⟩ := Own.storedL us off w xs ho
  refine TL_skipped (w' := w.setCells g off us) rfl rfl (fun a ha => ?_) (h _ h2 h3 h1)
  have := run_storeAt_mid (P := P) w g off t us.toArray (fun j hj => ⟨by rw [ho.row.cellAt (off + j) (by simp at hj; omega), List.getElem?_eq_getElem (by simp at hj; omega)]; rfl, ho.row.frozenAt _⟩) (by simpa using hz) (by simpa using hv)
  simp [execOp, ha.eval hx, ha.eval hy, this]
end
/-- The cells of a list of elements, each of as many cells. -/
def cellsL {α : Type} (f : α → List Value) (l : List α) : List Value := l.flatMap f
theorem cellsL_length {α : Type} {f : α → List Value} {s : Nat} (hf : ∀ a, (f a).length = s) : ∀ l : List α, (cellsL f l).length = l.length * s
  | [] => by simp [cellsL]
  | a :: l => by
    have := cellsL_length hf l
    simp only [cellsL, List.flatMap_cons, List.length_append, List.length_cons, hf] at *
    rw [this, Nat.succ_mul]; omega
theorem cellsL_at {α : Type} {f : α → List Value} {s : Nat} (hf : ∀ a, (f a).length = s) : ∀ (l : List α) (k j : Nat) (h : k < l.length), j < s → (cellsL f l)[k * s + j]? = (f l[k])[j]?
  | [], k, j, h, _ => by simp at h
  | a :: l, 0, j, h, hj => by
    simp only [cellsL, List.flatMap_cons, Nat.zero_mul, Nat.zero_add]
    rw [List.getElem?_append_left (by rw [hf]; exact hj)]; rfl
  | a :: l, k + 1, j, h, hj => by
    have ih := cellsL_at hf l k j (by simpa using h) hj
    simp only [cellsL, List.flatMap_cons] at *
    rw [List.getElem?_append_right (by rw [hf, Nat.succ_mul]; omega), hf, show (k + 1) * s + j - s = k * s + j by rw [Nat.succ_mul]; omega, ih]
    rfl
theorem cellsL_take {α : Type} {f : α → List Value} {s : Nat} (hf : ∀ a, (f a).length = s) : ∀ (l : List α) (k : Nat), (cellsL f l).take (k * s) = cellsL f (l.take k)
  | [], k => by simp [cellsL]
  | a :: l, 0 => by simp [cellsL]
  | a :: l, k + 1 => by
    have ih := cellsL_take hf l k
    simp only [cellsL, List.flatMap_cons, List.take_succ_cons] at *
    rw [List.take_append, hf, List.take_of_length_le (by rw [hf, Nat.succ_mul]; omega), show (k + 1) * s - s = k * s by rw [Nat.succ_mul]; omega, ih]
theorem cellsL_drop {α : Type} {f : α → List Value} {s : Nat} (hf : ∀ a, (f a).length = s) : ∀ (l : List α) (k : Nat), (cellsL f l).drop (k * s) = cellsL f (l.drop k)
  | [], k => by simp [cellsL]
  | a :: l, 0 => by simp [cellsL]
  | a :: l, k + 1 => by
    have ih := cellsL_drop hf l k
    simp only [cellsL, List.flatMap_cons, List.drop_succ_cons] at *
    rw [List.drop_append, hf, List.drop_eq_nil_of_le (by rw [hf, Nat.succ_mul]; omega), show (k + 1) * s - s = k * s by rw [Nat.succ_mul]; omega, ih, List.nil_append]
theorem cellsL_append {α : Type} {f : α → List Value} (l m : List α) : cellsL f (l ++ m) = cellsL f l ++ cellsL f m := by simp [cellsL]
theorem cellsL_one {α : Type} {f : α → List Value} (hf : ∀ a, ∀ u ∈ f a, u.oneCell' = true) (l : List α) : ∀ u ∈ cellsL f l, u.oneCell' = true := by
  intro u hu
  simp only [cellsL, List.mem_flatMap] at hu
  obtain ⟨a, _, h⟩ := hu
  exact hf a u h
theorem Rd.elem {α : Type} {w : World} {lo hi s : Nat} {A : Option Addr} {f : α → List Value} {l : List α} (hf : ∀ a, (f a).length = s) (h : Rd w lo hi s A l.length (cellsL f l)) {k : Nat} (hk : k < l.length) :
    ∃ ad, A = some ad ∧ ∀ j u, (f l[k])[j]? = some u → w.cell? ((ad.add (k * s)).add j) = some u := by
  obtain ⟨ad, e, _, _, hc⟩ := h.at_ (by omega)
  refine ⟨ad, e, fun j u hu => ?_⟩
  have hj : j < s := by have := (List.getElem?_eq_some_iff.1 hu).1; rwa [hf] at this
  rw [add_of_add]
  exact hc _ u (by rw [cellsL_at hf l k j hk hj]; exact hu)
end Go.Proofs.YtggaghghclomkaaGreat

/- Nodes, links and turns of a disk that can be read, and the laws' helpers on them. -/
namespace Go.Proofs.YtggaghghclomkaaGreat
open Go.RowKit
attribute [local irreducible] TL TC TN TX TR TQ TA Pu Ret

theorem setL_app : ∀ (us ys zs : List Value) (o : Nat), ys.length = o → us.length ≤ zs.length → setL (ys ++ zs) o us = ys ++ us ++ zs.drop us.length
  | [], ys, zs, o, _, _ => by simp [setL]
  | v :: r, ys, [], o, _, h => by simp at h
  | v :: r, ys, z :: zs, o, ho, h => by
    subst ho
    rw [setL, List.set_append_right _ _ (Nat.le_refl _), Nat.sub_self, List.set_cons_zero, show ys ++ v :: zs = (ys ++ [v]) ++ zs by simp, setL_app r (ys ++ [v]) zs _ (by simp) (by simpa using h)]
    simp
/-- A node's value: its contents and the slices that bear them. -/
structure Nd where
  id : Int
  body : List UInt8
  safe : List UInt8
  vb : Value
  vs : Value
abbrev NodeP := Int × List UInt8 × List UInt8
def NdC (d : Nd) : List Value := [I d.id, d.vb, d.vs]
def NdP (d : Nd) : NodeP := (d.id, d.body, d.safe)
def NdOk (w : World) (lo hi : Nat) (d : Nd) : Prop := RB w lo hi d.vb d.body ∧ RB w lo hi d.vs d.safe
def NdW (p : NodeP) : Int := p.2.1.length + p.2.2.length
def NdFit (p : NodeP) : Prop := p.2.1.length ≤ 9223372036854775807 ∧ p.2.2.length ≤ 9223372036854775807
structure LkD where
  name : List UInt8
  id : Int
abbrev LinkP := LkD
def LkC (d : LkD) : List Value := [S d.name, I d.id]
def LkP (d : LkD) : LinkP := d
def LkOk (_w : World) (_lo _hi : Nat) (_d : LkD) : Prop := True
def LkW (p : LinkP) : Int := p.name.length
def LkFit (p : LinkP) : Prop := p.name.length ≤ 9223372036854775807 ∧ (-9223372036854775808 ≤ p.id ∧ p.id ≤ 9223372036854775807)
structure TnD where
  kind : Int
  name : List UInt8
  to : List UInt8
  id : Int
abbrev TurnP := TnD
def TnC (d : TnD) : List Value := [I d.kind, S d.name, S d.to, I d.id]
def TnP (d : TnD) : TurnP := d
def TnOk (_w : World) (_lo _hi : Nat) (_d : TnD) : Prop := True
def TnW (p : TurnP) : Int := p.name.length + p.to.length
def TnFit (p : TurnP) : Prop := p.name.length ≤ 9223372036854775807 ∧ p.to.length ≤ 9223372036854775807 ∧ (-9223372036854775808 ≤ p.id ∧ p.id ≤ 9223372036854775807)
theorem NdOk.ch {w w' : World} {lo hi : Nat} {d : Nd} {T : Nat → Prop} (h : NdOk w lo hi d) (c : Ch T w w') (hd : ∀ k, lo ≤ k → k < hi → ¬ T k) : NdOk w' lo hi d := ⟨h.1.ch c hd, h.2.ch c hd⟩
theorem LkOk.ch {w w' : World} {lo hi : Nat} {d : LkD} {T : Nat → Prop} (_h : LkOk w lo hi d) (_c : Ch T w w') (_hd : ∀ k, lo ≤ k → k < hi → ¬ T k) : LkOk w' lo hi d := trivial
theorem TnOk.ch {w w' : World} {lo hi : Nat} {d : TnD} {T : Nat → Prop} (_h : TnOk w lo hi d) (_c : Ch T w w') (_hd : ∀ k, lo ≤ k → k < hi → ¬ T k) : TnOk w' lo hi d := trivial
theorem RB.wide {w : World} {lo hi lo' hi' : Nat} {v : Value} {s : List UInt8} (h : RB w lo hi v s) (h1 : lo' ≤ lo) (h2 : hi ≤ hi') (h3 : hi' ≤ w.heap.size) : RB w lo' hi' v s := by
  obtain ⟨A, c, e, hc, hr⟩ := h
  exact ⟨A, c, e, hc, hr.wide h1 h2 h3⟩
theorem NdOk.wide {w : World} {lo hi lo' hi' : Nat} {d : Nd} (h : NdOk w lo hi d) (h1 : lo' ≤ lo) (h2 : hi ≤ hi') (h3 : hi' ≤ w.heap.size) : NdOk w lo' hi' d := ⟨h.1.wide h1 h2 h3, h.2.wide h1 h2 h3⟩
theorem LkOk.wide {w : World} {lo hi lo' hi' : Nat} {d : LkD} (_h : LkOk w lo hi d) (_h1 : lo' ≤ lo) (_h2 : hi ≤ hi') (_h3 : hi' ≤ w.heap.size) : LkOk w lo' hi' d := trivial
theorem TnOk.wide {w : World} {lo hi lo' hi' : Nat} {d : TnD} (_h : TnOk w lo hi d) (_h1 : lo' ≤ lo) (_h2 : hi ≤ hi') (_h3 : hi' ≤ w.heap.size) : TnOk w lo' hi' d := trivial
theorem RB.one {w : World} {lo hi : Nat} {v : Value} {s : List UInt8} (h : RB w lo hi v s) : v.oneCell' = true := by obtain ⟨A, c, rfl, _⟩ := h; rfl
theorem NdOk.one {w : World} {lo hi : Nat} {d : Nd} (h : NdOk w lo hi d) : (NdC d).all (·.oneCell') = true := by
  simp only [NdC, List.all_cons, List.all_nil, h.1.one, h.2.one]; rfl
theorem LkOk.one {w : World} {lo hi : Nat} {d : LkD} (_h : LkOk w lo hi d) : (LkC d).all (·.oneCell') = true := rfl
theorem TnOk.one {w : World} {lo hi : Nat} {d : TnD} (_h : TnOk w lo hi d) : (TnC d).all (·.oneCell') = true := rfl
end Go.Proofs.YtggaghghclomkaaGreat

/- Lists of nodes, links and turns that can be read, and the laws' helpers on them. -/
namespace Go.Proofs.YtggaghghclomkaaGreat
open Go.RowKit
attribute [local irreducible] TL TC TN TX TR TQ TA Pu Ret

/-! lists of Node -/
theorem NdC_len (d : Nd) : (NdC d).length = 3 := rfl
def totNd (l : List NodeP) : Int := (l.map NdW).sum
theorem NdW_nn (p : NodeP) : 0 ≤ NdW p := by unfold NdW; omega
theorem totNd_nn (l : List NodeP) : 0 ≤ totNd l := by
  induction l with
  | nil => simp [totNd]
  | cons a l ih => have := NdW_nn a; simp only [totNd, List.map_cons, List.sum_cons] at *; omega
theorem totNd_mem {l : List NodeP} {p : NodeP} (h : p ∈ l) : NdW p ≤ totNd l := by
  induction l with
  | nil => cases h
  | cons a l ih =>
    have := totNd_nn l
    have := NdW_nn a
    simp only [totNd, List.map_cons, List.sum_cons] at *
    rcases List.mem_cons.1 h with rfl | h
    · omega
    · have := ih h; omega
def RN (w : World) (lo hi : Nat) (v : Value) (l : List NodeP) : Prop := ∃ (ds : List Nd) (A : Option Addr) (c : Nat), ds.map NdP = l ∧ v = .slice A ds.length c ∧ ds.length ≤ c ∧ Rd w lo hi 3 A ds.length (cellsL NdC ds) ∧ ∀ d ∈ ds, NdOk w lo hi d
theorem RN.ch {w w' : World} {lo hi : Nat} {v : Value} {l : List NodeP} {T : Nat → Prop} (h : RN w lo hi v l) (c : Ch T w w') (hd : ∀ k, lo ≤ k → k < hi → ¬ T k) : RN w' lo hi v l := by
  obtain ⟨ds, A, cc, h1, h2, h3, h4, h5⟩ := h
  exact ⟨ds, A, cc, h1, h2, h3, h4.ch c hd, fun d hm => (h5 d hm).ch c hd⟩
theorem RN.ext {w w' : World} {lo hi : Nat} {v : Value} {l : List NodeP} (h : RN w lo hi v l) (c : Ext w w') : RN w' lo hi v l := h.ch c (fun _ _ _ t => t)
theorem RN.one {w : World} {lo hi : Nat} {v : Value} {l : List NodeP} (h : RN w lo hi v l) : v.oneCell' = true := by obtain ⟨_, _, _, _, rfl, _⟩ := h; rfl
theorem RN.wide {w : World} {lo hi lo' hi' : Nat} {v : Value} {l : List NodeP} (h : RN w lo hi v l) (h1 : lo' ≤ lo) (h2 : hi ≤ hi') (h3 : hi' ≤ w.heap.size) : RN w lo' hi' v l := by
  obtain ⟨ds, A, cc, g1, g2, g3, g4, g5⟩ := h
  exact ⟨ds, A, cc, g1, g2, g3, g4.wide h1 h2 h3, fun d hm => (g5 d hm).wide h1 h2 h3⟩
end Go.Proofs.YtggaghghclomkaaGreat

/- Lists of nodes, links and turns that can be read, and the laws' helpers on them. -/
namespace Go.Proofs.YtggaghghclomkaaGreat
open Go.RowKit
attribute [local irreducible] TL TC TN TX TR TQ TA Pu Ret

/-! lists of Link -/
theorem LkC_len (d : LkD) : (LkC d).length = 2 := rfl
def totLk (l : List LinkP) : Int := (l.map LkW).sum
theorem LkW_nn (p : LinkP) : 0 ≤ LkW p := by unfold LkW; omega
theorem totLk_nn (l : List LinkP) : 0 ≤ totLk l := by
  induction l with
  | nil => simp [totLk]
  | cons a l ih => have := LkW_nn a; simp only [totLk, List.map_cons, List.sum_cons] at *; omega
def RK (w : World) (lo hi : Nat) (v : Value) (l : List LinkP) : Prop := ∃ (ds : List LkD) (A : Option Addr) (c : Nat), ds.map LkP = l ∧ v = .slice A ds.length c ∧ ds.length ≤ c ∧ Rd w lo hi 2 A ds.length (cellsL LkC ds) ∧ ∀ d ∈ ds, LkOk w lo hi d
theorem RK.ch {w w' : World} {lo hi : Nat} {v : Value} {l : List LinkP} {T : Nat → Prop} (h : RK w lo hi v l) (c : Ch T w w') (hd : ∀ k, lo ≤ k → k < hi → ¬ T k) : RK w' lo hi v l := by
  obtain ⟨ds, A, cc, h1, h2, h3, h4, h5⟩ := h
  exact ⟨ds, A, cc, h1, h2, h3, h4.ch c hd, fun d hm => (h5 d hm).ch c hd⟩
theorem RK.ext {w w' : World} {lo hi : Nat} {v : Value} {l : List LinkP} (h : RK w lo hi v l) (c : Ext w w') : RK w' lo hi v l := h.ch c (fun _ _ _ t => t)
theorem RK.one {w : World} {lo hi : Nat} {v : Value} {l : List LinkP} (h : RK w lo hi v l) : v.oneCell' = true := by obtain ⟨_, _, _, _, rfl, _⟩ := h; rfl
theorem RK.wide {w : World} {lo hi lo' hi' : Nat} {v : Value} {l : List LinkP} (h : RK w lo hi v l) (h1 : lo' ≤ lo) (h2 : hi ≤ hi') (h3 : hi' ≤ w.heap.size) : RK w lo' hi' v l := by
  obtain ⟨ds, A, cc, g1, g2, g3, g4, g5⟩ := h
  exact ⟨ds, A, cc, g1, g2, g3, g4.wide h1 h2 h3, fun d hm => (g5 d hm).wide h1 h2 h3⟩
end Go.Proofs.YtggaghghclomkaaGreat

/- Lists of nodes, links and turns that can be read, and the laws' helpers on them. -/
namespace Go.Proofs.YtggaghghclomkaaGreat
open Go.RowKit
attribute [local irreducible] TL TC TN TX TR TQ TA Pu Ret

/-! lists of Turn -/
theorem TnC_len (d : TnD) : (TnC d).length = 4 := rfl
def totTn (l : List TurnP) : Int := (l.map TnW).sum
theorem TnW_nn (p : TurnP) : 0 ≤ TnW p := by unfold TnW; omega
theorem totTn_nn (l : List TurnP) : 0 ≤ totTn l := by
  induction l with
  | nil => simp [totTn]
  | cons a l ih => have := TnW_nn a; simp only [totTn, List.map_cons, List.sum_cons] at *; omega
def RT (w : World) (lo hi : Nat) (v : Value) (l : List TurnP) : Prop := ∃ (ds : List TnD) (A : Option Addr) (c : Nat), ds.map TnP = l ∧ v = .slice A ds.length c ∧ ds.length ≤ c ∧ Rd w lo hi 4 A ds.length (cellsL TnC ds) ∧ ∀ d ∈ ds, TnOk w lo hi d
theorem RT.ch {w w' : World} {lo hi : Nat} {v : Value} {l : List TurnP} {T : Nat → Prop} (h : RT w lo hi v l) (c : Ch T w w') (hd : ∀ k, lo ≤ k → k < hi → ¬ T k) : RT w' lo hi v l := by
  obtain ⟨ds, A, cc, h1, h2, h3, h4, h5⟩ := h
  exact ⟨ds, A, cc, h1, h2, h3, h4.ch c hd, fun d hm => (h5 d hm).ch c hd⟩
theorem RT.ext {w w' : World} {lo hi : Nat} {v : Value} {l : List TurnP} (h : RT w lo hi v l) (c : Ext w w') : RT w' lo hi v l := h.ch c (fun _ _ _ t => t)
theorem RT.one {w : World} {lo hi : Nat} {v : Value} {l : List TurnP} (h : RT w lo hi v l) : v.oneCell' = true := by obtain ⟨_, _, _, _, rfl, _⟩ := h; rfl
theorem RT.wide {w : World} {lo hi lo' hi' : Nat} {v : Value} {l : List TurnP} (h : RT w lo hi v l) (h1 : lo' ≤ lo) (h2 : hi ≤ hi') (h3 : hi' ≤ w.heap.size) : RT w lo' hi' v l := by
  obtain ⟨ds, A, cc, g1, g2, g3, g4, g5⟩ := h
  exact ⟨ds, A, cc, g1, g2, g3, g4.wide h1 h2 h3, fun d hm => (g5 d hm).wide h1 h2 h3⟩
end Go.Proofs.YtggaghghclomkaaGreat

/- Disks that can be read, and the laws' helpers on them. -/
namespace Go.Proofs.YtggaghghclomkaaGreat
open Go.RowKit
attribute [local irreducible] TL TC TN TX TR TQ TA Pu Ret

structure DiskP where
  room : Int
  fuse : Int
  next : Int
  nodes : List NodeP
  kept : List LinkP
  turns : List TurnP
def dskC (d : DiskP) (sn sk st : Value) : List Value := [I d.room, I d.fuse, I d.next, sn, sk, st]
def RDk (w : World) (lo hi : Nat) (d : DiskP) (sn sk st : Value) : Prop := RN w lo hi sn d.nodes ∧ RK w lo hi sk d.kept ∧ RT w lo hi st d.turns
def totD (d : DiskP) : Int := (d.nodes.length + totNd d.nodes) + (d.kept.length + totLk d.kept) + (d.turns.length + totTn d.turns)
def DiskP.fits (d : DiskP) : Prop := (-9223372036854775808 ≤ d.room ∧ d.room ≤ 9223372036854775807) ∧ (-9223372036854775808 ≤ d.fuse ∧ d.fuse ≤ 9223372036854775807) ∧ (-9223372036854775808 ≤ d.next ∧ d.next ≤ 9223372036854775807) ∧
  (d.nodes.length ≤ 9223372036854775807 ∧ ∀ p ∈ d.nodes, NdFit p) ∧ (d.kept.length ≤ 9223372036854775807 ∧ ∀ p ∈ d.kept, LkFit p) ∧ (d.turns.length ≤ 9223372036854775807 ∧ ∀ p ∈ d.turns, TnFit p)
theorem RDk.ch {w w' : World} {lo hi : Nat} {d : DiskP} {sn sk st : Value} {T : Nat → Prop} (h : RDk w lo hi d sn sk st) (c : Ch T w w') (hd : ∀ k, lo ≤ k → k < hi → ¬ T k) : RDk w' lo hi d sn sk st := ⟨h.1.ch c hd, h.2.1.ch c hd, h.2.2.ch c hd⟩
theorem RDk.ext {w w' : World} {lo hi : Nat} {d : DiskP} {sn sk st : Value} (h : RDk w lo hi d sn sk st) (c : Ext w w') : RDk w' lo hi d sn sk st := h.ch c (fun _ _ _ t => t)
theorem RDk.wide {w : World} {lo hi lo' hi' : Nat} {d : DiskP} {sn sk st : Value} (h : RDk w lo hi d sn sk st) (h1 : lo' ≤ lo) (h2 : hi ≤ hi') (h3 : hi' ≤ w.heap.size) : RDk w lo' hi' d sn sk st := ⟨h.1.wide h1 h2 h3, h.2.1.wide h1 h2 h3, h.2.2.wide h1 h2 h3⟩
theorem RDk.one {w : World} {lo hi : Nat} {d : DiskP} {sn sk st : Value} (h : RDk w lo hi d sn sk st) : (dskC d sn sk st).all (·.oneCell') = true := by
  simp only [dskC, List.all_cons, List.all_nil, h.1.one, h.2.1.one, h.2.2.one]; rfl
theorem totD_parts {d : DiskP} (h : totD d ≤ 1048576) : d.nodes.length + totNd d.nodes ≤ 1048576 ∧ d.kept.length + totLk d.kept ≤ 1048576 ∧ d.turns.length + totTn d.turns ≤ 1048576 := by
  have h1 := totNd_nn d.nodes
  have h2 := totLk_nn d.kept
  have h3 := totTn_nn d.turns
  unfold totD at h
  omega
end Go.Proofs.YtggaghghclomkaaGreat

/- Contracts: the space a disk uses. -/
namespace Go.Proofs.YtggaghghclomkaaGreat
open Go.RowKit
attribute [local irreducible] TL TC TN TX TR TQ TA Pu Ret

def NdM (p : NodeP) : Int := max (p.2.1.length : Int) (p.2.2.length : Int)
def pUsed (l : List NodeP) : Int := (l.map NdM).sum
theorem pUsed_take {l : List NodeP} {k : Nat} (h : k < l.length) : pUsed (l.take (k + 1)) = pUsed (l.take k) + NdM l[k] := by
  unfold pUsed
  rw [List.take_succ_eq_append_getElem h, List.map_append, List.sum_append]
  simp
theorem pUsed_le : ∀ l : List NodeP, 0 ≤ pUsed l ∧ pUsed l ≤ totNd l
  | [] => by simp [pUsed, totNd]
  | a :: l => by
    have := pUsed_le l
    simp only [pUsed, totNd, List.map_cons, List.sum_cons, NdM, NdW] at *
    omega
theorem totNd_le_take (l : List NodeP) (k : Nat) : totNd (l.take k) ≤ totNd l := by
  have h1 := totNd_nn (l.drop k)
  have : totNd l = totNd (l.take k) + totNd (l.drop k) := by
    unfold totNd
    rw [← List.sum_append, ← List.map_append, List.take_append_drop]
  omega
theorem l03Most_c (a b : Int) (w : World) : Ret Tryz.prog 88 #[I a, I b] w fun v w' => v = I (max a b) ∧ w = w' := by
  refine Ret_enter Tryz.func88 rfl rfl rfl ?_
  repeat' (first | apply Jbq | apply Jbr | apply Jbs | apply Jbt | apply Jbu | apply Jbv | apply Jbz | (apply Jcg; (first | exact Jaa rfl | exact Jab rfl | exact Jam rfl rfl); exact rfl) | (refine Jcx rfl (fun hb => ?_) (fun hb => ?_) <;> (try (exfalso; omega))))
  · exact TR_of (res1 rfl rfl) ⟨congrArg I (by omega), rfl⟩
  · exact TR_of (res1 rfl rfl) ⟨congrArg I (by omega), rfl⟩
set_option maxHeartbeats 2000000 in
theorem specDiskUsed_c {w : World} {lo hi : Nat} {d : DiskP} {sn sk st : Value} (h : RDk w lo hi d sn sk st) (hl : totD d ≤ 1048576) :
    Ret Tryz.prog 87 #[.agg (dskC d sn sk st).toArray] w fun v' w' => v' = I (pUsed d.nodes) ∧ Ext w w' := by
  obtain ⟨l1, _, _⟩ := totD_parts hl
  obtain ⟨ds, A, c, hm, rfl, _, hr, hok⟩ := h.1
  have hln : d.nodes.length = ds.length := by rw [← hm, List.length_map]
  refine Ret_enter Tryz.func87 rfl rfl rfl ?_
  repeat' (first | apply Jbs | apply Jbt)
  refine TL_box (cs := dskC d (.slice A ds.length c) sk st) rfl rfl ?_
  intro w1 g E hg hz hbk
  clear hg hz
  repeat' (first | apply Jbq | apply Jbr | apply Jbs | apply Jbt | apply Jby | (apply Jcg; (first | exact Jaa rfl | exact Jab rfl | exact Jac Us.h rfl | (apply Jbl; exact Us.h; exact rfl; exact Sz.h; exact rfl)); exact rfl) | refine Jcg (Pu_load Fl.h rfl (fun _ e => by rw [e]; exact hbk.ld rfl)) rfl ?_)
  refine TC_loop (ι := Nat) (fun k => [(3, I (pUsed (d.nodes.take k))), (7, .slice A ds.length c), (8, I ds.length), (9, I k)]) (fun k w' => k ≤ ds.length ∧ Ext w w') (fun k => ds.length - k) 0 (subEnv_cons rfl (subEnv_cons rfl (subEnv_cons rfl (subEnv_cons rfl (subEnv_nil _))))) ⟨Nat.zero_le _, E⟩ ?_
  intro k w2 ⟨hk, e2⟩
  repeat' (first | apply Jbq | apply Jbr | apply Jbs | apply Jbt | (apply Jcg; exact Jad rfl rfl; exact rfl))
  refine Jcx rfl (fun hlt0 => ?_) (fun hge => ?_)
  · have hlt : k < ds.length := by omega
    obtain ⟨ad, rfl, hc⟩ := Rd.elem NdC_len (hr.ext e2) hlt
    have hnk : d.nodes[k]'(by omega) = NdP ds[k] := by simp only [← hm, List.getElem_map]
    have hq := pUsed_take (l := d.nodes) (k := k) (by omega)
    have hq2 := pUsed_le (d.nodes.take k)
    have hq3 := pUsed_le (d.nodes.take (k + 1))
    have hq4 := totNd_le_take d.nodes k
    have hq5 := totNd_le_take d.nodes (k + 1)
    rw [hnk] at hq
    obtain ⟨⟨Ab, cb, hvb, _⟩, ⟨As, cs, hvs, _⟩⟩ := hok _ (List.getElem_mem hlt)
    obtain ⟨x, hx⟩ : ∃ x, x = ds[k] := ⟨_, rfl⟩
    rw [← hx] at hc hq hvb hvs
    obtain ⟨id, body, safe, vb, vs⟩ := x
    simp only at hvb hvs
    subst hvb hvs
    simp only [NdM, NdP] at hq
    repeat' (first | apply Jbq | apply Jbr | apply Jbs | apply Jbt | apply Jbx | apply Jby | apply Jbz | (apply Jcg; (first | exact Jaa rfl | exact Jab rfl | exact Jac Us.h rfl | exact Jaf rfl rfl (by omega) | exact Jar Us.h Sz.h rfl rfl (by omega) | (apply Jbl; exact Us.h; exact rfl; exact Sz.h; exact rfl)); exact rfl) | refine Jcg (Pu_loadAgg (cs := NdC ⟨id, body, safe, .slice Ab body.length cb, .slice As safe.length cs⟩) Us.h rfl Sz.h rfl (fun _ e j u hu => by rw [e]; exact hc j u hu)) rfl ?_ | (refine TL_alloc Zs.h rfl rfl ?_; intro w3 g3 e3 hg3 hz3 hb3) | (refine TL_storeAgg rfl rfl Sz.h rfl hb3 rfl ?_; intro w4 c4 hz4 hb4) | refine Jcg (Pu_load Fl.h rfl (fun _ e => by rw [e]; exact hb4.ld rfl)) rfl ?_ | (refine TL_call rfl en88 (l03Most_c _ _ _) rfl rfl ?_; rintro _ _ ⟨rfl, rfl⟩))
    exact TN_round (k + 1) (subEnv_cons (congrArg (fun z => some (I z)) hq.symm) (subEnv_cons rfl (subEnv_cons rfl (subEnv_cons rfl (subEnv_nil _))))) ⟨hlt, Ext.then_iv (e2.ext e3) c4 (by have := e2.size; omega)⟩ (by omega)
  · obtain rfl : k = ds.length := by omega
    rw [List.take_of_length_le (by omega)]
    repeat' (first | apply Jbq | apply Jbr | apply Jbs | apply Jbt | apply Jbu | apply Jca | apply Jcb | apply Jcc | (apply Jcg; (first | exact Jaa rfl | exact Jab rfl); exact rfl))
    exact TR_of (res1 rfl rfl) ⟨rfl, e2⟩
set_option maxHeartbeats 2000000 in
theorem implDiskUsed_c {w : World} {lo hi : Nat} {d : DiskP} {sn sk st : Value} (h : RDk w lo hi d sn sk st) (hl : totD d ≤ 1048576) :
    Ret Tryz.prog 95 #[.agg (dskC d sn sk st).toArray] w fun v' w' => v' = I (pUsed d.nodes) ∧ Ext w w' := by
  obtain ⟨l1, _, _⟩ := totD_parts hl
  obtain ⟨ds, A, c, hm, rfl, _, hr, hok⟩ := h.1
  have hln : d.nodes.length = ds.length := by rw [← hm, List.length_map]
  refine Ret_enter Tryz.func95 rfl rfl rfl ?_
  repeat' (first | apply Jbs | apply Jbt)
  refine TL_box (cs := dskC d (.slice A ds.length c) sk st) rfl rfl ?_
  intro w1 g E hg hz hbk
  clear hg hz
  repeat' (first | apply Jbq | apply Jbr | apply Jbs | apply Jbt | apply Jby | (apply Jcg; (first | exact Jaa rfl | exact Jab rfl | exact Jac Us.h rfl | (apply Jbl; exact Us.h; exact rfl; exact Sz.h; exact rfl)); exact rfl) | refine Jcg (Pu_load Fl.h rfl (fun _ e => by rw [e]; exact hbk.ld rfl)) rfl ?_)
  refine TC_loop (ι := Nat) (fun k => [(3, I (pUsed (d.nodes.take k))), (7, .slice A ds.length c), (8, I ds.length), (9, I k)]) (fun k w' => k ≤ ds.length ∧ Ext w w') (fun k => ds.length - k) 0 (subEnv_cons rfl (subEnv_cons rfl (subEnv_cons rfl (subEnv_cons rfl (subEnv_nil _))))) ⟨Nat.zero_le _, E⟩ ?_
  intro k w2 ⟨hk, e2⟩
  repeat' (first | apply Jbq | apply Jbr | apply Jbs | apply Jbt | (apply Jcg; exact Jad rfl rfl; exact rfl))
  refine Jcx rfl (fun hlt0 => ?_) (fun hge => ?_)
  · have hlt : k < ds.length := by omega
    obtain ⟨ad, rfl, hc⟩ := Rd.elem NdC_len (hr.ext e2) hlt
    have hnk : d.nodes[k]'(by omega) = NdP ds[k] := by simp only [← hm, List.getElem_map]
    have hq := pUsed_take (l := d.nodes) (k := k) (by omega)
    have hq2 := pUsed_le (d.nodes.take k)
    have hq3 := pUsed_le (d.nodes.take (k + 1))
    have hq4 := totNd_le_take d.nodes k
    have hq5 := totNd_le_take d.nodes (k + 1)
    rw [hnk] at hq
    obtain ⟨⟨Ab, cb, hvb, _⟩, ⟨As, cs, hvs, _⟩⟩ := hok _ (List.getElem_mem hlt)
    obtain ⟨x, hx⟩ : ∃ x, x = ds[k] := ⟨_, rfl⟩
    rw [← hx] at hc hq hvb hvs
    obtain ⟨id, body, safe, vb, vs⟩ := x
    simp only at hvb hvs
    subst hvb hvs
    simp only [NdM, NdP] at hq
    repeat' (first | apply Jbq | apply Jbr | apply Jbs | apply Jbt | apply Jbx | apply Jby | apply Jbz | (apply Jcg; (first | exact Jaa rfl | exact Jab rfl | exact Jac Us.h rfl | exact Jaf rfl rfl (by omega) | exact Jar Us.h Sz.h rfl rfl (by omega) | exact Jaz rfl rfl | (apply Jbl; exact Us.h; exact rfl; exact Sz.h; exact rfl)); exact rfl) | refine Jcg (Pu_loadAgg (cs := NdC ⟨id, body, safe, .slice Ab body.length cb, .slice As safe.length cs⟩) Us.h rfl Sz.h rfl (fun _ e j u hu => by rw [e]; exact hc j u hu)) rfl ?_ | (refine TL_alloc Zs.h rfl rfl ?_; intro w3 g3 e3 hg3 hz3 hb3) | (refine TL_storeAgg rfl rfl Sz.h rfl hb3 rfl ?_; intro w4 c4 hz4 hb4) | refine Jcg (Pu_load Fl.h rfl (fun _ e => by rw [e]; exact hb4.ld rfl)) rfl ?_)
    exact TN_round (k + 1) (subEnv_cons (congrArg (fun z => some (I z)) hq.symm) (subEnv_cons rfl (subEnv_cons rfl (subEnv_cons rfl (subEnv_nil _))))) ⟨hlt, Ext.then_iv (e2.ext e3) c4 (by have := e2.size; omega)⟩ (by omega)
  · obtain rfl : k = ds.length := by omega
    rw [List.take_of_length_le (by omega)]
    repeat' (first | apply Jbq | apply Jbr | apply Jbs | apply Jbt | apply Jbu | apply Jca | apply Jcb | apply Jcc | (apply Jcg; (first | exact Jaa rfl | exact Jab rfl); exact rfl))
    exact TR_of (res1 rfl rfl) ⟨rfl, e2⟩
end Go.Proofs.YtggaghghclomkaaGreat

/- Directories in the order of their names, and when a disk is right: the plain law. No condition. -/
namespace Go.Proofs.YtggaghghclomkaaGreat
open Go.RowKit

/-! ### the order of texts -/
theorem less_before : ∀ a b : List UInt8, Op.bytesLess a b = bytesBefore a b
  | [], [] => by simp [Op.bytesLess, bytesBefore]
  | [], _ :: _ => by simp [Op.bytesLess, bytesBefore]
  | _ :: _, [] => by simp [Op.bytesLess, bytesBefore]
  | a :: r, b :: s => by simp [Op.bytesLess, bytesBefore, less_before r s]
theorem bb_irrefl (a : List UInt8) : bytesBefore a a = false := WideAt.bytes_irrefl a
theorem bb_total {a b : List UInt8} (h : a ≠ b) : bytesBefore a b = true ∨ bytesBefore b a = true := WideAt.bytes_total a b h
theorem bb_trans {a b c : List UInt8} (h : bytesBefore a b = true) (k : bytesBefore b c = true) : bytesBefore a c = true := WideShapes.bytes_trans a b c h k
theorem bb_asymm {a b : List UInt8} (h : bytesBefore a b = true) : bytesBefore b a = false := by
  cases k : bytesBefore b a with
  | false => rfl
  | true => have := bb_trans h k; rw [bb_irrefl] at this; cases this

/-! ### directories -/
def dHas (L : List LkD) (s : List UInt8) : Bool := L.any (fun x => x.name == s)
def dFind (L : List LkD) (s : List UInt8) : Int := match L.find? (fun x => x.name == s) with | some x => x.id | none => 0
def dLess (L : List LkD) (s : List UInt8) : List LkD := L.filter (fun x => !(x.name == s))
def dIns (x : LkD) : List LkD → List LkD
  | [] => [x]
  | y :: r => if bytesBefore x.name y.name = true then x :: y :: r else y :: dIns x r
def Asc (L : List LkD) : Prop := L.Pairwise (fun x y => bytesBefore x.name y.name = true)
def Pos (L : List LkD) : Prop := ∀ x ∈ L, 1 ≤ x.id
theorem mem_dIns {x y : LkD} : ∀ L : List LkD, y ∈ dIns x L ↔ y = x ∨ y ∈ L
  | [] => by simp [dIns]
  | z :: r => by
    unfold dIns
    split
    · simp
    · rw [List.mem_cons, mem_dIns r, List.mem_cons]; exact ⟨fun h => h.elim (fun h => .inr (.inl h)) (fun h => h.elim .inl (fun h => .inr (.inr h))), fun h => h.elim (fun h => .inr (.inl h)) (fun h => h.elim .inl (fun h => .inr (.inr h)))⟩
theorem dIns_length (x : LkD) : ∀ L : List LkD, (dIns x L).length = L.length + 1
  | [] => rfl
  | y :: r => by unfold dIns; split <;> simp [dIns_length x r]
theorem dLess_length (L : List LkD) (s : List UInt8) : (dLess L s).length ≤ L.length := List.length_filter_le _ _
theorem mem_dLess {y : LkD} {L : List LkD} {s : List UInt8} (h : y ∈ dLess L s) : y ∈ L := (List.mem_filter.1 h).1
theorem dHas_none {L : List LkD} {s : List UInt8} (h : dHas L s = false) : ∀ y ∈ L, y.name ≠ s := by
  intro y hy e
  have : dHas L s = true := by unfold dHas; rw [List.any_eq_true]; exact ⟨y, hy, by simp [e]⟩
  rw [h] at this; cases this
theorem dHas_dLess (L : List LkD) (s : List UInt8) : dHas (dLess L s) s = false := by
  cases h : dHas (dLess L s) s with
  | false => rfl
  | true =>
    unfold dHas at h
    rw [List.any_eq_true] at h
    obtain ⟨y, hy, he⟩ := h
    have := (List.mem_filter.1 hy).2
    simp only [he, Bool.not_true] at this
    cases this
theorem dLess_none {L : List LkD} {s : List UInt8} (h : dHas L s = false) : dLess L s = L := by
  unfold dLess
  rw [List.filter_eq_self]
  intro y hy
  have := dHas_none h y hy
  simp [this]
theorem asc_dLess {L : List LkD} (h : Asc L) (s : List UInt8) : Asc (dLess L s) := List.Pairwise.filter _ h
theorem asc_dIns {x : LkD} : ∀ {L : List LkD}, Asc L → dHas L x.name = false → Asc (dIns x L)
  | [], _, _ => by simp [dIns, Asc]
  | y :: r, h, hn => by
    have hy : y.name ≠ x.name := dHas_none hn y (by simp)
    have hr : dHas r x.name = false := by unfold dHas at *; rw [List.any_cons, Bool.or_eq_false_iff] at hn; exact hn.2
    unfold Asc at h
    rw [List.pairwise_cons] at h
    unfold dIns
    split
    · rename_i hb
      refine List.pairwise_cons.2 ⟨fun z hz => ?_, List.pairwise_cons.2 h⟩
      rcases List.mem_cons.1 hz with rfl | hz
      · exact hb
      · exact bb_trans hb (h.1 z hz)
    · rename_i hb
      refine List.pairwise_cons.2 ⟨fun z hz => ?_, asc_dIns h.2 hr⟩
      rcases (mem_dIns r).1 hz with rfl | hz
      · exact (bb_total hy).resolve_right hb
      · exact h.1 z hz
theorem dFind_pos {L : List LkD} (hp : Pos L) (s : List UInt8) : 1 ≤ dFind L s ↔ dHas L s = true := by
  unfold dFind dHas
  constructor
  · intro h
    cases hf : L.find? (fun x => x.name == s) with
    | none => rw [hf] at h; simp at h
    | some x => exact List.any_eq_true.2 ⟨x, List.mem_of_find?_eq_some hf, List.find?_some (p := fun x : LkD => x.name == s) hf⟩
  · intro h
    cases hf : L.find? (fun x => x.name == s) with
    | none =>
      rw [List.find?_eq_none] at hf
      rw [List.any_eq_true] at h
      obtain ⟨x, hx, he⟩ := h
      exact absurd he (hf x hx)
    | some x => exact hp x (List.mem_of_find?_eq_some hf)
theorem dFind_none {L : List LkD} {s : List UInt8} (h : dHas L s = false) : dFind L s = 0 := by
  unfold dFind
  have : L.find? (fun x => x.name == s) = none := by
    rw [List.find?_eq_none]
    intro x hx
    have := dHas_none h x hx
    simpa using this
  rw [this]
theorem dFind_mem {L : List LkD} {s : List UInt8} (h : dHas L s = true) : ∃ x ∈ L, x.name = s ∧ x.id = dFind L s := by
  unfold dFind
  cases hf : L.find? (fun x => x.name == s) with
  | none =>
    rw [List.find?_eq_none] at hf
    unfold dHas at h
    rw [List.any_eq_true] at h
    obtain ⟨x, hx, he⟩ := h
    exact absurd he (hf x hx)
  | some x => exact ⟨x, List.mem_of_find?_eq_some hf, by simpa using List.find?_some (p := fun x : LkD => x.name == s) hf, rfl⟩

/-! ### the datum that a map of the program reads as -/
def entD (x : LkD) : Lit × DataW Unit := (.string x.name, .lit (.int .i64 x.id))
def toD (L : List LkD) : DataW Unit := .map (L.map entD)
theorem toD_ins (x : LkD) : ∀ L : List LkD, DataW.insert (entD x) (L.map entD) = (dIns x L).map entD
  | [] => rfl
  | y :: r => by
    have hb : (entD x).1.before (entD y).1 = bytesBefore x.name y.name := rfl
    rw [List.map_cons, DataW.insert, hb, dIns]
    split
    · rfl
    · rw [List.map_cons, toD_ins x r]
theorem toD_filter (L : List LkD) (s : List UInt8) : (L.map entD).filter (fun p => !p.1.sameKey (.string s)) = (dLess L s).map entD := by
  unfold dLess
  rw [List.filter_map]
  rfl
theorem toD_put (L : List LkD) (s : List UInt8) (i : Int) : (toD L).put (.string s) (.lit (.int .i64 i)) = toD (dIns ⟨s, i⟩ (dLess L s)) := by
  unfold toD DataW.put
  simp only
  rw [toD_filter, ← toD_ins]
  rfl
theorem toD_del (L : List LkD) (s : List UInt8) : (toD L).del (.string s) = toD (dLess L s) := by
  unfold toD DataW.del
  simp only
  rw [toD_filter]
theorem toD_has (L : List LkD) (s : List UInt8) : Maps.has (toD L) (.string s) = dHas L s := by
  unfold toD Maps.has dHas
  simp only [List.any_map]
  rfl
theorem toD_at (L : List LkD) (s : List UInt8) : (toD L).atKey (.string s) (.lit (.int .i64 0)) = .lit (.int .i64 (dFind L s)) := by
  unfold toD DataW.atKey dFind
  simp only [List.find?_map]
  have : (fun p : Lit × DataW Unit => p.1.sameKey (.string s)) ∘ entD = fun x => x.name == s := rfl
  rw [this]
  cases L.find? (fun x => x.name == s) <;> rfl

/-! ### turns -/
def pTurn (L : List LkD) (t : TnD) : List LkD :=
  if t.kind = 1 then dIns ⟨t.name, t.id⟩ L
  else if t.kind = 5 then dIns ⟨t.to, dFind L t.name⟩ (dLess (dLess L t.name) t.to) else dLess L t.name
def runT (L : List LkD) (ts : List TnD) : List LkD := ts.foldl pTurn L
def tOk (L : List LkD) (t : TnD) : Prop :=
  pName t.name = true ∧ ((t.kind = 1 ∧ t.to = [] ∧ 1 ≤ t.id ∧ ¬ 1 ≤ dFind L t.name) ∨ (t.kind = 5 ∧ pName t.to = true ∧ t.to ≠ t.name ∧ t.id = 0 ∧ 1 ≤ dFind L t.name) ∨ (t.kind = 6 ∧ t.to = [] ∧ t.id = 0 ∧ 1 ≤ dFind L t.name))
def tOk0 (t : TnD) : Prop :=
  pName t.name = true ∧ ((t.kind = 1 ∧ t.to = []) ∨ (t.kind = 5 ∧ pName t.to = true ∧ t.id = 0) ∨ (t.kind = 6 ∧ t.to = [] ∧ t.id = 0))
def aOk (L : List LkD) (t : TnD) : Prop :=
  (t.kind = 1 ∧ dHas L t.name = false) ∨ (t.kind = 5 ∧ dHas L t.name = true ∧ t.to ≠ t.name) ∨ (t.kind = 6 ∧ dHas L t.name = true)
theorem runT_take {L : List LkD} {ts : List TnD} {k : Nat} (h : k < ts.length) : runT L (ts.take (k + 1)) = pTurn (runT L (ts.take k)) ts[k] := by
  unfold runT
  rw [List.take_succ_eq_append_getElem h, List.foldl_append]
  rfl
theorem tOk_iff {L : List LkD} {t : TnD} (hp : Pos L) (h1 : t.kind = 1 → 1 ≤ t.id) : tOk L t ↔ tOk0 t ∧ aOk L t := by
  have hf := dFind_pos hp t.name
  have hn : ¬ 1 ≤ dFind L t.name ↔ dHas L t.name = false := by rw [hf]; simp
  unfold tOk tOk0 aOk
  rw [hn, hf]
  constructor
  · rintro ⟨h, ⟨a, b, c, d⟩ | ⟨a, b, c, d, e⟩ | ⟨a, b, c, d⟩⟩
    · exact ⟨⟨h, .inl ⟨a, b⟩⟩, .inl ⟨a, d⟩⟩
    · exact ⟨⟨h, .inr (.inl ⟨a, b, d⟩)⟩, .inr (.inl ⟨a, e, c⟩)⟩
    · exact ⟨⟨h, .inr (.inr ⟨a, b, c⟩)⟩, .inr (.inr ⟨a, d⟩)⟩
  · rintro ⟨⟨h, ha⟩, hb⟩
    refine ⟨h, ?_⟩
    rcases ha with ⟨a, b⟩ | ⟨a, b, c⟩ | ⟨a, b, c⟩
    · rcases hb with ⟨x, y⟩ | ⟨x, y, z⟩ | ⟨x, y⟩
      · exact .inl ⟨a, b, h1 a, y⟩
      · exact absurd (a.symm.trans x) (by decide)
      · exact absurd (a.symm.trans x) (by decide)
    · rcases hb with ⟨x, y⟩ | ⟨x, y, z⟩ | ⟨x, y⟩
      · exact absurd (a.symm.trans x) (by decide)
      · exact .inr (.inl ⟨a, b, z, c, y⟩)
      · exact absurd (a.symm.trans x) (by decide)
    · rcases hb with ⟨x, y⟩ | ⟨x, y, z⟩ | ⟨x, y⟩
      · exact absurd (a.symm.trans x) (by decide)
      · exact absurd (a.symm.trans x) (by decide)
      · exact .inr (.inr ⟨a, b, c, y⟩)
theorem pos_pTurn {L : List LkD} {t : TnD} (hp : Pos L) (h : tOk L t) : Pos (pTurn L t) := by
  intro x hx
  unfold pTurn at hx
  rcases h.2 with ⟨a, b, c, d⟩ | ⟨a, b, c, d, e⟩ | ⟨a, b, c, d⟩
  · rw [if_pos a] at hx
    rcases (mem_dIns _).1 hx with rfl | hx
    · exact c
    · exact hp x hx
  · rw [if_neg (by omega), if_pos a] at hx
    rcases (mem_dIns _).1 hx with rfl | hx
    · exact e
    · exact hp x (mem_dLess (mem_dLess hx))
  · rw [if_neg (by omega), if_neg (by omega)] at hx
    exact hp x (mem_dLess hx)
theorem asc_pTurn {L : List LkD} {t : TnD} (ha : Asc L) (h : aOk L t) : Asc (pTurn L t) := by
  unfold pTurn
  rcases h with ⟨a, b⟩ | ⟨a, b, c⟩ | ⟨a, b⟩
  · rw [if_pos a]; exact asc_dIns ha b
  · rw [if_neg (by omega), if_pos a]; exact asc_dIns (asc_dLess (asc_dLess ha _) _) (dHas_dLess _ _)
  · rw [if_neg (by omega), if_neg (by omega)]; exact asc_dLess ha _

/-! ### lists of numbers -/
theorem nodup_sub_length : ∀ {l m : List Int}, l.Nodup → (∀ x ∈ l, x ∈ m) → l.length ≤ m.length
  | [], _, _, _ => Nat.zero_le _
  | a :: r, m, h, hs => by
    rw [List.nodup_cons] at h
    have ha : a ∈ m := hs a (by simp)
    have := nodup_sub_length (l := r) (m := m.erase a) h.2 (fun x hx => by
      have hne : x ≠ a := fun e => h.1 (e ▸ hx)
      exact (List.mem_erase_of_ne hne).2 (hs x (by simp [hx])))
    rw [List.length_erase_of_mem ha] at this
    have hpos : 0 < m.length := List.length_pos_of_mem ha
    simp only [List.length_cons]
    omega
theorem nodup_sub_back {l m : List Int} (h : l.Nodup) (hs : ∀ x ∈ l, x ∈ m) (hl : m.length ≤ l.length) : ∀ x ∈ m, x ∈ l := by
  intro x hx
  by_cases hxl : x ∈ l
  · exact hxl
  · have := nodup_sub_length (l := x :: l) (m := m) (List.nodup_cons.2 ⟨hxl, h⟩) (fun y hy => by
      rcases List.mem_cons.1 hy with rfl | hy
      · exact hx
      · exact hs y hy)
    simp only [List.length_cons] at this
    omega
theorem nodup_of_take {l : List Int} (h : ∀ j (hj : j < l.length), l[j] ∉ l.take j) : l.Nodup := by
  unfold List.Nodup
  rw [List.pairwise_iff_getElem]
  intro i j hi hj hij e
  exact h j hj (by rw [← e]; exact List.mem_take_iff_getElem.2 ⟨i, by omega, rfl⟩)
theorem take_of_nodup {l : List Int} (h : l.Nodup) : ∀ j (hj : j < l.length), l[j] ∉ l.take j := by
  intro j hj hm
  obtain ⟨i, hi, e⟩ := List.mem_take_iff_getElem.1 hm
  unfold List.Nodup at h
  rw [List.pairwise_iff_getElem] at h
  exact h i j (by omega) hj (by omega) e

/-! ### when a disk is right -/
def nIds (l : List NodeP) : List Int := l.map (·.1)
def pIds (d : DiskP) : List Int := d.kept.map (·.id) ++ (d.turns.filter (fun t => decide (t.kind = 1))).map (·.id)
def dBase (d : DiskP) : Prop := (0 ≤ d.room ∧ d.room ≤ 60000) ∧ (-1 ≤ d.fuse ∧ d.fuse ≤ 1000) ∧ (1 ≤ d.next ∧ d.next ≤ 1000000) ∧ d.nodes.length ≤ 8 ∧ d.kept.length ≤ 8 ∧ d.turns.length ≤ 40
def nStep (d : DiskP) (i : Nat) : Prop := ∀ h : i < d.nodes.length, 1 ≤ d.nodes[i].1 ∧ d.nodes[i].1 < d.next ∧ (0 < i → (d.nodes[i - 1]'(by omega)).1 < d.nodes[i].1)
def kStep (d : DiskP) (i : Nat) : Prop := ∀ h : i < d.kept.length, pName d.kept[i].name = true ∧ (0 < i → bytesBefore (d.kept[i - 1]'(by omega)).name d.kept[i].name = true)
structure DOk (d : DiskP) : Prop where
  base : dBase d
  node : ∀ i, nStep d i
  link : ∀ i, kStep d i
  pos : Pos d.kept
  len : (pIds d).length = d.nodes.length
  ids : ∀ j (h : j < (pIds d).length), (pIds d)[j] ∉ (pIds d).take j ∧ (pIds d)[j] ∈ nIds d.nodes
  turn : ∀ j (h : j < d.turns.length), tOk (runT d.kept (d.turns.take j)) d.turns[j]
  used : pUsed d.nodes ≤ d.room
structure IOk (d : DiskP) : Prop where
  base : dBase d
  node : ∀ i, nStep d i
  link : ∀ i, kStep d i
  turn0 : ∀ j (h : j < d.turns.length), tOk0 d.turns[j]
  turn : ∀ j (h : j < d.turns.length), aOk (runT d.kept (d.turns.take j)) d.turns[j]
  nodup : (pIds d).Nodup
  len : (pIds d).length = d.nodes.length
  ids : ∀ p ∈ d.nodes, p.1 ∈ pIds d
  used : pUsed d.nodes ≤ d.room
theorem nodes_rise {d : DiskP} (h : ∀ i, nStep d i) : ∀ (j : Nat) (i : Nat) (hi : i < j) (hj : j < d.nodes.length), (d.nodes[i]'(by omega)).1 < d.nodes[j].1 := by
  intro j
  induction j with
  | zero => intro i hi; omega
  | succ j ih =>
    intro i hi hj
    have h1 := (h (j + 1) hj).2.2 (by omega)
    simp only [Nat.add_sub_cancel] at h1
    rcases Nat.lt_or_ge i j with h2 | h2
    · exact Int.lt_trans (ih i h2 (by omega)) h1
    · obtain rfl : i = j := by omega
      exact h1
theorem nIds_nodup {d : DiskP} (h : ∀ i, nStep d i) : (nIds d.nodes).Nodup := by
  unfold List.Nodup nIds
  rw [List.pairwise_iff_getElem]
  intro i j hi hj hij e
  simp only [List.getElem_map] at e
  simp only [List.length_map] at hi hj
  have := nodes_rise h j i hij hj
  omega
theorem kept_asc {d : DiskP} (h : ∀ i, kStep d i) : Asc d.kept := by
  unfold Asc
  rw [List.pairwise_iff_getElem]
  intro i j
  induction j with
  | zero => intro hi hj hij; omega
  | succ j ih =>
    intro hi hj hij
    have h1 := (h (j + 1) hj).2 (by omega)
    simp only [Nat.add_sub_cancel] at h1
    rcases Nat.lt_or_ge i j with h2 | h2
    · exact bb_trans (ih (by omega) (by omega) h2) h1
    · obtain rfl : i = j := by omega
      exact h1
theorem creates_mem {d : DiskP} {t : TnD} (ht : t ∈ d.turns) (h1 : t.kind = 1) : t.id ∈ pIds d := by
  unfold pIds
  rw [List.mem_append]
  right
  exact List.mem_map.2 ⟨t, List.mem_filter.2 ⟨ht, by simp [h1]⟩, rfl⟩
theorem kept_mem {d : DiskP} {x : LkD} (hx : x ∈ d.kept) : x.id ∈ pIds d := by
  unfold pIds
  rw [List.mem_append]
  left
  exact List.mem_map.2 ⟨x, hx, rfl⟩
theorem nIds_pos {d : DiskP} (h : ∀ i, nStep d i) : ∀ x ∈ nIds d.nodes, 1 ≤ x := by
  intro x hx
  obtain ⟨p, hp, rfl⟩ := List.mem_map.1 hx
  obtain ⟨i, hi, rfl⟩ := List.mem_iff_getElem.1 hp
  exact (h i hi).1
theorem dok_iff (d : DiskP) : DOk d ↔ IOk d := by
  constructor
  · intro h
    have hidn : ∀ x ∈ pIds d, x ∈ nIds d.nodes := by
      intro x hx
      obtain ⟨j, hj, rfl⟩ := List.mem_iff_getElem.1 hx
      exact (h.ids j hj).2
    have hnd : (pIds d).Nodup := nodup_of_take (fun j hj => (h.ids j hj).1)
    have hpos : ∀ x ∈ pIds d, 1 ≤ x := fun x hx => nIds_pos h.node x (hidn x hx)
    have hP : ∀ j, j ≤ d.turns.length → Pos (runT d.kept (d.turns.take j)) := by
      intro j
      induction j with
      | zero => intro _; exact fun x hx => h.pos x (by simpa [runT] using hx)
      | succ j ih => intro hj; rw [runT_take (by omega)]; exact pos_pTurn (ih (by omega)) (h.turn j (by omega))
    have hT := fun j (hj : j < d.turns.length) => (tOk_iff (hP j (by omega)) (fun e => hpos _ (creates_mem (List.getElem_mem hj) e))).1 (h.turn j hj)
    refine ⟨h.base, h.node, h.link, fun j hj => (hT j hj).1, fun j hj => (hT j hj).2, hnd, h.len, fun p hp => ?_, h.used⟩
    refine nodup_sub_back hnd hidn (by unfold nIds; rw [List.length_map, h.len]; exact Nat.le_refl _) p.1 (List.mem_map.2 ⟨p, hp, rfl⟩)
  · intro h
    have hnn := nIds_nodup h.node
    have hback : ∀ x ∈ pIds d, x ∈ nIds d.nodes := nodup_sub_back hnn (fun x hx => by
      obtain ⟨p, hp, rfl⟩ := List.mem_map.1 hx
      exact h.ids p hp) (by unfold nIds; rw [List.length_map, h.len]; exact Nat.le_refl _)
    have hpos : ∀ x ∈ pIds d, 1 ≤ x := fun x hx => nIds_pos h.node x (hback x hx)
    have hP : ∀ j, j ≤ d.turns.length → Pos (runT d.kept (d.turns.take j)) ∧ ∀ i (hi : i < j) (hl : i < d.turns.length), tOk (runT d.kept (d.turns.take i)) d.turns[i] := by
      intro j
      induction j with
      | zero => intro _; exact ⟨fun x hx => hpos _ (kept_mem (by simpa [runT] using hx)), fun i hi => absurd hi (by omega)⟩
      | succ j ih =>
        intro hj
        obtain ⟨i1, i2⟩ := ih (by omega)
        have hlt : j < d.turns.length := by omega
        have ht : tOk (runT d.kept (d.turns.take j)) d.turns[j] := (tOk_iff i1 (fun e => hpos _ (creates_mem (List.getElem_mem hlt) e))).2 ⟨h.turn0 j hlt, h.turn j hlt⟩
        refine ⟨by rw [runT_take hlt]; exact pos_pTurn i1 ht, fun i hi hl => ?_⟩
        rcases Nat.lt_or_ge i j with h2 | h2
        · exact i2 i h2 hl
        · obtain rfl : i = j := by omega
          exact ht
    refine ⟨h.base, h.node, h.link, fun x hx => hpos _ (kept_mem hx), h.len, fun j hj => ⟨take_of_nodup h.nodup j hj, hback _ (List.getElem_mem hj)⟩, fun j hj => (hP (j + 1) (by omega)).2 j (by omega) hj, h.used⟩
open Classical in
noncomputable def pDOk (d : DiskP) : Bool := decide (DOk d)
open Classical in
theorem pDOk_yes {d : DiskP} (h : DOk d) : pDOk d = true := by unfold pDOk; exact decide_eq_true h
open Classical in
theorem pDOk_no {d : DiskP} (h : ¬ DOk d) : pDOk d = false := by unfold pDOk; exact decide_eq_false h
open Classical in
theorem pDOk_of {d : DiskP} (h : pDOk d = true) : DOk d := by unfold pDOk at h; exact of_decide_eq_true h
theorem DOk.asc {d : DiskP} (h : DOk d) (k : Nat) (hk : k ≤ d.turns.length) : Asc (runT d.kept (d.turns.take k)) := by
  have h2 := (dok_iff d).1 h
  induction k with
  | zero => simpa [runT] using kept_asc h.link
  | succ k ih => rw [runT_take (by omega)]; exact asc_pTurn (ih (by omega)) (h2.turn k (by omega))
theorem DOk.posT {d : DiskP} (h : DOk d) (k : Nat) (hk : k ≤ d.turns.length) : Pos (runT d.kept (d.turns.take k)) := by
  induction k with
  | zero => exact fun x hx => h.pos x (by simpa [runT] using hx)
  | succ k ih => rw [runT_take (by omega)]; exact pos_pTurn (ih (by omega)) (h.turn k (by omega))
end Go.Proofs.YtggaghghclomkaaGreat

/- Maps that the program makes: a directory by name, a set of numbers. -/
namespace Go.Proofs.YtggaghghclomkaaGreat
open Go.RowKit
attribute [local irreducible] TL TC TN TX TR TQ TA Ret

theorem rev_ind {α : Type} {motive : List α → Prop} (nil : motive []) (snoc : ∀ r x, motive r → motive (r ++ [x])) (l : List α) : motive l := by
  have h : ∀ m : List α, motive m.reverse := by
    intro m
    induction m with
    | nil => exact nil
    | cons a m ih => rw [List.reverse_cons]; exact snoc _ _ ih
  have := h l.reverse
  rwa [List.reverse_reverse] at this
theorem kStr : Maps.Keyed Tryz.prog 9 := Maps.string_keyed Tryz.underlying9
theorem kInt : Maps.Keyed Tryz.prog 3 := Maps.int_keyed Tryz.underlying3
theorem zInt (w : World) : (zeroValue 3).run Tryz.prog w = .ok (I 0) w := by kernel_rfl
theorem mUnder : Tryz.prog.underlying 104 = some (.map 9 3) := Tryz.underlying104
theorem sUnder : Tryz.prog.underlying 172 = some (.map 3 3) := Tryz.underlying172
theorem wfI {i : Int} (h : -9223372036854775808 ≤ i ∧ i ≤ 9223372036854775807) : (Lit.int .i64 i).wf = true := by
  exact WalkArith.wf_i64 h
theorem plI {i : Int} (h : -9223372036854775808 ≤ i ∧ i ≤ 9223372036854775807) : plainElem (H := Unit) Tryz.prog 3 (I i) = some (.lit (.int .i64 i), []) := plainElem_int Tryz.underlying3 (wfI h)
theorem kyS {s : List UInt8} (h : s.length ≤ 9223372036854775807) : keyOf Tryz.prog 9 (S s) = some (.string s) := by
  have := WideMaps.keyOf_string_mk (P := Tryz.prog) Tryz.underlying9 (s := ⟨s.toArray⟩) (by simp only [maxLen, ByteArray.size, List.size_toArray]; omega)
  simpa using this
theorem kyI {i : Int} (h : -9223372036854775808 ≤ i ∧ i ≤ 9223372036854775807) : keyOf Tryz.prog 3 (I i) = some (.int .i64 i) := Maps.keyOf_int_mk Tryz.underlying3 (wfI h)
/-- Block b is the directory L. -/
def MD (w : World) (b k : Nat) (L : List LkD) : Prop := w.ownsMap Tryz.prog 9 (plainElem Tryz.prog 3) b k (toD L)
def setD (l : List Int) : DataW Unit := Maps.setOf (.lit (.int .i64 1)) (l.map fun i => Lit.int .i64 i)
/-- Block b is a set of the numbers of l. -/
def MS (w : World) (b k : Nat) (l : List Int) : Prop := w.ownsMap Tryz.prog 3 (plainElem Tryz.prog 3) b k (setD l)
section
variable {w w' : World} {b k : Nat} {D : DataW Unit} {T : Nat → Prop} {K : TypeId}
theorem owns_ch {R : Value → Option (DataW Unit × List MemPlace)} (h : w.ownsMap Tryz.prog K R b k D) (c : Ch T w w') (hb : ¬ T b) : w'.ownsMap Tryz.prog K R b k D := by
  obtain ⟨es, clock, h1, h2⟩ := h
  exact ⟨es, clock, (c.block b (Array.getElem?_eq_some_iff.1 h1).1 hb).trans h1, h2⟩
theorem MD.ch {L : List LkD} (h : MD w b k L) (c : Ch T w w') (hb : ¬ T b) : MD w' b k L := owns_ch h c hb
theorem MD.ext {L : List LkD} (h : MD w b k L) (c : Ext w w') : MD w' b k L := h.ch c (fun t => t)
theorem MS.ch {L : List Int} (h : MS w b k L) (c : Ch T w w') (hb : ¬ T b) : MS w' b k L := owns_ch h c hb
theorem MS.ext {L : List Int} (h : MS w b k L) (c : Ext w w') : MS w' b k L := h.ch c (fun t => t)
theorem turned_ch (h : w.mapTurned w' b) : Ch (Iv b (b + 1)) w w' ∧ w'.heap.size = w.heap.size := by
  refine ⟨Ch.of_grown h.grown (fun k hk => by injection hk with hk; subst hk; exact ⟨Nat.le_refl _, Nat.lt_succ_self _⟩), ?_⟩
  obtain ⟨es, clock, es', clock', _, rfl⟩ := h
  simp [ChangeMaps.setBlock]
end
theorem setD_snoc (l : List Int) (i : Int) : setD (l ++ [i]) = (setD l).put (.int .i64 i) (.lit (.int .i64 1)) := by
  unfold setD
  rw [List.map_append]
  exact Maps.setOf_snoc _ _ _
theorem keyI (l : List Int) : ∀ x ∈ l.map (fun i => Lit.int .i64 i), WideAt.IsKeyLit x := by
  intro x hx
  obtain ⟨i, _, rfl⟩ := List.mem_map.1 hx
  trivial
theorem setD_has (l : List Int) (i : Int) : Maps.has (setD l) (.int .i64 i) = decide (i ∈ l) := by
  unfold setD
  rw [Maps.has_setOf _ _ _ (keyI l), List.any_map]
  apply Bool.eq_iff_iff.2
  rw [List.any_eq_true]
  constructor
  · rintro ⟨x, hx, he⟩
    have : x = i := by simpa [Lit.sameKey] using he
    subst this
    simpa using hx
  · intro h
    exact ⟨i, by simpa using h, by simp [Lit.sameKey]⟩
theorem setD_at : ∀ (l : List Int) (i : Int), (setD l).atKey (.int .i64 i) (.lit (.int .i64 0)) = .lit (.int .i64 (if i ∈ l then 1 else 0)) := by
  intro l i
  by_cases h : i ∈ l
  · rw [if_pos h]
    induction l using rev_ind with
    | nil => cases h
    | snoc r x ih =>
      rw [setD_snoc]
      by_cases hx : x = i
      · subst hx
        exact Maps.atKey_put_same (k := .int .i64 x) (Maps.Tidy.isMap (Maps.tidy_setOf _ _ (keyI r))) trivial _ _
      · rw [Maps.atKey_put_other (by intro e; injection e with _ e; exact hx e.symm)]
        refine ih ?_
        rcases List.mem_append.1 h with h | h
        · exact h
        · exact absurd (List.mem_singleton.1 h).symm hx
  · rw [if_neg h]
    exact Maps.atKey_of_not_has (by rw [setD_has]; exact decide_eq_false h) _
theorem setD_size_snoc (l : List Int) (i : Int) : Maps.size (setD (l ++ [i])) = if i ∈ l then Maps.size (setD l) else Maps.size (setD l) + 1 := by
  rw [setD_snoc, Maps.size_put (D := setD l) (Maps.tidy_setOf _ _ (keyI l)), setD_has]
  by_cases h : i ∈ l <;> simp [h]
theorem setD_size (l : List Int) : Maps.size (setD l) ≤ l.length ∧ (Maps.size (setD l) = l.length ↔ l.Nodup) := by
  induction l using rev_ind with
  | nil => exact ⟨by simp [setD, Maps.setOf, Maps.size], by simp [setD, Maps.setOf, Maps.size]⟩
  | snoc r x ih =>
    rw [setD_size_snoc, List.length_append, List.length_singleton, List.nodup_append]
    by_cases h : x ∈ r
    · rw [if_pos h]
      refine ⟨by omega, ⟨fun e => by omega, fun e => absurd rfl (e.2.2 x h x (by simp))⟩⟩
    · rw [if_neg h]
      refine ⟨by omega, ⟨fun e => ⟨ih.2.1 (by omega), by simp, fun a ha b hb => ?_⟩, fun e => by rw [ih.2.2 e.1]⟩⟩
      rw [List.mem_singleton.1 hb]
      intro e; subst e; exact h ha
section
variable {P : Program} {C : World → Prop} {n : Nat} {l : Env} {dd : Option Nat} {w : World} {ty t : TypeId} {pos : String} {af : Array Edge} {m x : Operand} {u key v : Value} {c : Bool}
theorem Pu_lookG (hm : ev l m = some u) (hx : ev l x = some key) (h : ∀ w, C w → (Instr.lookup t u key c).run P w = .ok v w) : Pu P C n l ⟨dd, .lookup t m x c, ty, pos, af, none⟩ v := fun a ha w hw => by
  simp [execOp, ha.eval hm, ha.eval hx, h w hw, Result.andThen]
theorem Pu_lenG (hm : ev l m = some u) (h : ∀ w, C w → (Builtin.len_ #[t] ty #[u]).run P w = .ok v w) : Pu P C n l ⟨dd, .call { callee := .builtin .len, args := #[m], argTypes := #[t] }, ty, pos, af, none⟩ v := fun a ha w hw => by
  simp [execOp, resolve, invoke, builtin, ha.eval hm, h w hw, Result.andThen]
theorem alloc_size (w : World) (o : Obj) : (w.alloc o).heap.size = w.heap.size + 1 := by simp
theorem TL_mapG {L : List Oper} {Q : Exit → Act → World → Prop} {d : Nat} {rest : List Oper} (hn : Nat.blt d n = true)
    (h : TL P L Q rest n ((d, .map (some w.heap.size)) :: l) (w.alloc (.map #[] 0))) : TL P L Q (⟨some d, .makeMap t none, ty, pos, af, none⟩ :: rest) n l w :=
  TL_run (w' := w.alloc (.map #[] 0)) rfl rfl hn (fun s _ => by simp [execOp, run_makeMap, Result.andThen]) h
end
section
variable {C : World → Prop} {L : List Oper} {Q : Exit → Act → World → Prop} {n d : Nat} {l : Env} {w : World} {rest : List Oper} {ty : TypeId} {pos : String} {af : Array Edge} {m x y : Operand} {b k : Nat} {dd : Option Nat}
theorem TL_makeMap {t : TypeId} (hn : Nat.blt d n = true)
    (h : ∀ w', Ext w w' → w'.heap.size = w.heap.size + 1 → MD w' w.heap.size 0 [] → MS w' w.heap.size 0 [] → TL Tryz.prog L Q rest n ((d, .map (some w.heap.size)) :: l) w') :
    TL Tryz.prog L Q (⟨some d, .makeMap t none, ty, pos, af, none⟩ :: rest) n l w := by
  exact TL_mapG hn (h _ (Ext.alloc_ _ _) (alloc_size _ _) (World.ownsMap_made _ _ _ _) (World.ownsMap_made _ _ _ _))
theorem Pu_dirLook {s : List UInt8} (hm : ev l m = some (.map (some b))) (hx : ev l x = some (S s)) (hs : s.length ≤ 9223372036854775807) {D : List LkD} (hM : ∀ w, C w → ∃ k, MD w b k D) :
    Pu Tryz.prog C n l ⟨dd, .lookup 104 m x true, ty, pos, af, none⟩ (.tuple #[I (dFind D s), .bool (dHas D s)]) := Pu_lookG hm hx fun w hw => by
  obtain ⟨k, hk⟩ := hM w hw
  obtain ⟨v, ps, hrun, hv⟩ := World.ownsMap.look_ok hk kStr mUnder (zInt w) (plI (by omega)) (kyS hs)
  rw [toD_at, toD_has] at *
  obtain ⟨c, rfl, hc, _⟩ := plainElem_int_inv Tryz.underlying3 hv
  simp only [Prod.mk.injEq, DataW.lit.injEq, Lit.int.injEq, true_and] at hc
  rw [hrun, hc.1]
theorem Pu_dirLookB {s : List UInt8} {q : Bool} (hm : ev l m = some (.map (some b))) (hx : ev l x = some (S s)) (hs : s.length ≤ 9223372036854775807) {D : List LkD} (hq : dHas D s = q) (hM : ∀ w, C w → ∃ k, MD w b k D) :
    Pu Tryz.prog C n l ⟨dd, .lookup 104 m x true, ty, pos, af, none⟩ (.tuple #[I (dFind D s), .bool q]) := by
  rw [← hq]; exact Pu_dirLook hm hx hs hM
theorem Pu_setLook {i : Int} (hm : ev l m = some (.map (some b))) (hx : ev l x = some (I i)) (hi : -9223372036854775808 ≤ i ∧ i ≤ 9223372036854775807) {s : List Int} (hM : ∀ w, C w → ∃ k, MS w b k s) :
    Pu Tryz.prog C n l ⟨dd, .lookup 172 m x false, ty, pos, af, none⟩ (I (if i ∈ s then 1 else 0)) := Pu_lookG hm hx fun w hw => by
  obtain ⟨k, hk⟩ := hM w hw
  obtain ⟨c, hrun, hc, _⟩ := World.ownsMap.lookup_int hk kInt sUnder Tryz.underlying3 (zInt w) (kyI hi)
  rw [setD_at] at hc
  simp only [DataW.lit.injEq, Lit.int.injEq, true_and] at hc
  rw [hrun, hc]
theorem Pu_setLen (hm : ev l m = some (.map (some b))) {s : List Int} (hM : ∀ w, C w → ∃ k, MS w b k s) :
    Pu Tryz.prog C n l ⟨dd, .call { callee := .builtin .len, args := #[m], argTypes := #[172] }, ty, pos, af, none⟩ (I (Maps.size (setD s) : Nat)) := Pu_lenG hm fun w hw => by
  obtain ⟨k, hk⟩ := hM w hw
  exact World.ownsMap.len hk sUnder ty
theorem TL_dirPut {D : List LkD} {s : List UInt8} {i : Int} (hm : ev l m = some (.map (some b))) (hx : ev l x = some (S s)) (hy : ev l y = some (I i)) (hM : MD w b k D) (hs : s.length ≤ 9223372036854775807)
    (hi : -9223372036854775808 ≤ i ∧ i ≤ 9223372036854775807) (hk : k < 1048576)
    (h : ∀ w', Ch (Iv b (b + 1)) w w' → w'.heap.size = w.heap.size → MD w' b (k + 1) (dIns ⟨s, i⟩ (dLess D s)) → TL Tryz.prog L Q rest n l w') :
    TL Tryz.prog L Q (⟨none, .mapUpdate 104 m x y, ty, pos, af, none⟩ :: rest) n l w := by
  unfold TL at *
  intro a ha
  refine wpList_mapUpdate_in (H := Unit) w rfl m x y _ rfl _ _ kStr mUnder (plainElem Tryz.prog 3) b k (toD D) (ha.eval hm) hM (by simp only [maxLen]; omega) (S s) (I i) (.string s) (ha.eval hx) (ha.eval hy) (kyS hs) (.lit (.int .i64 i)) [] (plI hi) ?_
  intro w' h1 h2
  obtain ⟨c1, c2⟩ := turned_ch h2
  rw [toD_put] at h1
  exact h w' c1 c2 h1 _ (ha.put_none _)
theorem TL_setPut {s : List Int} {i : Int} (hm : ev l m = some (.map (some b))) (hx : ev l x = some (I i)) (hy : ev l y = some (I 1)) (hM : MS w b k s) (hi : -9223372036854775808 ≤ i ∧ i ≤ 9223372036854775807) (hk : k < 1048576)
    (h : ∀ w', Ch (Iv b (b + 1)) w w' → w'.heap.size = w.heap.size → MS w' b (k + 1) (s ++ [i]) → TL Tryz.prog L Q rest n l w') :
    TL Tryz.prog L Q (⟨none, .mapUpdate 172 m x y, ty, pos, af, none⟩ :: rest) n l w := by
  unfold TL at *
  intro a ha
  refine wpList_mapUpdate_in (H := Unit) w rfl m x y _ rfl _ _ kInt sUnder (plainElem Tryz.prog 3) b k (setD s) (ha.eval hm) hM (by simp only [maxLen]; omega) (I i) (I 1) (.int .i64 i) (ha.eval hx) (ha.eval hy) (kyI hi) (.lit (.int .i64 1)) [] (plI (by omega)) ?_
  intro w' h1 h2
  obtain ⟨c1, c2⟩ := turned_ch h2
  rw [← setD_snoc] at h1
  exact h w' c1 c2 h1 _ (ha.put_none _)
theorem TL_dirDel {D : List LkD} {s : List UInt8} (hm : ev l m = some (.map (some b))) (hx : ev l x = some (S s)) (hM : MD w b k D) (hs : s.length ≤ 9223372036854775807)
    (h : ∀ w', Ch (Iv b (b + 1)) w w' → w'.heap.size = w.heap.size → MD w' b k (dLess D s) → TL Tryz.prog L Q rest n l w') :
    TL Tryz.prog L Q (⟨none, .call { callee := .builtin .delete, args := #[m, x], argTypes := #[104, 9] }, ty, pos, af, none⟩ :: rest) n l w := by
  unfold TL at *
  intro a ha
  refine wpList_delete_own (H := Unit) w rfl m x _ _ rfl _ kStr mUnder (plainElem Tryz.prog 3) b k (toD D) (ha.eval hm) hM (S s) (.string s) (ha.eval hx) (kyS hs) ?_
  intro w' h1 h2
  obtain ⟨c1, c2⟩ := turned_ch h2
  rw [toD_del] at h1
  exact h w' c1 c2 h1 _ (ha.put_none _)
end
end Go.Proofs.YtggaghghclomkaaGreat

/- Rows of flat records: what reads so, what a call owns; append. No condition. -/
namespace Go.Proofs.YtggaghghclomkaaGreat
open Go.RowKit
section
variable {α : Type} {f : α → List Value} {e : TypeId} {s : Nat} {w w' : World} {lo hi : Nat} {v : Value} {l : List α} {T : Nat → Prop}
def RowR (f : α → List Value) (s : Nat) (w : World) (lo hi : Nat) (v : Value) (l : List α) : Prop := ∃ (A : Option Addr) (c : Nat), v = .slice A l.length c ∧ l.length ≤ c ∧ Rd w lo hi s A l.length (cellsL f l)
def RowO (f : α → List Value) (e : TypeId) (s : Nat) (w : World) (lo hi : Nat) (v : Value) (l : List α) : Prop := ∃ (A : Option Addr) (c : Nat), v = .slice A l.length c ∧ Own w lo hi e s A l.length c (cellsL f l)
theorem RowR.ch (h : RowR f s w lo hi v l) (c : Ch T w w') (hd : ∀ k, lo ≤ k → k < hi → ¬ T k) : RowR f s w' lo hi v l := by
  obtain ⟨A, cc, h1, h2, h3⟩ := h; exact ⟨A, cc, h1, h2, h3.ch c hd⟩
theorem RowR.ext (h : RowR f s w lo hi v l) (c : Ext w w') : RowR f s w' lo hi v l := h.ch c (fun _ _ _ t => t)
theorem RowR.wide {lo' hi' : Nat} (h : RowR f s w lo hi v l) (h1 : lo' ≤ lo) (h2 : hi ≤ hi') (h3 : hi' ≤ w.heap.size) : RowR f s w lo' hi' v l := by
  obtain ⟨A, cc, g1, g2, g3⟩ := h; exact ⟨A, cc, g1, g2, g3.wide h1 h2 h3⟩
theorem RowO.ch (h : RowO f e s w lo hi v l) (c : Ch T w w') (hd : ∀ k, lo ≤ k → k < hi → ¬ T k) : RowO f e s w' lo hi v l := by
  obtain ⟨A, cc, h1, h3⟩ := h; exact ⟨A, cc, h1, h3.ch c hd⟩
theorem RowO.ext (h : RowO f e s w lo hi v l) (c : Ext w w') : RowO f e s w' lo hi v l := h.ch c (fun _ _ _ t => t)
theorem RowO.rd (h : RowO f e s w lo hi v l) : RowR f s w lo hi v l := by obtain ⟨A, cc, h1, h3⟩ := h; exact ⟨A, cc, h1, h3.cap.1, h3.rd⟩
theorem RowO.hi_le (h : RowO f e s w lo hi v l) : hi ≤ w.heap.size := by obtain ⟨A, cc, h1, h3⟩ := h; exact h3.hi_le
theorem RowO.wide {lo' hi' : Nat} (h : RowO f e s w lo hi v l) (h1 : lo' ≤ lo) (h2 : hi ≤ hi') (h3 : hi' ≤ w.heap.size) : RowO f e s w lo' hi' v l := by
  obtain ⟨A, cc, g1, g3⟩ := h; exact ⟨A, cc, g1, g3.wide h1 h2 h3⟩
theorem RowR.one (h : RowR f s w lo hi v l) : v.oneCell' = true := by obtain ⟨_, _, rfl, _⟩ := h; rfl
theorem RowO.nil (w : World) (k : Nat) (_h : k ≤ w.heap.size) : RowO f e s w k w.heap.size (.slice none 0 0) [] := ⟨none, 0, rfl, Own.nil _ _ _ _ _ (Nat.le_refl _)⟩
theorem RowO.new {w1 : World} {g n : Nat} (hs : l.length = n) (h : Own w1 g (g + 1) e s (some ⟨g, 0, none⟩) n n (cellsL f l)) (hg : g = w.heap.size) (hz : w1.heap.size = g + 1) : RowO f e s w1 w.heap.size w1.heap.size (.slice (some ⟨g, 0, none⟩) n n) l := by
  subst hs; exact ⟨_, _, rfl, h.wide (by omega) (by omega) (Nat.le_refl _)⟩
end
section
variable {α : Type} {f : α → List Value} {e : TypeId} {P : Program} {L : List Oper} {Q : Exit → Act → World → Prop} {n d : Nat} {l : Env} {w : World} {rest : List Oper} {ty : TypeId} {pos : String} {af : Array Edge} {v v2 : Value} {x y : Operand} {t : TypeId}
/-- Own records are appended to. -/
theorem TL_appendRow {lo hi lo2 hi2 size bytes : Nat} {z : Value} {s s2 : List α} (ht : P.underlying t = some (.slice e)) (hi0 : (P.info? e).map (fun i => (i.zero, i.size, i.bytes)) = some (some z, size, bytes)) (hzs : z.cells.size = size) (hpos : Nat.blt 0 size = true) (hby : Nat.ble bytes 1024 = true)
    (hone : ∀ a, ∀ u ∈ f a, u.oneCell' = true) (hx : ev l x = some v) (hy : ev l y = some v2) (ho : RowO f e size w lo hi v s) (hr : RowR f size w lo2 hi2 v2 s2)
    (hlo : lo ≤ w.heap.size) (hm : s.length + s2.length ≤ 1073741824) (hn : Nat.blt d n = true)
    (h : ∀ w' v', Ch (Iv lo hi) w w' → RowO f e size w' lo w'.heap.size v' (s ++ s2) → TL P L Q rest n ((d, v') :: l) w') :
    TL P L Q (⟨some d, .call { callee := .builtin .append, args := #[x, y], argTypes := #[t, t] }, ty, pos, af, none⟩ :: rest) n l w := by
  obtain ⟨A, c, rfl, ho⟩ := ho
  obtain ⟨A2, c2, rfl, _, hr⟩ := hr
  have hb : (s.length + s2.length) * bytes ≤ 140737488355328 := Nat.le_trans (Nat.mul_le_mul hm (Nat.le_of_ble_eq_true hby)) (by decide)
  refine TL_append ht hi0 hzs hpos hx hy ho hr (cellsL_one hone s2) hlo hb (by omega) hn ?_
  intro w1 hi1 A1 c1 hch h1 h2 h3 hown
  have hz := hch.size
  have hh := ho.hi_le
  exact h w1 _ hch ⟨A1, c1, by rw [List.length_append], (hown.wide (Nat.le_refl _) (by omega) (Nat.le_refl _)).cast (by rw [List.length_append]) (cellsL_append _ _).symm⟩
end
/-! links, turns, numbers -/
theorem LkC_one (d : LkD) : ∀ u ∈ LkC d, u.oneCell' = true := by intro u hu; simp [LkC] at hu; rcases hu with rfl | rfl <;> rfl
theorem TnC_one (d : TnD) : ∀ u ∈ TnC d, u.oneCell' = true := by intro u hu; simp [TnC] at hu; rcases hu with rfl | rfl | rfl | rfl <;> rfl
def InC (i : Int) : List Value := [I i]
theorem InC_len (i : Int) : (InC i).length = 1 := rfl
theorem InC_one (d : Int) : ∀ u ∈ InC d, u.oneCell' = true := by intro u hu; simp [InC] at hu; rcases hu with rfl; rfl
theorem RK.row {w : World} {lo hi : Nat} {v : Value} {l : List LinkP} (h : RK w lo hi v l) : RowR LkC 2 w lo hi v l := by
  obtain ⟨ds, A, c, h1, h2, h3, h4, _⟩ := h
  have : ds = l := by rw [← h1]; exact (List.map_id ds).symm
  subst this
  exact ⟨A, c, h2, h3, h4⟩
theorem RowR.rk {w : World} {lo hi : Nat} {v : Value} {l : List LkD} (h : RowR LkC 2 w lo hi v l) : RK w lo hi v l := by
  obtain ⟨A, c, h1, h2, h3⟩ := h
  exact ⟨l, A, c, List.map_id l, h1, h2, h3, fun _ _ => trivial⟩
theorem RT.row {w : World} {lo hi : Nat} {v : Value} {l : List TurnP} (h : RT w lo hi v l) : RowR TnC 4 w lo hi v l := by
  obtain ⟨ds, A, c, h1, h2, h3, h4, _⟩ := h
  have : ds = l := by rw [← h1]; exact (List.map_id ds).symm
  subst this
  exact ⟨A, c, h2, h3, h4⟩
theorem RowR.rt {w : World} {lo hi : Nat} {v : Value} {l : List TnD} (h : RowR TnC 4 w lo hi v l) : RT w lo hi v l := by
  obtain ⟨A, c, h1, h2, h3⟩ := h
  exact ⟨l, A, c, List.map_id l, h1, h2, h3, fun _ _ => trivial⟩
theorem fillK (d : LkD) : Instr.fill (fun i => some (i * 2, 2)) ((Array.range (1 * 2)).map ((Value.agg #[.string ByteArray.empty, .int .i64 0]).cells[· % (Value.agg #[.string ByteArray.empty, .int .i64 0]).cells.size]!)) [(0, .agg (LkC d).toArray)] = some (cellsL LkC [d]).toArray := by kernel_rfl
theorem fillT (d : TnD) : Instr.fill (fun i => some (i * 4, 4)) ((Array.range (1 * 4)).map ((Value.agg #[.int .i64 0, .string ByteArray.empty, .string ByteArray.empty, .int .i64 0]).cells[· % (Value.agg #[.int .i64 0, .string ByteArray.empty, .string ByteArray.empty, .int .i64 0]).cells.size]!)) [(0, .agg (TnC d).toArray)] = some (cellsL TnC [d]).toArray := by kernel_rfl
theorem fillI (i : Int) : Instr.fill (fun i => some (i * 1, 1)) ((Array.range (1 * 1)).map ((Value.int .i64 0).cells[· % (Value.int .i64 0).cells.size]!)) [(0, I i)] = some (cellsL InC [i]).toArray := by kernel_rfl
theorem lk_own {w1 : World} {g n : Nat} {d : LkD} {e : TypeId} {w : World} (h : Own w1 g (g + 1) e 2 (some ⟨g, 0, none⟩) n n (cellsL LkC [d])) (hn : n = 1) (hg : g = w.heap.size) (hz : w1.heap.size = g + 1) : RowO LkC e 2 w1 w.heap.size w1.heap.size (.slice (some ⟨g, 0, none⟩) n n) [d] := RowO.new (by rw [hn]; rfl) h hg hz
end Go.Proofs.YtggaghghclomkaaGreat

/- Links that a call owns, sorted by the library; ranges over maps that the program makes. No condition. -/
namespace Go.Proofs.YtggaghghclomkaaGreat
open Go.RowKit
attribute [local irreducible] TL TC TN TX TR TQ TA Ret
instance : Inhabited LkD := ⟨⟨[], 0⟩⟩
theorem flatK_list {α : Type} [Inhabited α] {f : α → List Value} {k : Nat} (hf : ∀ a, (f a).length = k) (l : List α) : (Sort.flatK f k l.toArray).toList = cellsL f l := by
  apply List.ext_getElem?
  intro t
  by_cases ht : t < l.length * k
  · have hk : 0 < k := by
      rcases Nat.eq_zero_or_pos k with h | h
      · subst h; simp at ht
      · exact h
    have e1 := Sort.get_flatK f k l.toArray t (by simpa using ht)
    have hq : t / k < l.length := by rw [Nat.div_lt_iff_lt_mul hk]; exact ht
    have hm := Nat.mod_lt t hk
    have h2 := cellsL_at hf l (t / k) (t % k) hq hm
    rw [Nat.div_add_mod'] at h2
    rw [h2]
    have hs : t < (Sort.flatK f k l.toArray).size := by simpa using ht
    rw [Array.getElem?_toList, Array.getElem?_eq_getElem hs, ← getElem!_pos _ t hs, e1]
    have h3 : l.toArray[t / k]! = l[t / k] := by simp [hq]
    rw [h3, getElem!_pos _ _ (by rw [hf]; exact hm), List.getElem?_eq_getElem (by rw [hf]; exact hm)]
  · rw [List.getElem?_eq_none (by simpa using ht), List.getElem?_eq_none (by rw [cellsL_length hf]; omega)]
section
variable {w : World} {lo hi n c g m : Nat} {e : TypeId} {l l' : List LkD}
theorem holdsK_own (h : Own w lo hi e 2 (some ⟨g, 0, none⟩) n c (cellsL LkC l)) : Sort.HoldsK LkC 2 w g 0 l.toArray := by
  intro j hj
  have hj' : j < l.length * 2 := by simpa using hj
  have hl := h.len
  rw [cellsL_length LkC_len] at hl
  have h1 := h.row.cellAt j (by omega)
  have h2 := h.row.frozenAt j
  rw [Nat.zero_add]
  refine ⟨?_, h2⟩
  rw [h1, ← flatK_list LkC_len l, Array.getElem?_toList, Array.getElem?_eq_getElem (by simpa using hj'), getElem!_pos _ j hj]
  rfl
theorem Own.sorted (h : Own w lo hi e 2 (some ⟨g, 0, none⟩) n c (cellsL LkC l)) (hl : l'.length = l.length) (os : Array Obj) :
    Ch (Iv g (g + 1)) w (Sort.grow (Sort.putRowK LkC 2 (Sort.ahead w m) g 0 l'.toArray) os) ∧ Own (Sort.grow (Sort.putRowK LkC 2 (Sort.ahead w m) g 0 l'.toArray) os) lo hi e 2 (some ⟨g, 0, none⟩) n c (cellsL LkC l') := by
  have hlen := h.len
  have hlt := h.lt
  have hhi := h.hi_le
  rw [cellsL_length LkC_len] at hlen
  rcases h.row.2 with ⟨hv, _⟩ | ⟨g', cap, cur, hv, hbase, hb, h1, h2, h3, h4⟩
  · cases hv
  injection hv with hA _ hc
  injection hA with hA
  injection hA with hA
  subst hA hc
  have hg : g < w.heap.size := (Array.getElem?_eq_some_iff.1 hb).1
  have hb' : (Sort.grow (Sort.putRowK LkC 2 (Sort.ahead w m) g 0 l'.toArray) os).heap[g]? = some (.cells (Sort.putCells id 0 (Sort.flatK LkC 2 l'.toArray) cur) e (0, 0)) := by
    rw [Sort.heap_grow_old _ _ (by simpa [Sort.putRowK] using hg)]
    simp [Sort.putRowK, Sort.putRow, Sort.mapBlock, Sort.ahead, Array.getElem?_modify, hb, Sort.onCells]
  have hsz : (Sort.flatK LkC 2 l'.toArray).size = n * 2 := by simp; omega
  refine ⟨⟨rfl, rfl, rfl, by simp [Sort.putRowK], fun k hk hn => ?_⟩, ⟨by simp [Sort.putRowK]; omega, ⟨by rw [cellsL_length LkC_len]; omega, .inr ⟨g, c, _, rfl, hbase, hb', h1, h2, by simp [Sort.putCells, h3], ?_⟩⟩, hlt⟩⟩
  · rw [Sort.heap_grow_old _ _ (by simpa [Sort.putRowK] using hk)]
    have : g ≠ k := fun e => hn (by subst e; exact ⟨Nat.le_refl _, Nat.lt_succ_self _⟩)
    simp [Sort.putRowK, Sort.putRow, Sort.mapBlock, Sort.ahead, Array.getElem?_modify, this]
  · rw [← flatK_list LkC_len l']
    apply List.ext_getElem?
    intro j
    by_cases hj : j < n * 2
    · have hjc : j < cur.size := by rw [h3]; omega
      have hjf : j < (Sort.flatK LkC 2 l'.toArray).size := by omega
      rw [List.getElem?_take_of_lt hj, Array.getElem?_toList, Array.getElem?_toList, Array.getElem?_eq_getElem hjf]
      simp only [Sort.putCells, Array.getElem?_mapIdx, Array.getElem?_eq_getElem hjc, Option.map_some]
      rw [if_pos ⟨Nat.zero_le _, by omega⟩, Nat.sub_zero, getElem!_pos _ j hjf]
      rfl
    · rw [List.getElem?_take_eq_none (by omega), List.getElem?_eq_none (by rw [Array.length_toList]; omega)]
theorem grow_ch (w : World) (os : Array Obj) : Ext w (Sort.grow w os) := ⟨rfl, rfl, rfl, by simp, fun k hk _ => Sort.heap_grow_old w os hk⟩
end
/-! ### the order of names -/
def ltK (a b : LkD) : Bool := bytesBefore a.name b.name
theorem swoK : Sort.SWO ltK where
  irrefl := fun x => bb_irrefl _
  trans := fun x y z h1 h2 => bb_trans h1 h2
  ntrans := fun x y z h1 h2 => by
    unfold ltK at *
    cases h : bytesBefore x.name z.name with
    | false => rfl
    | true =>
      by_cases e : y.name = z.name
      · rw [e, h] at h1; cases h1
      · rcases bb_total e with h3 | h3
        · rw [h3] at h2; cases h2
        · rw [bb_trans h h3] at h1; cases h1
theorem asc_nodup {L : List LkD} (h : Asc L) : (L.map (·.name)).Nodup := by
  unfold List.Nodup
  rw [List.pairwise_map]
  exact h.imp fun {a b} hab e => by rw [e, bb_irrefl] at hab; cases hab
theorem asc_find {L : List LkD} (h : Asc L) {x : LkD} (hx : x ∈ L) : dFind L x.name = x.id := by
  induction L with
  | nil => cases hx
  | cons y r ih =>
    unfold Asc at h
    rw [List.pairwise_cons] at h
    unfold dFind
    rw [List.find?_cons]
    by_cases e : y.name = x.name
    · rw [show (y.name == x.name) = true by simp [e]]
      rcases List.mem_cons.1 hx with rfl | hx
      · rfl
      · have := h.1 x hx
        rw [e, bb_irrefl] at this; cases this
    · rw [show (y.name == x.name) = false by simp [e]]
      rcases List.mem_cons.1 hx with rfl | hx
      · exact absurd rfl e
      · exact ih h.2 hx
theorem asc_gather {L : List LkD} (h : Asc L) : (L.map (·.name)).map (fun s => (⟨s, dFind L s⟩ : LkD)) = L := by
  rw [List.map_map]
  conv => rhs; rw [← List.map_id L]
  exact List.map_congr_left fun x hx => by simp only [Function.comp, id, asc_find h hx]
theorem asc_unique {A L : List LkD} (hp : A.Perm L) (hL : Asc L) (hA : ∀ i j, i < j → j < A.length → ltK A[j]! A[i]! = false) : A = L := by
  have hn : (A.map (·.name)).Nodup := ((hp.map (·.name)).nodup_iff).2 (asc_nodup hL)
  have hA' : Asc A := by
    unfold Asc
    rw [List.pairwise_iff_getElem]
    intro i j hi hj hij
    have h1 := hA i j hij hj
    rw [getElem!_pos A j hj, getElem!_pos A i hi] at h1
    have hne : A[i].name ≠ A[j].name := by
      unfold List.Nodup at hn
      rw [List.pairwise_map, List.pairwise_iff_getElem] at hn
      exact hn i j hi hj hij
    exact (bb_total hne).resolve_right (by unfold ltK at h1; rw [h1]; decide)
  exact List.Perm.eq_of_pairwise (le := fun x y : LkD => bytesBefore x.name y.name = true) (fun a b _ _ h1 h2 => by rw [bb_asymm h1] at h2; cases h2) hA' hL hp
theorem strKeys_toD (L : List LkD) : strKeys (toD L) = L.map (·.name) := by
  unfold strKeys toD
  simp only [List.map_map]
  rfl
theorem size_toD (L : List LkD) : Maps.size (toD L) = L.length := by simp [Maps.size, toD]
/-! ### ranges over a directory -/
section
variable {P : Program} {C : World → Prop} {n : Nat} {l : Env} {dd : Option Nat} {ty t : TypeId} {pos : String} {af : Array Edge} {x : Operand} {v u : Value} {f : FuncId} {ds : TypeDesc}
theorem Pu_iface {e : TypeId} (hu : P.underlying t = some (.slice e)) (hx : ev l x = some v) : Pu P C n l ⟨dd, .makeInterface t x, ty, pos, af, none⟩ (.iface t v) := fun a ha w _ => by
  simp [execOp, ha.eval hx, Instr.makeInterface, run_underlying hu, Result.andThen]
theorem Pu_func1 (hx : ev l x = some v) : Pu P C n l ⟨dd, .makeFunc (.func f) #[] #[x], ty, pos, af, none⟩ (.func (.func f) #[] #[v]) := fun a ha w _ => by
  simp [execOp, ha.eval hx, Instr.makeFunc]
theorem Pu_entryG (hx : ev l x = some u) (h : ∀ w, C w → (Instr.entry u).run P w = .ok v w) : Pu P C n l ⟨dd, .entry x, ty, pos, af, none⟩ v := fun a ha w hw => by
  simp [execOp, ha.eval hx, h w hw, Result.andThen]
theorem TL_rangeG {L : List Oper} {Q : Exit → Act → World → Prop} {d : Nat} {rest : List Oper} {w w' : World} (hx : ev l x = some u) (hr : (Instr.range t u).run P w = .ok v w') (hn : Nat.blt d n = true)
    (h : TL P L Q rest n ((d, v) :: l) w') : TL P L Q (⟨some d, .range t x, ty, pos, af, none⟩ :: rest) n l w :=
  TL_run (w' := w') rfl rfl hn (fun a ha => by simp [execOp, ha.eval hx, hr, Result.andThen]) h
theorem TL_nextG {L : List Oper} {Q : Exit → Act → World → Prop} {d : Nat} {rest : List Oper} {w w' : World} {b : Bool} (hx : ev l x = some u) (hr : (Instr.next u b ty).run P w = .ok v w') (hn : Nat.blt d n = true)
    (h : TL P L Q rest n ((d, v) :: l) w') : TL P L Q (⟨some d, .next x b, ty, pos, af, none⟩ :: rest) n l w :=
  TL_run (w' := w') rfl rfl hn (fun a ha => by simp [execOp, ha.eval hx, hr, Result.andThen]) h
end
def MR (w : World) (b r k : Nat) (D : List LkD) (left : Lit → Bool) (cnt : Nat) : Prop := w.ranges Tryz.prog 9 (plainElem Tryz.prog 3) b r k (toD D) left cnt
section
variable {L : List Oper} {Q : Exit → Act → World → Prop} {n d : Nat} {l : Env} {w w' : World} {rest : List Oper} {ty : TypeId} {pos : String} {af : Array Edge} {x : Operand} {b k r cnt : Nat} {D : List LkD} {left : Lit → Bool} {T : Nat → Prop}
theorem MR.ch (h : MR w b r k D left cnt) (c : Ch T w w') (hb : ¬ T b) (hr : ¬ T r) : MR w' b r k D left cnt := by
  have h1 := World.ownsMap.lt (World.ranges.owns h)
  have h2 := World.ranges.lt h
  obtain ⟨es, clock, since, seen, c0, hb', F, hs, hD, hr', rest⟩ := h
  exact ⟨es, clock, since, seen, c0, (c.block b h1 hb).trans hb', F, hs, hD, (c.block r h2 hr).trans hr', rest⟩
theorem TL_range (hx : ev l x = some (.map (some b))) (hM : MD w b k D) (hn : Nat.blt d n = true)
    (h : ∀ w' r, Ext w w' → r = w.heap.size → w'.heap.size = r + 1 → MR w' b r k D (Maps.has (toD D)) D.length → TL Tryz.prog L Q rest n ((d, .pointer (some ⟨r, 0, none⟩)) :: l) w') :
    TL Tryz.prog L Q (⟨some d, .range 104 x, ty, pos, af, none⟩ :: rest) n l w := by
  obtain ⟨w', hr, h1, h2, h3⟩ := World.ownsMap.range hM kStr mUnder
  rw [size_toD] at h1
  exact TL_rangeG hx hr hn (h w' _ (Ch.of_grown h2 (fun _ e => by cases e)) rfl h3 h1)
theorem TL_next (hx : ev l x = some (.pointer (some ⟨r, 0, none⟩))) (hR : MR w b r k D left cnt) (hn : Nat.blt d n = true)
    (h0 : (∀ kl, left kl = false) → TL Tryz.prog L Q rest n ((d, .tuple #[.bool false]) :: l) w)
    (h1 : ∀ s w' cnt', left (.string s) = true → s.length ≤ 9223372036854775807 → (∀ zd, (toD D).atKey (.string s) zd = .lit (.int .i64 (dFind D s))) → MR w' b r k D (fun z => left z && !z.sameKey (.string s)) cnt' → cnt' < cnt → Ch (Iv r (r + 1)) w w' → w'.heap.size = w.heap.size →
      (Instr.entry (.pointer (some ⟨r, 0, none⟩))).run Tryz.prog w' = .ok (.tuple #[S s, I (dFind D s)]) w' → TL Tryz.prog L Q rest n ((d, .tuple #[.bool true, S s, I (dFind D s)]) :: l) w') :
    TL Tryz.prog L Q (⟨some d, .next x false, ty, pos, af, none⟩ :: rest) n l w := by
  rcases World.ranges.next hR kStr ty with ⟨_, hl, hr⟩ | ⟨key, v, kl, y, w', cnt', hkey, hlk, hv, hat, hr, h2, h3, h4, h5, h6⟩
  · exact TL_nextG hx hr hn (h0 hl)
  · obtain ⟨s, rfl, rfl, hs⟩ := Maps.keyOf_str Tryz.underlying9 hkey
    obtain ⟨c, rfl, rfl, _⟩ := plainElem_int_inv Tryz.underlying3 hv
    have hc := hat (.lit (.int .i64 0))
    rw [toD_at] at hc
    simp only [DataW.lit.injEq, Lit.int.injEq, true_and] at hc
    subst hc
    refine TL_nextG hx hr hn (h1 s w' cnt' hlk (by simpa [maxLen] using hs) hat h2 h3 (Ch.of_grown h4 (fun k hk => by injection hk with hk; subst hk; exact ⟨Nat.le_refl _, Nat.lt_succ_self _⟩)) h5 h6)
end
end Go.Proofs.YtggaghghclomkaaGreat

/- The library contract for sort.Slice, laid at this program; written by the kit's tools. No condition. -/
namespace Go.Proofs
open Go.Shelf
def Tryz.laysGg6_ren : Go.Shelf.Ren := ⟨fun | 6 => 143 | 10 => 172 | 11 => 173 | 12 => 174 | 13 => 175 | 14 => 176 | 24 => 191 | 25 => 192 | 26 => 193 | 27 => 194 | 28 => 195 | 29 => 196 | 30 => 197 | 31 => 198 | 32 => 199 | 33 => 200 | 34 => 202 | 35 => 203 | 36 => 204 | 37 => 205 | 38 => 206 | 39 => 207 | n => n, fun | 20 => 20 | 26 => 137 | 35 => 196 | 0 => 0 | 37 => 198 | 3 => 3 | 41 => 202 | 44 => 205 | 49 => 210 | 51 => 216 | 4 => 4 | 54 => 219 | 53 => 218 | 58 => 141 | 5 => 5 | 9 => 9 | 60 => 225 | 64 => 229 | 66 => 231 | 67 => 232 | 17 => 17 | 32 => 193 | 33 => 194 | 82 => 247 | 12 => 12 | 75 => 240 | 76 => 241 | 77 => 242 | 78 => 243 | 79 => 244 | 80 => 245 | n => n, fun | n => n⟩
theorem Tryz.laysGg6 : Go.Proofs.LaysGg.n6 Tryz.prog Tryz.laysGg6_ren := {
  mixed := by kernel_rfl
  f6 := Tryz.func143.trans (congrArg some (by kernel_rfl))
  f10 := Tryz.func172.trans (congrArg some (by kernel_rfl))
  f11 := Tryz.func173.trans (congrArg some (by kernel_rfl))
  f12 := Tryz.func174.trans (congrArg some (by kernel_rfl))
  f13 := Tryz.func175.trans (congrArg some (by kernel_rfl))
  f14 := Tryz.func176.trans (congrArg some (by kernel_rfl))
  f24 := Tryz.func191.trans (congrArg some (by kernel_rfl))
  f25 := Tryz.func192.trans (congrArg some (by kernel_rfl))
  f26 := Tryz.func193.trans (congrArg some (by kernel_rfl))
  f27 := Tryz.func194.trans (congrArg some (by kernel_rfl))
  f28 := Tryz.func195.trans (congrArg some (by kernel_rfl))
  f29 := Tryz.func196.trans (congrArg some (by kernel_rfl))
  f30 := Tryz.func197.trans (congrArg some (by kernel_rfl))
  f31 := Tryz.func198.trans (congrArg some (by kernel_rfl))
  f32 := Tryz.func199.trans (congrArg some (by kernel_rfl))
  f33 := Tryz.func200.trans (congrArg some (by kernel_rfl))
  f34 := Tryz.func202.trans (congrArg some (by kernel_rfl))
  f35 := Tryz.func203.trans (congrArg some (by kernel_rfl))
  f36 := Tryz.func204.trans (congrArg some (by kernel_rfl))
  f37 := Tryz.func205.trans (congrArg some (by kernel_rfl))
  f38 := Tryz.func206.trans (congrArg some (by kernel_rfl))
  f39 := Tryz.func207.trans (congrArg some (by kernel_rfl))
  t0 := Tryz.underlying0
  a0 := Tryz.isAgg0
  z0 := Tryz.sizeOf0
  v0 := Tryz.zeroValue0
  i0 := by kernel_rfl
  t3 := Tryz.underlying3
  a3 := Tryz.isAgg3
  z3 := Tryz.sizeOf3
  v3 := Tryz.zeroValue3
  i3 := by kernel_rfl
  t4 := Tryz.underlying4
  a4 := Tryz.isAgg4
  z4 := Tryz.sizeOf4
  v4 := Tryz.zeroValue4
  i4 := by kernel_rfl
  t5 := Tryz.underlying5
  a5 := Tryz.isAgg5
  z5 := Tryz.sizeOf5
  v5 := Tryz.zeroValue5
  i5 := by kernel_rfl
  t9 := Tryz.underlying9
  a9 := Tryz.isAgg9
  z9 := Tryz.sizeOf9
  v9 := Tryz.zeroValue9
  i9 := by kernel_rfl
  t12 := Tryz.underlying12
  a12 := Tryz.isAgg12
  z12 := Tryz.sizeOf12
  v12 := Tryz.zeroValue12
  i12 := by kernel_rfl
  t17 := Tryz.underlying17
  a17 := Tryz.isAgg17
  z17 := Tryz.sizeOf17
  v17 := Tryz.zeroValue17
  i17 := by kernel_rfl
  t20 := Tryz.underlying20
  a20 := Tryz.isAgg20
  z20 := Tryz.sizeOf20
  v20 := Tryz.zeroValue20
  i20 := by kernel_rfl
  t26 := Tryz.underlying137
  a26 := Tryz.isAgg137
  z26 := Tryz.sizeOf137
  v26 := Tryz.zeroValue137
  i26 := by kernel_rfl
  t32 := Tryz.underlying193
  a32 := Tryz.isAgg193
  z32 := Tryz.sizeOf193
  v32 := Tryz.zeroValue193
  i32 := by kernel_rfl
  t33 := Tryz.underlying194
  a33 := Tryz.isAgg194
  z33 := Tryz.sizeOf194
  v33 := Tryz.zeroValue194
  i33 := by kernel_rfl
  t35 := Tryz.underlying196
  a35 := Tryz.isAgg196
  z35 := Tryz.sizeOf196
  v35 := Tryz.zeroValue196
  i35 := by kernel_rfl
  t37 := Tryz.underlying198
  a37 := Tryz.isAgg198
  z37 := Tryz.sizeOf198
  v37 := Tryz.zeroValue198
  i37 := by kernel_rfl
  t41 := Tryz.underlying202
  a41 := Tryz.isAgg202
  z41 := Tryz.sizeOf202
  v41 := Tryz.zeroValue202
  i41 := by kernel_rfl
  t44 := Tryz.underlying205
  a44 := Tryz.isAgg205
  z44 := Tryz.sizeOf205
  v44 := Tryz.zeroValue205
  i44 := by kernel_rfl
  t49 := Tryz.underlying210
  a49 := Tryz.isAgg210
  z49 := Tryz.sizeOf210
  v49 := Tryz.zeroValue210
  i49 := by kernel_rfl
  t51 := Tryz.underlying216
  a51 := Tryz.isAgg216
  z51 := Tryz.sizeOf216
  v51 := Tryz.zeroValue216
  i51 := by kernel_rfl
  t53 := Tryz.underlying218
  a53 := Tryz.isAgg218
  z53 := Tryz.sizeOf218
  v53 := Tryz.zeroValue218
  i53 := by kernel_rfl
  t54 := Tryz.underlying219
  a54 := Tryz.isAgg219
  z54 := Tryz.sizeOf219
  v54 := Tryz.zeroValue219
  i54 := by kernel_rfl
  t58 := Tryz.underlying141
  a58 := Tryz.isAgg141
  z58 := Tryz.sizeOf141
  v58 := Tryz.zeroValue141
  i58 := by kernel_rfl
  t60 := Tryz.underlying225
  a60 := Tryz.isAgg225
  z60 := Tryz.sizeOf225
  v60 := Tryz.zeroValue225
  i60 := by kernel_rfl
  t64 := Tryz.underlying229
  a64 := Tryz.isAgg229
  z64 := Tryz.sizeOf229
  v64 := Tryz.zeroValue229
  i64 := by kernel_rfl
  t66 := Tryz.underlying231
  a66 := Tryz.isAgg231
  z66 := Tryz.sizeOf231
  v66 := Tryz.zeroValue231
  i66 := by kernel_rfl
  t67 := Tryz.underlying232
  a67 := Tryz.isAgg232
  z67 := Tryz.sizeOf232
  v67 := Tryz.zeroValue232
  i67 := by kernel_rfl
  t75 := Tryz.underlying240
  a75 := Tryz.isAgg240
  z75 := Tryz.sizeOf240
  v75 := Tryz.zeroValue240
  i75 := by kernel_rfl
  t76 := Tryz.underlying241
  a76 := Tryz.isAgg241
  z76 := Tryz.sizeOf241
  v76 := Tryz.zeroValue241
  i76 := by kernel_rfl
  t77 := Tryz.underlying242
  a77 := Tryz.isAgg242
  z77 := Tryz.sizeOf242
  v77 := Tryz.zeroValue242
  i77 := by kernel_rfl
  t78 := Tryz.underlying243
  a78 := Tryz.isAgg243
  z78 := Tryz.sizeOf243
  v78 := Tryz.zeroValue243
  i78 := by kernel_rfl
  t79 := Tryz.underlying244
  a79 := Tryz.isAgg244
  z79 := Tryz.sizeOf244
  v79 := Tryz.zeroValue244
  i79 := by kernel_rfl
  t80 := Tryz.underlying245
  a80 := Tryz.isAgg245
  z80 := Tryz.sizeOf245
  v80 := Tryz.zeroValue245
  i80 := by kernel_rfl
  t82 := Tryz.underlying247
  a82 := Tryz.isAgg247
  z82 := Tryz.sizeOf247
  v82 := Tryz.zeroValue247
  i82 := by kernel_rfl }
end Go.Proofs
