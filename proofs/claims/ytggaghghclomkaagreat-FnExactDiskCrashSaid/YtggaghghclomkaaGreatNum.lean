/- Contracts: numbers in bytes, checksums, digits. -/
import Derived.Test.YtggaghghclomkaaGreatNumL
import Derived.Test.YtggaghghclomkaaGreatPure
import Derived.Test.YtggaghghclomkaaGreatAny
import Derived.Lib.Bytealg
namespace Go.Proofs.YtggaghghclomkaaGreat
open Go.RowKit
attribute [local irreducible] TL TC TN TX TR TQ TA Pu Ret

section
variable {P : Program} {C : World → Prop} {n : Nat} {l : Env} {dd : Option Nat} {ty : TypeId} {pos : String} {af : Array Edge} {v : Value}
/-- A call of a function that the model carries out itself. -/
theorem Pu_extern {f : FuncId} {xs : List Operand} {ats : Array TypeId} {vs : List Value} (hx : evs l xs = some vs) (hr : ∀ w, (callFunc f vs.toArray).run P w = .ok (.value v) w) :
    Pu P C n l ⟨dd, .call { callee := .value (.func f), args := xs.toArray, argTypes := ats }, ty, pos, af, none⟩ v := by
  unfold Pu
  intro a ha w _
  have hm : xs.toArray.map a.eval = vs.toArray := by rw [List.map_toArray, ha.evals hx]
  have hm' : #[] ++ xs.toArray.map a.eval ++ #[] = vs.toArray := by simpa using hm
  unfold execOp
  simp only [resolve, Act.eval, Deferred.ofValue, Sem.run_bind, Sem.run_pure, Result.andThen_ok, invoke]
  show (callFunc f (#[] ++ xs.toArray.map (fun x => a.eval x) ++ #[])).run P w = _
  rw [show (fun x => a.eval x) = a.eval from rfl, hm', hr w]
end
theorem l01Pow_c (k : Nat) (w : World) (hk : k ≤ 4) : Ret Tryz.prog 181 #[I k] w fun v w' => v = I (256 ^ k) ∧ w = w' := by
  refine Ret_enter Tryz.func181 rfl rfl rfl ?_
  repeat' (first | apply Jbq | apply Jbr | apply Jbs | apply Jbt | apply Jby | (apply Jcg; exact Jab rfl; exact rfl))
  refine TC_loop (ι := Nat) (fun i => [(0, I k), (3, I (256 ^ i)), (4, I i)]) (fun i w' => i ≤ k ∧ w = w') (fun i => k - i) 0 (subEnv_cons rfl (subEnv_cons rfl (subEnv_cons rfl (subEnv_nil _)))) ⟨Nat.zero_le _, rfl⟩ ?_
  rintro i _ ⟨hi, rfl⟩
  have hp := pow4 i (by omega)
  repeat' (first | apply Jbq | apply Jbr | apply Jbs | apply Jbt | (apply Jcg; (first | exact Jaa rfl | exact Jad rfl rfl); exact rfl))
  refine Jcx rfl (fun hb => ?_) (fun hb => ?_)
  · repeat' (first | apply Jbq | apply Jbr | apply Jbs | apply Jbt | apply Jbx | apply Jby | apply Jbz | (apply Jcg; (first | exact Jaa rfl | exact Jab rfl | exact Jaf rfl rfl (by omega) | exact Jbk rfl rfl (by omega)); exact rfl))
    exact TN_round (i + 1) (subEnv_cons rfl (subEnv_cons (congrArg (fun z => some (I z)) (Int.pow_succ _ _).symm) (subEnv_cons rfl (subEnv_nil _)))) ⟨by omega, rfl⟩ (by omega)
  · obtain rfl : i = k := by omega
    repeat' (first | apply Jbq | apply Jbr | apply Jbs | apply Jbt | apply Jbu | apply Jca | apply Jcb | apply Jcc | (apply Jcg; (first | exact Jaa rfl | exact Jab rfl); exact rfl))
    exact TR_of (res1 rfl rfl) ⟨rfl, rfl⟩
theorem shr_pow {n : Int} (k : Nat) (hk : k < 4) : n.fdiv (2 ^ (min (8 * (k : Int)).toNat IntKind.i64.bits)) = n / 256 ^ k := by
  rw [Int.fdiv_eq_ediv_of_nonneg _ (by exact Int.pow_nonneg (by omega))]
  congr 1
  match k, hk with
  | 0, _ | 1, _ | 2, _ | 3, _ => decide
set_option maxHeartbeats 1000000 in
theorem putNum_c {lo : Nat} {v : Value} {b : List UInt8} {n : Int} {k : Nat} {w : World} (ho : OB w lo w.heap.size v b) (hlo : lo ≤ w.heap.size) (hl : b.length ≤ 1048576) (hk : k ≤ 4) :
    Ret Tryz.prog 163 #[v, I n, I k] w fun v' w' => Ch (Iv lo w.heap.size) w w' ∧ OB w' lo w'.heap.size v' (b ++ putR n k) := by
  refine Ret_enter Tryz.func163 rfl rfl rfl ?_
  repeat' (first | apply Jbq | apply Jbr | apply Jbs | apply Jbt | apply Jby | (apply Jcg; (first | exact Jaa rfl | exact Jab rfl | exact Jap rfl rfl (by omega)); exact rfl))
  refine TC_loop (ι := Nat × List UInt8 × Value) (fun x => [(0, x.2.2), (1, I n), (7, I ((x.1 : Int) - 1))])
    (fun x w' => x.1 ≤ k ∧ x.2.1 ++ putR n x.1 = b ++ putR n k ∧ x.2.1.length + x.1 = b.length + k ∧ Ch (Iv lo w.heap.size) w w' ∧ OB w' lo w'.heap.size x.2.2 x.2.1) (fun x => x.1) (k, b, v) (subEnv_cons rfl (subEnv_cons rfl (subEnv_cons rfl (subEnv_nil _)))) ⟨Nat.le_refl _, rfl, rfl, Ch.refl _ _, ho⟩ ?_
  rintro ⟨m, acc, va⟩ w2 ⟨hm, heq, hlen, e2, ho2⟩
  simp only at hm heq hlen ho2
  repeat' (first | apply Jbq | apply Jbr | apply Jbs | apply Jbt | (apply Jcg; (first | exact Jaa rfl | exact Jao rfl rfl); exact rfl))
  refine Jcx rfl (fun hb => ?_) (fun hb => ?_)
  · obtain ⟨j, rfl⟩ : ∃ j, m = j + 1 := ⟨m - 1, by omega⟩
    rw [show ((j + 1 : Nat) : Int) - 1 = j by omega]
    repeat' (first | apply Jbr | apply Jbs | apply Jbt | apply Jby | apply Jbz | (apply Jcg; (first | exact Jaa rfl | exact Jaw Us.h Us.h rfl | exact Jbk rfl rfl (by omega)); exact rfl) | refine Jcg (Pu_shr rfl rfl (by omega)) rfl ?_)
    rw [shr_pow j (by omega)]
    skip
    refine TL_buildSlice Us.h Zi.h rfl rfl rfl rfl (fillu1 _) rfl rfl ?_
    intro w3 g e3 hg hz3 hown
    refine TL_appendB Us.h rfl rfl (ho2.ext e3) (OB_new (s := [_]) rfl hown hg hz3).rd (by have := e2.size; have := e3.size; omega) (by simp only [List.length_cons, List.length_nil]; omega) rfl ?_
    intro w4 v4 c4 ho4
    have hs2 := e2.size
    have hs3 := e3.size
    repeat' (first | apply Jbq | apply Jbr | apply Jbt | apply Jbx | (apply Jcg; (first | exact Jaa rfl | exact Jab rfl | exact Jap rfl rfl (by omega)); exact rfl))
    refine TN_round (j, acc ++ [pb (n / 256 ^ j)], v4) (subEnv_cons rfl (subEnv_cons rfl (subEnv_cons rfl (subEnv_nil _)))) ⟨by omega, ?_, by simp only [List.length_append, List.length_cons, List.length_nil]; omega, ?_, ho4⟩ (by simp only; omega)
    · rw [← heq, putR]; simp
    · exact (e2.ext e3).trans c4 (fun _ _ t => t) (fun i hi t => ⟨t.1, hi⟩)
  · obtain rfl : m = 0 := by omega
    simp only [putR, List.append_nil] at heq
    subst heq
    repeat' (first | apply Jbq | apply Jbr | apply Jbs | apply Jbt | apply Jbu | apply Jca | apply Jcb | apply Jcc | (apply Jcg; (first | exact Jaa rfl | exact Jab rfl); exact rfl))
    exact TR_of (res1 rfl rfl) ⟨e2, ho2⟩
theorem l01Pow_i {k : Int} (w : World) (hk : 0 ≤ k ∧ k ≤ 4) : Ret Tryz.prog 181 #[I k] w fun v w' => v = I (256 ^ k.toNat) ∧ w = w' := by
  obtain ⟨m, rfl⟩ := Int.eq_ofNat_of_zero_le hk.1
  exact l01Pow_c m w (by omega)
theorem pb_rem (x : Int) : UInt8.ofNat (x % 256 % 256).toNat = pb x := by unfold pb; rw [Int.emod_emod_of_dvd _ (Int.dvd_refl 256)]
theorem pPut_no {b : List UInt8} {n size : Int} (h : ¬ (1 ≤ size ∧ size ≤ 4 ∧ 0 ≤ n ∧ n < 256 ^ size.toNat ∧ (b.length : Int) + size ≤ 65536)) : pPut b n size = ([], false) := by unfold pPut; rw [if_neg h]
theorem pPut_yes {b : List UInt8} {n size : Int} (h : 1 ≤ size ∧ size ≤ 4 ∧ 0 ≤ n ∧ n < 256 ^ size.toNat ∧ (b.length : Int) + size ≤ 65536) : pPut b n size = (b ++ putR n size.toNat, true) := by unfold pPut; rw [if_pos h]
set_option maxHeartbeats 2000000 in
theorem specPutNum_k {lo hi : Nat} {vb : Value} {b : List UInt8} {n size : Int} {w : World} (hR : RB w lo hi vb b) (hl : b.length ≤ 1048576) :
    Ret Tryz.prog 166 #[vb, I n, I size] w fun v w' => ∃ v', v = .tuple #[v', .bool (pPut b n size).2] ∧ Ext w w' ∧ OB w' w.heap.size w'.heap.size v' (pPut b n size).1 := by
  have hr := hR
  obtain ⟨A, c, rfl, hc, _⟩ := hr
  refine Ret_enter Tryz.func166 rfl rfl rfl ?_
  by_cases h : 1 ≤ size ∧ size ≤ 4 ∧ 0 ≤ n ∧ n < 256 ^ size.toNat ∧ (b.length : Int) + size ≤ 65536
  · rw [pPut_yes h]
    obtain ⟨k, rfl⟩ := Int.eq_ofNat_of_zero_le (show 0 ≤ size by omega)
    rw [Int.toNat_natCast] at h ⊢
    have hk : k ≤ 4 := by omega
    have hp := pow4 k hk
    repeat' (first | apply Jbq | apply Jbr | apply Jbs | apply Jbt | apply Jbz | (apply Jcg; (first | exact Jaa rfl | exact Jab rfl | exact Jac Us.h rfl | exact Jad rfl rfl | exact Jai rfl rfl | exact Jam rfl rfl | exact Jao rfl rfl | exact Jap rfl rfl (by omega)); exact rfl) | refine Jch rfl rfl rfl ?_ | (refine TL_call rfl en181 (l01Pow_c k _ (by omega)) rfl rfl ?_; rintro _ _ ⟨rfl, rfl⟩) | (refine TL_buildSlice0 Us.h Sz.h rfl ?_; intro w1 g1 e1 hg1 hz1 hown1) | (refine Jcs rfl rfl (fun hb => ?_) (fun hb => ?_) <;> (try (exfalso; omega))) | (refine Jcx rfl (fun hb => ?_) (fun hb => ?_) <;> (try (exfalso; omega))))
    refine TL_appendB Us.h rfl rfl (OB_new (s := []) rfl hown1 hg1 hz1) (hR.ext e1) e1.size (by simp only [List.length_nil]; omega) rfl ?_
    intro w2 v2 c2 ho2
    have e2 := Ext.then_iv e1 c2 (Nat.le_refl _)
    have hz2 := e2.size
    rw [List.nil_append] at ho2
    repeat' (first | apply Jbq | apply Jbr | apply Jbs | apply Jbt | apply Jby | (apply Jcg; (first | exact Jaa rfl | exact Jab rfl | exact Jap rfl rfl (by omega)); exact rfl))
    refine TC_loop (ι := Nat × List UInt8 × Value) (fun x => [(1, I n), (8, x.2.2), (9, I ((x.1 : Int) - 1))])
      (fun x w' => x.1 ≤ k ∧ x.2.1 ++ putR n x.1 = b ++ putR n k ∧ x.2.1.length + x.1 = b.length + k ∧ Ext w w' ∧ OB w' w.heap.size w'.heap.size x.2.2 x.2.1) (fun x => x.1) (k, b, v2) (subEnv_cons rfl (subEnv_cons rfl (subEnv_cons rfl (subEnv_nil _)))) ⟨Nat.le_refl _, rfl, rfl, e2, ho2⟩ ?_
    rintro ⟨m, acc, va⟩ w3 ⟨hm, heq, hlen, e3, ho3⟩
    simp only at hm heq hlen ho3
    repeat' (first | apply Jbq | apply Jbr | apply Jbs | apply Jbt | (apply Jcg; (first | exact Jaa rfl | exact Jao rfl rfl); exact rfl))
    refine Jcx rfl (fun hb => ?_) (fun hb => ?_)
    · obtain ⟨j, rfl⟩ : ∃ j, m = j + 1 := ⟨m - 1, by omega⟩
      rw [show ((j + 1 : Nat) : Int) - 1 = j by omega]
      have hpj := pow4 j (by omega)
      have hq : 0 ≤ n / 256 ^ j := Int.ediv_nonneg (by omega) (by omega)
      repeat' (first | apply Jbr | apply Jbs | apply Jbt | apply Jby | apply Jbz | (apply Jcg; (first | exact Jaa rfl | exact Jaw Us.h Us.h rfl | exact Jbi rfl rfl (by omega) | exact Jbj rfl rfl (by omega)); exact rfl) | (refine TL_call rfl en181 (l01Pow_c j _ (by omega)) rfl rfl ?_; rintro _ _ ⟨rfl, rfl⟩))
      rw [pb_rem]
      refine TL_buildSlice Us.h Zi.h rfl rfl rfl rfl (fillu1 _) rfl rfl ?_
      intro w4 g4 e4 hg4 hz4 hown4
      refine TL_appendB Us.h rfl rfl (ho3.ext e4) (OB_new (s := [_]) rfl hown4 hg4 hz4).rd (by have := e3.size; have := e4.size; omega) (by simp only [List.length_cons, List.length_nil]; omega) rfl ?_
      intro w5 v5 c5 ho5
      repeat' (first | apply Jbq | apply Jbr | apply Jbt | apply Jbx | (apply Jcg; (first | exact Jaa rfl | exact Jab rfl | exact Jap rfl rfl (by omega)); exact rfl))
      refine TN_round (j, acc ++ [pb (n / 256 ^ j)], v5) (subEnv_cons rfl (subEnv_cons rfl (subEnv_cons rfl (subEnv_nil _)))) ⟨by omega, ?_, by simp only [List.length_append, List.length_cons, List.length_nil]; omega, Ext.then_iv (e3.ext e4) c5 (Nat.le_refl _), ho5⟩ (by simp only; omega)
      rw [← heq, putR]; simp
    · obtain rfl : m = 0 := by omega
      simp only [putR, List.append_nil] at heq
      subst heq
      repeat' (first | apply Jbq | apply Jbr | apply Jbs | apply Jbt | apply Jbu | apply Jca | apply Jcb | apply Jcc | (apply Jcg; (first | exact Jaa rfl | exact Jab rfl); exact rfl))
      exact TR_of (res2 rfl rfl rfl) ⟨_, rfl, e3, ho3⟩
  · rw [pPut_no h]
    repeat' (first | apply Jbq | apply Jbr | apply Jbs | apply Jbt | apply Jbu | apply Jbv | (refine Jce rfl ?_) | (apply Jcg; (first | exact Jaa rfl | exact Jab rfl | exact Jac Us.h rfl | exact Jad rfl rfl | exact Jah rfl rfl | exact Jai rfl rfl | exact Jam rfl rfl | exact Jao rfl rfl | exact Jap rfl rfl (by omega)); exact rfl) | refine Jch rfl rfl rfl ?_ | refine Jci rfl rfl rfl rfl rfl ?_ | (refine TL_call rfl en181 (l01Pow_i _ (by omega)) rfl rfl ?_; rintro _ _ ⟨rfl, rfl⟩) | (refine Jcs rfl rfl (fun hb => ?_) (fun hb => ?_) <;> (try (exfalso; omega))) | (refine Jcx rfl (fun hb => ?_) (fun hb => ?_) <;> (try (exfalso; omega))))
    all_goals exact TR_of (res2 rfl rfl rfl) ⟨_, rfl, Ch.refl _ _, OB.nil _ _ (Nat.le_refl _)⟩
theorem in_t {n lo hi : Int} (w : World) (h : lo ≤ n ∧ n ≤ hi) : Ret Tryz.prog 101 #[I n, I lo, I hi] w fun v w' => v = .bool true ∧ w = w' := (in_c n lo hi w).mono fun v w' ⟨h1, h2⟩ => ⟨by rw [h1]; simp [inB, h], h2⟩
theorem in_f {n lo hi : Int} (w : World) (h : ¬ (lo ≤ n ∧ n ≤ hi)) : Ret Tryz.prog 101 #[I n, I lo, I hi] w fun v w' => v = .bool false ∧ w = w' := (in_c n lo hi w).mono fun v w' ⟨h1, h2⟩ => ⟨by rw [h1]; unfold inB; rw [decide_eq_false h], h2⟩
theorem shl_pow : ∀ (k : Nat), k ≤ 4 → IntKind.i64.wrap (1 * 2 ^ min (8 * (k : Int)).toNat IntKind.i64.bits) = 256 ^ k
  | 0, _ => by decide
  | 1, _ => by decide
  | 2, _ => by decide
  | 3, _ => by decide
  | 4, _ => by decide
  | k + 5, h => by omega
theorem pGet_no {b : List UInt8} {a size : Int} (h : ¬ (1 ≤ size ∧ size ≤ 4 ∧ 0 ≤ a ∧ a ≤ b.length - size)) : pGet b a size = (0, false) := by unfold pGet; rw [if_neg h]
theorem pGet_yes {b : List UInt8} {a size : Int} (h : 1 ≤ size ∧ size ≤ 4 ∧ 0 ≤ a ∧ a ≤ b.length - size) : pGet b a size = (getF b a.toNat size.toNat, true) := by unfold pGet; rw [if_pos h]
theorem pow3 : ∀ k : Nat, k ≤ 3 → (256 : Int) ^ k ≤ 16777216
  | 0, _ => by decide
  | 1, _ => by decide
  | 2, _ => by decide
  | 3, _ => by decide
  | k + 4, h => by omega
theorem getF_bound (b : List UInt8) (a : Nat) {k : Nat} (hk : k < 4) : 0 ≤ getF b a k ∧ getF b a k < 16777216 := by
  have h := getF_lt b a k
  refine ⟨getF_nn b a k, ?_⟩
  have := pow3 k (by omega)
  omega
set_option maxHeartbeats 2000000 in
theorem specGetNum_k {lo hi : Nat} {vb : Value} {b : List UInt8} {a size : Int} {w : World} (hR : RB w lo hi vb b) (hl : b.length ≤ 1048576) :
    Ret Tryz.prog 179 #[vb, I a, I size] w fun v w' => v = .tuple #[I (pGet b a size).1, .bool (pGet b a size).2] ∧ Ext w w' := by
  obtain ⟨A, c, rfl, hc, hr⟩ := hR
  refine Ret_enter Tryz.func179 rfl rfl rfl ?_
  by_cases h : 1 ≤ size ∧ size ≤ 4 ∧ 0 ≤ a ∧ a ≤ b.length - size
  · rw [pGet_yes h]
    obtain ⟨k, rfl⟩ := Int.eq_ofNat_of_zero_le (show 0 ≤ size by omega)
    obtain ⟨a, rfl⟩ := Int.eq_ofNat_of_zero_le h.2.2.1
    rw [Int.toNat_natCast, Int.toNat_natCast] at *
    repeat' (first | apply Jbq | apply Jbr | apply Jbs | apply Jbt | apply Jby | apply Jbz | (apply Jcg; (first | exact Jaa rfl | exact Jab rfl | exact Jac Us.h rfl | exact Jad rfl rfl | exact Jai rfl rfl | exact Jam rfl rfl | exact Jap rfl rfl (by omega)); exact rfl) | refine Jch rfl rfl rfl ?_ | (refine Jcs rfl rfl (fun hb => ?_) (fun hb => ?_) <;> (try (exfalso; omega))) | (refine Jcx rfl (fun hb => ?_) (fun hb => ?_) <;> (try (exfalso; omega))))
    refine TC_loop (ι := Nat) (fun i => [(0, .slice A b.length c), (1, I a), (2, I k), (8, I (getF b a i)), (9, I i)]) (fun i w' => i ≤ k ∧ w = w') (fun i => k - i) 0 (subEnv_cons rfl (subEnv_cons rfl (subEnv_cons rfl (subEnv_cons rfl (subEnv_cons rfl (subEnv_nil _)))))) ⟨Nat.zero_le _, rfl⟩ ?_
    rintro i _ ⟨hi, rfl⟩
    repeat' (first | apply Jbq | apply Jbr | apply Jbs | apply Jbt | (apply Jcg; (first | exact Jaa rfl | exact Jad rfl rfl); exact rfl))
    refine Jcx rfl (fun hb => ?_) (fun hb => ?_)
    · obtain ⟨ad, rfl, hcell⟩ := hr.get (show a + i < b.length by omega)
      rw [u8s_get b (by omega)] at hcell
      have hg := getF_bound b a (k := i) (by omega)
      have hx := (b.getD (a + i) 0).toNat_lt
      repeat' (first | apply Jbq | apply Jbr | apply Jbs | apply Jbt | apply Jbx | apply Jby | apply Jbz | (apply Jcg; (first | exact Jaa rfl | exact Jab rfl | exact Jaf rfl rfl (by omega) | exact Jag Us.h Sz.h rfl rfl (by omega) | exact Jax Us.h Us.h rfl (by omega) | exact Jbk rfl rfl (by omega)); exact rfl) | refine Jcg (Pu_load Fl.h rfl (fun _ e => by rw [e]; exact hcell)) rfl ?_)
      exact TN_round (i + 1) (subEnv_cons rfl (subEnv_cons rfl (subEnv_cons rfl (subEnv_cons rfl (subEnv_cons rfl (subEnv_nil _)))))) ⟨by omega, rfl⟩ (by omega)
    · obtain rfl : i = k := by omega
      repeat' (first | apply Jbq | apply Jbr | apply Jbs | apply Jbt | apply Jbu | apply Jca | apply Jcb | apply Jcc | (apply Jcg; (first | exact Jaa rfl | exact Jab rfl); exact rfl))
      exact TR_of (res2 rfl rfl rfl) ⟨rfl, Ch.refl _ _⟩
  · rw [pGet_no h]
    repeat' (first | apply Jbq | apply Jbr | apply Jbs | apply Jbt | apply Jbu | apply Jbv | (refine Jce rfl ?_) | (apply Jcg; (first | exact Jaa rfl | exact Jab rfl | exact Jac Us.h rfl | exact Jad rfl rfl | exact Jah rfl rfl | exact Jai rfl rfl | exact Jam rfl rfl | exact Jap rfl rfl (by omega)); exact rfl) | refine Jch rfl rfl rfl ?_ | refine Jci rfl rfl rfl rfl rfl ?_ | (refine Jcs rfl rfl (fun hb => ?_) (fun hb => ?_) <;> (try (exfalso; omega))) | (refine Jcx rfl (fun hb => ?_) (fun hb => ?_) <;> (try (exfalso; omega))))
    all_goals exact TR_of (res2 rfl rfl rfl) ⟨rfl, Ch.refl _ _⟩
theorem bit_or8 (m : Int) (x : UInt8) (h0 : 0 ≤ m) (h1 : m < 16777216) : bitv .or .i64 (IntKind.i64.wrap (m * 2 ^ min (8 : Int).toNat IntKind.i64.bits)) (x.toNat : Int) = m * 256 + x.toNat := by
  have hx := x.toNat_lt
  obtain ⟨a, rfl⟩ := Int.eq_ofNat_of_zero_le h0
  have e1 : IntKind.i64.wrap ((a : Int) * 2 ^ min (8 : Int).toNat IntKind.i64.bits) = ((a * 256 : Nat) : Int) := by
    rw [show min (8 : Int).toNat IntKind.i64.bits = 8 from by decide, IntWalk.i64_in _ (by omega)]; omega
  rw [e1]
  have e3 : a * 256 ||| x.toNat = a * 256 + x.toNat := by
    have := Nat.shiftLeft_add_eq_or_of_lt (i := 8) (b := x.toNat) (by omega) a
    rw [Nat.shiftLeft_eq] at this
    exact this.symm
  have e2 : (BitVec.ofInt 64 ((a * 256 : Nat) : Int) ||| BitVec.ofInt 64 (x.toNat : Int)).toNat = a * 256 + x.toNat := by
    rw [BitVec.ofInt_natCast, BitVec.ofInt_natCast, BitVec.toNat_or, BitVec.toNat_ofNat, BitVec.toNat_ofNat, Nat.mod_eq_of_lt (by omega), Nat.mod_eq_of_lt (by omega), e3]
  show IntKind.i64.wrap (((BitVec.ofInt 64 ((a * 256 : Nat) : Int) ||| BitVec.ofInt 64 (x.toNat : Int)).toNat : Nat) : Int) = _
  rw [e2, IntWalk.i64_in _ (by omega)]; omega
set_option maxHeartbeats 2000000 in
theorem implGetNum_k {lo hi : Nat} {vb : Value} {b : List UInt8} {a size : Int} {w : World} (hR : RB w lo hi vb b) (hl : b.length ≤ 1048576) :
    Ret Tryz.prog 178 #[vb, I a, I size] w fun v w' => v = .tuple #[I (pGet b a size).1, .bool (pGet b a size).2] ∧ Ext w w' := by
  obtain ⟨A, c, rfl, hc, hr⟩ := hR
  refine Ret_enter Tryz.func178 rfl rfl rfl ?_
  by_cases hs : 1 ≤ size ∧ size ≤ 4
  · by_cases h : 0 ≤ a ∧ a ≤ b.length - size
    · rw [pGet_yes ⟨hs.1, hs.2, h⟩]
      obtain ⟨k, rfl⟩ := Int.eq_ofNat_of_zero_le (show 0 ≤ size by omega)
      obtain ⟨a, rfl⟩ := Int.eq_ofNat_of_zero_le h.1
      rw [Int.toNat_natCast, Int.toNat_natCast] at *
      have hm := Rd.mid8 (a := a) (b := a + k) hr (by omega) hc
      repeat' (first | apply Jbq | apply Jbr | apply Jbs | apply Jbt | apply Jby | apply Jbz | (apply Jcg; (first | exact Jaa rfl | exact Jab rfl | exact Jac Us.h rfl | exact Jad rfl rfl | exact Jaf rfl rfl (by omega) | exact Jai rfl rfl | exact Jaj rfl | exact Jam rfl rfl | exact Jap rfl rfl (by omega) | exact Jbc Us.h Sz.h rfl rfl rfl (by omega)); exact rfl) | refine Jch rfl rfl rfl ?_ | (refine TL_call rfl en101 (in_t _ hs) rfl rfl ?_; rintro _ _ ⟨rfl, rfl⟩) | (refine Jcx rfl (fun hb => ?_) (fun hb => ?_) <;> (try (exfalso; omega))))
      obtain ⟨t, ht⟩ : ∃ t, t = (b.take ((a : Int) + k).toNat).drop (a : Int).toNat := ⟨_, rfl⟩
      have hd : ((a : Int) + k).toNat - (a : Int).toNat = k := by omega
      have htl : t.length = k := by rw [ht, List.length_drop, List.length_take]; omega
      rw [hd, ← ht] at hm
      rw [hd]
      obtain ⟨A2, hA2⟩ : ∃ A2, A2 = cutA A c (a : Int).toNat 1 := ⟨_, rfl⟩
      rw [← hA2] at hm ⊢
      obtain ⟨c2, hc2⟩ : ∃ c2, c2 = c - (a : Int).toNat := ⟨_, rfl⟩
      rw [← hc2]
      skip
      refine TC_loop (ι := Nat) (fun i => [(31, .slice A2 k c2), (32, I k), (8, I (getF b a i)), (33, I i)]) (fun i w' => i ≤ k ∧ w = w') (fun i => k - i) 0 (subEnv_cons rfl (subEnv_cons rfl (subEnv_cons rfl (subEnv_cons rfl (subEnv_nil _))))) ⟨Nat.zero_le _, rfl⟩ ?_
      rintro i _ ⟨hi, rfl⟩
      repeat' (first | apply Jbq | apply Jbr | apply Jbs | apply Jbt | (apply Jcg; exact Jad rfl rfl; exact rfl))
      refine Jcx rfl (fun hb => ?_) (fun hb => ?_)
      · obtain ⟨ad, rfl, hcell⟩ := hm.get (show i < k by omega)
        rw [u8s_get t (by omega)] at hcell
        have hg := getF_bound b a (k := i) (by omega)
        have hx : t.getD i 0 = b.getD (a + i) 0 := by
          rw [ht, List.getD_eq_getElem?_getD, List.getElem?_drop, List.getElem?_take_of_lt (by omega), List.getD_eq_getElem?_getD, Int.toNat_natCast]
        rw [hx] at hcell
        have hx2 := (b.getD (a + i) 0).toNat_lt
        repeat' (first | apply Jbq | apply Jbr | apply Jbs | apply Jbt | apply Jbx | apply Jby | apply Jbz | (apply Jcg; (first | exact Jaa rfl | exact Jab rfl | exact Jaf rfl rfl (by omega) | exact Jag Us.h Sz.h rfl rfl (by omega) | exact Jax Us.h Us.h rfl (by omega)); exact rfl) | refine Jcg (Pu_load Fl.h rfl (fun _ e => by rw [e]; exact hcell)) rfl ?_ | (refine Jcg (Pu_shl rfl rfl (by omega)) rfl ?_) | (refine Jcg (Pu_or rfl rfl) rfl ?_))
        rw [bit_or8 _ _ hg.1 hg.2]
        exact TN_round (i + 1) (subEnv_cons rfl (subEnv_cons rfl (subEnv_cons rfl (subEnv_cons rfl (subEnv_nil _))))) ⟨by omega, rfl⟩ (by omega)
      · obtain rfl : i = k := by omega
        repeat' (first | apply Jbq | apply Jbr | apply Jbs | apply Jbt | apply Jbu | apply Jca | apply Jcb | apply Jcc | (apply Jcg; (first | exact Jaa rfl | exact Jab rfl); exact rfl))
        exact TR_of (res2 rfl rfl rfl) ⟨rfl, Ch.refl _ _⟩
    · rw [pGet_no (fun q => h q.2.2)]
      repeat' (first | apply Jbq | apply Jbr | apply Jbs | apply Jbt | apply Jbu | apply Jbv | (refine Jce rfl ?_) | (apply Jcg; (first | exact Jaa rfl | exact Jab rfl | exact Jac Us.h rfl | exact Jad rfl rfl | exact Jah rfl rfl | exact Jai rfl rfl | exact Jaj rfl | exact Jam rfl rfl | exact Jap rfl rfl (by omega)); exact rfl) | refine Jch rfl rfl rfl ?_ | refine Jci rfl rfl rfl rfl rfl ?_ | (refine TL_call rfl en101 (in_t _ hs) rfl rfl ?_; rintro _ _ ⟨rfl, rfl⟩) | (refine Jcs rfl rfl (fun hb => ?_) (fun hb => ?_) <;> (try (exfalso; omega))) | (refine Jcx rfl (fun hb => ?_) (fun hb => ?_) <;> (try (exfalso; omega))))
      all_goals exact TR_of (res2 rfl rfl rfl) ⟨rfl, Ch.refl _ _⟩
  · rw [pGet_no (fun q => hs ⟨q.1, q.2.1⟩)]
    repeat' (first | apply Jbq | apply Jbr | apply Jbs | apply Jbt | apply Jbu | apply Jbv | (refine Jce rfl ?_) | (apply Jcg; (first | exact Jaa rfl | exact Jab rfl | exact Jah rfl rfl | exact Jaj rfl); exact rfl) | refine Jci rfl rfl rfl rfl rfl ?_ | (refine TL_call rfl en101 (in_f _ hs) rfl rfl ?_; rintro _ _ ⟨rfl, rfl⟩))
    all_goals exact TR_of (res2 rfl rfl rfl) ⟨rfl, Ch.refl _ _⟩
end Go.Proofs.YtggaghghclomkaaGreat
